/- one act, in both answers: what a list becomes. -/
import Derived.Test.YtdkgiklbmbkdaaaEn
namespace Go.Proofs.Ytdkgiklbmbkdaaa
open Go.ChangeShapes Go.WideShapes Go.RowKit Go.Maps Bv Fl
set_option maxHeartbeats 1000000
theorem putH_len {s : ByteArray} {z : Int} : ∀ (l : List Pr), (putH s z l).length = 1 + (l.filter (fun q => decide (q.nm ≠ s))).length
  | [] => rfl
  | p :: l => by
    rw [putH]
    split
    · rw [List.length_cons, Nat.add_comm]
    · rename_i hl
      have h : p.nm ≠ s := fun e => hl (by rw [e]; exact leB_iff.2 (List.le_refl _))
      rw [List.filter_cons_of_pos (by simpa using h), List.length_cons, List.length_cons, putH_len l, Nat.add_assoc]
theorem putR_len_no (L : List Pr) (s : ByteArray) (z : Int) : (putR L s z).length ≤ L.length + 1 := by
  rw [putR_eq, putH_len]
  have := List.length_filter_le (fun q : Pr => decide (q.nm ≠ s)) L
  omega
theorem putR_len_yes {L : List Pr} {s : ByteArray} (z : Int) (h : HasN L s) : (putR L s z).length ≤ L.length := by
  rw [putR_eq, putH_len]
  obtain ⟨p, hp, e⟩ := h
  have := (List.length_filter_lt_length_iff_exists (p := fun q : Pr => decide (q.nm ≠ s)) (l := L)).2 ⟨p, hp, by simpa using e⟩
  omega
open Classical in
/-- a list, its frame's other list, a name: what the list becomes -/
noncomputable def upL (L M : List Pr) (s : ByteArray) (z : Int) : List Pr := if HasN L s ∨ L.length + M.length < 64 then putR L s z else L
open Classical in
noncomputable def upE (L M : List Pr) (s : ByteArray) : Int := if HasN L s ∨ L.length + M.length < 64 then 0 else 26
theorem upL_in {L M : List Pr} {s : ByteArray} {z : Int} (h : HasN L s ∨ L.length + M.length < 64) : upL L M s z = putR L s z := if_pos h
theorem upE_in {L M : List Pr} {s : ByteArray} (h : HasN L s ∨ L.length + M.length < 64) : upE L M s = 0 := if_pos h
theorem upL_out {L M : List Pr} {s : ByteArray} {z : Int} (h : ¬ HasN L s) (h2 : 64 ≤ L.length + M.length) : upL L M s z = L := if_neg (fun e => e.elim h (fun e => by omega))
theorem upE_out {L M : List Pr} {s : ByteArray} (h : ¬ HasN L s) (h2 : 64 ≤ L.length + M.length) : upE L M s = 26 := if_neg (fun e => e.elim h (fun e => by omega))
theorem upL_len {L M : List Pr} {s : ByteArray} {z : Int} (h : L.length + M.length ≤ 64) : (upL L M s z).length + M.length ≤ 64 := by
  by_cases hh : HasN L s
  · rw [upL_in (.inl hh)]
    have := putR_len_yes z hh
    omega
  · by_cases h2 : L.length + M.length < 64
    · rw [upL_in (.inr h2)]
      have := putR_len_no L s z
      omega
    · rw [upL_out hh (by omega)]
      exact h
def updF {α : Type} (f : Nat → α) (k : Nat) (x : α) : Nat → α := fun i => if i = k then x else f i
theorem updF_same {α : Type} (f : Nat → α) (k : Nat) (x : α) : updF f k x k = x := if_pos rfl
theorem updF_other {α : Type} (f : Nat → α) {k i : Nat} (x : α) (h : i ≠ k) : updF f k x i = f i := if_neg h
/-- one list of a frame, in the document's way -/
def FL (w : World) (A : Option Addr) (n : Nat) (L : List Pr) (base : Nat) : Prop := Hid (n = L.length) ∧ SlS w 2 A n (prc L) (New base)
theorem FL.ext {w w' : World} {A : Option Addr} {n : Nat} {L : List Pr} {base : Nat} (h : FL w A n L base) (hx : Ext w w') : FL w' A n L base := ⟨h.1, h.2.ext hx⟩
theorem FL.grown {w w' : World} {A : Option Addr} {n : Nat} {L : List Pr} {base g : Nat} (h : FL w A n L base) (hg : w.grownBy w' (some g)) (hb : g < base) : FL w' A n L base := ⟨h.1, h.2.grown hg (by dsimp only [New]; omega)⟩
theorem rset_V (A : Option Addr) (n c : Nat) (A2 : Option Addr) (n2 c2 : Nat) (V F : List Pr) (s : ByteArray) (z : Int) (base : Nat) (w : World) (HV : FL w A n V base) (HF : FL w A2 n2 F base) (hb : base ≤ w.heap.size) (hl : V.length + F.length ≤ 64) :
    Calls Try.prog 6 #[.agg #[.slice A n c, .slice A2 n2 c2], .string s, .int .i64 z, .bool false] w fun e w' => ∃ A' n' c' B' m' b', e = .returned (.tuple #[.agg #[.slice A' n' c', .slice B' m' b'], .int .i64 (upE V F s)]) ∧ FL w' A' n' (upL V F s z) base ∧ FL w' B' m' F base ∧ Ext w w' := by
  have h1 := HV.1.out
  have h2 := HF.1.out
  by_cases hh : HasN V s
  · refine (rset_v_yes A n c A2 n2 c2 V F s z w HV.1 HF.1 (by omega) (by omega) HV.2.is HF.2.is hh).mono ?_
    rintro e w' ⟨B, m, b, rfl, hm, HR, x⟩
    rw [upE_in (.inl hh), upL_in (.inl hh)]
    exact ⟨B, m, b, A2, n2, c2, rfl, ⟨hm, HR.mono (fun i _ h => by dsimp only [New] at *; omega)⟩, HF.ext x, x⟩
  · by_cases h3 : V.length + F.length < 64
    · refine (rset_v_no A n c A2 n2 c2 V F s z w HV.1 HF.1 (by omega) (by omega) HV.2.is HF.2.is hh (by omega)).mono ?_
      rintro e w' ⟨B, m, b, rfl, hm, HR, x⟩
      rw [upE_in (.inr h3), upL_in (.inr h3)]
      exact ⟨B, m, b, A2, n2, c2, rfl, ⟨hm, HR.mono (fun i _ h => by dsimp only [New] at *; omega)⟩, HF.ext x, x⟩
    · refine (rset_v_full A n c A2 n2 c2 V F s z w HV.1 HF.1 (by omega) (by omega) HV.2.is HF.2.is hh (by omega)).mono ?_
      rintro e w' ⟨rfl, x⟩
      rw [upE_out hh (by omega), upL_out hh (by omega)]
      exact ⟨A, n, c, A2, n2, c2, rfl, HV.ext x, HF.ext x, x⟩
theorem rset_F (A : Option Addr) (n c : Nat) (A2 : Option Addr) (n2 c2 : Nat) (V F : List Pr) (s : ByteArray) (z : Int) (base : Nat) (w : World) (HV : FL w A n V base) (HF : FL w A2 n2 F base) (hb : base ≤ w.heap.size) (hl : V.length + F.length ≤ 64) :
    Calls Try.prog 6 #[.agg #[.slice A n c, .slice A2 n2 c2], .string s, .int .i64 z, .bool true] w fun e w' => ∃ A' n' c' B' m' b', e = .returned (.tuple #[.agg #[.slice A' n' c', .slice B' m' b'], .int .i64 (upE F V s)]) ∧ FL w' A' n' V base ∧ FL w' B' m' (upL F V s z) base ∧ Ext w w' := by
  have h1 := HV.1.out
  have h2 := HF.1.out
  by_cases hh : HasN F s
  · refine (rset_f_yes A n c A2 n2 c2 V F s z w HV.1 HF.1 (by omega) (by omega) HV.2.is HF.2.is hh).mono ?_
    rintro e w' ⟨B, m, b, rfl, hm, HR, x⟩
    rw [upE_in (.inl hh), upL_in (.inl hh)]
    exact ⟨A, n, c, B, m, b, rfl, HV.ext x, ⟨hm, HR.mono (fun i _ h => by dsimp only [New] at *; omega)⟩, x⟩
  · by_cases h3 : F.length + V.length < 64
    · refine (rset_f_no A n c A2 n2 c2 V F s z w HV.1 HF.1 (by omega) (by omega) HV.2.is HF.2.is hh (by omega)).mono ?_
      rintro e w' ⟨B, m, b, rfl, hm, HR, x⟩
      rw [upE_in (.inr h3), upL_in (.inr h3)]
      exact ⟨A, n, c, B, m, b, rfl, HV.ext x, ⟨hm, HR.mono (fun i _ h => by dsimp only [New] at *; omega)⟩, x⟩
    · refine (rset_f_full A n c A2 n2 c2 V F s z w HV.1 HF.1 (by omega) (by omega) HV.2.is HF.2.is hh (by omega)).mono ?_
      rintro e w' ⟨rfl, x⟩
      rw [upE_out hh (by omega), upL_out hh (by omega)]
      exact ⟨A, n, c, A2, n2, c2, rfl, HV.ext x, HF.ext x, x⟩
/-- the frames' part of the state -/
structure EE (w : World) (base : Nat) (B bm bf : Nat → Nat) (al : Addr) (V F : Nat → List Pr) (N : Nat) (DV DF : Nat → DataW Value) : Prop where
  ord : ∀ i, i < 2 → B i < B (i + 1)
  c0 : ∀ i, i < 3 → w.cell? ⟨B i, 0, none⟩ = some (pP B i)
  c1 : ∀ i, i < 3 → w.cell? ⟨B i, 1, none⟩ = some (.map (some (bm i)))
  c2 : ∀ i, i < 3 → w.cell? ⟨B i, 2, none⟩ = some (.map (some (bf i)))
  c3 : ∀ i, i < 3 → w.cell? ⟨B i, 3, none⟩ = some (.int .i64 (i : Nat))
  l : ∀ i, i < 3 → w.cell? (al.add i) = some (.pointer (some ⟨B i, 0, none⟩))
  vs : ∀ i, i < 3 → MV w (bm i) (V i) base N (DV i)
  fs : ∀ i, i < 3 → MF w (bf i) (F i) (B i) N (DF i)
/-- where it all lies -/
structure NumB (s0 base : Nat) (B bm bf : Nat → Nat) (al ar : Addr) : Prop where
  all : s0 ≤ bm 0 ∧ bm 0 < bf 0 ∧ bf 0 < B 0 ∧ B 0 < bm 1 ∧ bm 1 < bf 1 ∧ bf 1 < B 1 ∧ B 1 < bm 2 ∧ bm 2 < bf 2 ∧ bf 2 < B 2 ∧ B 2 < ar.block ∧ al.block < ar.block ∧ ar.block < base ∧ al.block ≠ bm 0 ∧ al.block ≠ bf 0 ∧ al.block ≠ bm 1 ∧ al.block ≠ bf 1 ∧ al.block ≠ bm 2 ∧ al.block ≠ bf 2
theorem NumB.at {s0 base : Nat} {B bm bf : Nat → Nat} {al ar : Addr} (h : NumB s0 base B bm bf al ar) {k : Nat} (hk : k < 3) : (s0 ≤ bm k ∧ bm k < bf k ∧ bf k < B k ∧ B k < ar.block ∧ al.block < ar.block ∧ ar.block < base ∧ al.block ≠ bm k ∧ al.block ≠ bf k) ∧ ∀ i, i < 3 → bm i < base ∧ bf i < base ∧ B i < base ∧ B i < ar.block ∧ bm i < bf i ∧ bf i < B i ∧ B i ≠ bm k ∧ B i ≠ bf k ∧ bm i ≠ bf k ∧ bf i ≠ bm k ∧ (i ≠ k → bm i ≠ bm k ∧ bf i ≠ bf k) := by
  have ha := h.all
  have hc : k = 0 ∨ k = 1 ∨ k = 2 := by omega
  refine ⟨by rcases hc with rfl | rfl | rfl <;> omega, fun i hi => ?_⟩
  have hd : i = 0 ∨ i = 1 ∨ i = 2 := by omega
  rcases hc with rfl | rfl | rfl <;> rcases hd with rfl | rfl | rfl <;> omega
section
variable {w w' : World} {s0 base : Nat} {B bm bf : Nat → Nat} {al ar : Addr} {V F : Nat → List Pr} {N : Nat} {DV DF : Nat → DataW Value}
theorem EE.es (h : EE w base B bm bf al V F N DV DF) (hr : RF w ar V F base) (hl : ∀ i, i < 3 → (V i).length + (F i).length ≤ 64) : ES w base B bm bf al ar V F N DV DF := ⟨h.ord, h.c0, h.c1, h.c2, h.c3, h.l, hr, h.vs, h.fs, hl⟩
theorem EE.ext (h : EE w base B bm bf al V F N DV DF) (hx : Ext w w') : EE w' base B bm bf al V F N DV DF :=
  ⟨h.ord, fun i hi => cell_ext hx (h.c0 i hi), fun i hi => cell_ext hx (h.c1 i hi), fun i hi => cell_ext hx (h.c2 i hi), fun i hi => cell_ext hx (h.c3 i hi), fun i hi => cell_ext hx (h.l i hi), fun i hi => (h.vs i hi).ext hx, fun i hi => (h.fs i hi).ext hx⟩
/-- a store into the document's row -/
theorem EE.grown (h : EE w base B bm bf al V F N DV DF) {g : Nat} (hg : w.grownBy w' (some g)) (hn : NumB s0 base B bm bf al ar ∧ g = ar.block) : EE w' base B bm bf al V F N DV DF := by
  obtain ⟨hn, rfl⟩ := hn
  have H := (hn.at (k := 0) (by omega))
  refine ⟨h.ord, fun i hi => cell_grown hg (h.c0 i hi) ?_, fun i hi => cell_grown hg (h.c1 i hi) ?_, fun i hi => cell_grown hg (h.c2 i hi) ?_, fun i hi => cell_grown hg (h.c3 i hi) ?_, fun i hi => cell_grown hg (h.l i hi) ?_, fun i hi => (h.vs i hi).grown hg ?_ ?_, fun i hi => (h.fs i hi).grown hg ?_⟩
  case refine_5 => rw [addr_block]; omega
  all_goals (have := H.2 i hi; have := H.1; first | omega | (show B i ≠ _; omega))
theorem MV.more {b base N N' : Nat} {L : List Pr} {D : DataW Value} (h : MV w b L base N D) (hN : N ≤ N') : MV w b L base N' D := let ⟨⟨n, h1, h2⟩, h3⟩ := h; ⟨⟨n, Nat.le_trans h1 hN, h2⟩, h3⟩
theorem MF.more {b B0 N N' : Nat} {L : List Pr} {D : DataW Value} (h : MF w b L B0 N D) (hN : N ≤ N') : MF w b L B0 N' D := let ⟨⟨n, h1, h2⟩, h3⟩ := h; ⟨⟨n, Nat.le_trans h1 hN, h2⟩, h3⟩
theorem MV.val {b base N : Nat} {L : List Pr} {D : DataW Value} (h : MV w b L base N D) (s : ByteArray) : ∃ v, .held v = D.atKey (.string s.data.toList) (.held zeroArr) := by
  by_cases hh : Maps.has D (.string s.data.toList) = true
  · obtain ⟨p, hp, rfl⟩ := (h.2.1.has s).1 hh
    obtain ⟨_, _, v, e, _⟩ := h.2.2 p hp
    exact ⟨v, e⟩
  · exact ⟨zeroArr, (atKey_no (by simpa using hh)).symm⟩
theorem MF.val {b B0 N : Nat} {L : List Pr} {D : DataW Value} (h : MF w b L B0 N D) (s : ByteArray) : ∃ v, .held v = D.atKey (.string s.data.toList) (.held zeroClo) := by
  by_cases hh : Maps.has D (.string s.data.toList) = true
  · obtain ⟨p, hp, rfl⟩ := (h.2.1.has s).1 hh
    obtain ⟨_, _, e⟩ := h.2.2 p hp
    exact ⟨_, e⟩
  · exact ⟨zeroClo, (atKey_no (by simpa using hh)).symm⟩
/-- the frames behind a Set in frame k -/
theorem EE.setV (h : EE w base B bm bf al V F N DV DF) (hn : NumB s0 base B bm bf al ar) {k : Nat} (hk : k < 3) (hg : w.grownBy w' (some (bm k))) {L : List Pr} {D : DataW Value} (hm : MV w' (bm k) L base (N + 1) D) : EE w' base B bm bf al (updF V k L) F (N + 1) (updF DV k D) DF := by
  have H := hn.at hk
  refine ⟨h.ord, fun i hi => cell_grown hg (h.c0 i hi) ?_, fun i hi => cell_grown hg (h.c1 i hi) ?_, fun i hi => cell_grown hg (h.c2 i hi) ?_, fun i hi => cell_grown hg (h.c3 i hi) ?_, fun i hi => cell_grown hg (h.l i hi) ?_, fun i hi => ?_, fun i hi => ((h.fs i hi).grown hg ?_).more (by omega)⟩
  case refine_5 => rw [addr_block]; have := H.1; have := H.2 i hi; omega
  case refine_6 =>
    by_cases e : i = k
    · subst e; rw [updF_same, updF_same]; exact hm
    · rw [updF_other _ _ e, updF_other _ _ e]
      have := H.2 i hi; have := H.1
      exact ((h.vs i hi).grown hg (by omega) (by omega)).more (by omega)
  all_goals (have := H.2 i hi; first | omega | (show B i ≠ _; omega))
theorem EE.setF (h : EE w base B bm bf al V F N DV DF) (hn : NumB s0 base B bm bf al ar) {k : Nat} (hk : k < 3) (hg : w.grownBy w' (some (bf k))) {L : List Pr} {D : DataW Value} (hm : MF w' (bf k) L (B k) (N + 1) D) : EE w' base B bm bf al V (updF F k L) (N + 1) DV (updF DF k D) := by
  have H := hn.at hk
  refine ⟨h.ord, fun i hi => cell_grown hg (h.c0 i hi) ?_, fun i hi => cell_grown hg (h.c1 i hi) ?_, fun i hi => cell_grown hg (h.c2 i hi) ?_, fun i hi => cell_grown hg (h.c3 i hi) ?_, fun i hi => cell_grown hg (h.l i hi) ?_, fun i hi => ((h.vs i hi).grown hg ?_ ?_).more (by omega), fun i hi => ?_⟩
  case refine_5 => rw [addr_block]; have := H.1; have := H.2 i hi; omega
  case refine_8 =>
    by_cases e : i = k
    · subst e; rw [updF_same, updF_same]; exact hm
    · rw [updF_other _ _ e, updF_other _ _ e]
      have := H.2 i hi; have := H.1
      exact ((h.fs i hi).grown hg (by omega)).more (by omega)
  all_goals (have := H.2 i hi; have := H.1; first | omega | (show B i ≠ _; omega))
theorem keyL (s : ByteArray) : WideAt.IsKeyLit (.string s.data.toList) := trivial
theorem MV.put {k N : Nat} {L : List Pr} {D : DataW Value} (h : MV w k L base N D) {g n : Nat} (hn : n ≤ N + 1) {s : ByteArray} {v : Value} {z : Int} (hz : 0 ≤ z ∧ z < 256) (ha : AV w v z base) (hg : w.grownBy w' (some g)) (hb : g < base) (ho : OM w' k n (D.put (.string s.data.toList) (.held v))) : MV w' k (putR L s z) base (N + 1) (D.put (.string s.data.toList) (.held v)) := by
  obtain ⟨⟨n0, _, h0⟩, hr, hp⟩ := h
  have hD := World.ownsMap.isMap h0
  refine ⟨⟨n, hn, ho⟩, hr.put hD s z v, fun p hpm => ?_⟩
  rcases putR_mem.1 hpm with rfl | ⟨h1, h2⟩
  · exact ⟨hz.1, hz.2, v, (atKey_put_same hD (keyL s) _ _).symm, ha.grown hg hb⟩
  · obtain ⟨a1, a2, v', e, ha'⟩ := hp p h1
    exact ⟨a1, a2, v', e.trans (atKey_put_other (fun e => h2 (by injection e with e; exact key_inj e)) _ _).symm, ha'.grown hg hb⟩
theorem MF.put {k N B0 : Nat} {L : List Pr} {D : DataW Value} (h : MF w k L B0 N D) {n : Nat} (hn : n ≤ N + 1) {s : ByteArray} {z : Int} (hz : 0 ≤ z ∧ z < 256) (ho : OM w' k n (D.put (.string s.data.toList) (.held (cloV z B0)))) : MF w' k (putR L s z) B0 (N + 1) (D.put (.string s.data.toList) (.held (cloV z B0))) := by
  obtain ⟨⟨n0, _, h0⟩, hr, hp⟩ := h
  have hD := World.ownsMap.isMap h0
  refine ⟨⟨n, hn, ho⟩, hr.put hD s z _, fun p hpm => ?_⟩
  rcases putR_mem.1 hpm with rfl | ⟨h1, h2⟩
  · exact ⟨hz.1, hz.2, (atKey_put_same hD (keyL s) _ _).symm⟩
  · obtain ⟨a1, a2, e⟩ := hp p h1
    exact ⟨a1, a2, e.trans (atKey_put_other (fun e => h2 (by injection e with e; exact key_inj e)) _ _).symm⟩
theorem Grw.of_ext {g : Nat} (h : Ext w w') : Grw w g w' := ⟨h.os, h.tape, h.output, h.size, fun i hi _ => h.block i hi⟩
end
theorem MF.fit {w : World} {b B0 N : Nat} {L : List Pr} {D : DataW Value} (h : MF w b L B0 N D) {s : ByteArray} (hs : s.size ≤ maxLen) : ∃ v, ∀ w', Ext w w' → (Instr.lookup 60 (.map (some b)) (.string s) true).run Try.prog w' = .ok (.tuple #[v, .bool (Maps.has D (.string s.data.toList))]) w' := by
  obtain ⟨v, hv⟩ := h.val s
  obtain ⟨⟨n, _, ho⟩, _⟩ := h
  refine ⟨v, fun w' hx => ?_⟩
  obtain ⟨v', h1, h2⟩ := (ho.ext hx).lookC hs
  rw [← hv] at h2
  cases h2
  exact h1
/-- Set, in frame k -/
theorem eset {w0 w : World} {base : Nat} {B bm bf : Nat → Nat} {al ar : Addr} {V F : Nat → List Pr} {N : Nat} {DV DF : Nat → DataW Value} (E : Ext w0 w) (hn : NumB w0.heap.size base B bm bf al ar) (h : EE w base B bm bf al V F N DV DF) {k : Nat} (hk : k < 3) (hN : N < 900) (hl : (V k).length + (F k).length ≤ 64) {s : ByteArray} (hs : s.size ≤ maxLen) {z : Int} (hz : 0 ≤ z ∧ z < 256) {v : Value} (ha : AV w v z base) :
    Calls Try.prog 7 #[.pointer (some ⟨B k, 0, none⟩), .string s, v] w fun e w' => e = .returned (.int .i64 (upE (V k) (F k) s)) ∧ Grw w (bm k) w' ∧ ∃ DV', EE w' base B bm bf al (updF V k (upL (V k) (F k) s z)) F (N + 1) DV' DF := by
  have H := (hn.at hk).1
  have HM := h.vs k hk
  have HF := h.fs k hk
  obtain ⟨v0, hv0⟩ := HM.val s
  obtain ⟨⟨n, hnN, ho⟩, hr, hp⟩ := HM
  obtain ⟨⟨n2, _, ho2⟩, hr2, _⟩ := HF
  have C1 := h.c1 k hk
  have C2 := h.c2 k hk
  have hBl := World.block_lt_of_cell? _ _ C1
  have hfit := fun w' hx => ho.fitA (v := v0) hs hv0 w' hx
  by_cases hh : HasN (V k) s
  · rw [(hr.has s).2 hh] at hfit
    refine (set_put w s hs (B k) (bm k) w0 E H.1 hBl C1 (by omega) n (DV k) (by omega) ho v v0 ha.flat true hfit (fun w' hx => room_there w' (B k) (bm k) (bf k) (cell_ext hx C1) (cell_ext hx C2))).mono ?_
    rintro e w' ⟨rfl, h1, h2, _⟩
    rw [upE_in (.inl hh), upL_in (.inl hh)]
    exact ⟨rfl, h2, _, h.setV hn hk h2 ((h.vs k hk).put (by omega) hz ha h2 (by omega) h1)⟩
  · have hf : Maps.has (DV k) (.string s.data.toList) = false := by
      cases hc : Maps.has (DV k) (.string s.data.toList) with
      | false => rfl
      | true => exact absurd ((hr.has s).1 hc) hh
    rw [hf] at hfit
    have L1 : ∀ w', Ext w w' → ∀ ty, (Builtin.len_ #[59] ty #[.map (some (bm k))]).run Try.prog w' = .ok (.int .i64 ((V k).length : Int)) w' := fun w' hx ty => by
      rw [← hr.size ho]
      exact (ho.ext hx).lenA ty
    have L2 : ∀ w', Ext w w' → ∀ ty, (Builtin.len_ #[60] ty #[.map (some (bf k))]).run Try.prog w' = .ok (.int .i64 ((F k).length : Int)) w' := fun w' hx ty => by
      rw [← hr2.size ho2]
      exact (ho2.ext hx).lenC ty
    by_cases h3 : (V k).length + (F k).length < 64
    · refine (set_put w s hs (B k) (bm k) w0 E H.1 hBl C1 (by omega) n (DV k) (by omega) ho v v0 ha.flat false hfit (fun w' hx => room_ok w' (B k) (bm k) (bf k) (cell_ext hx C1) (cell_ext hx C2) _ _ h3 (fun w2 h2 => L1 w2 (hx.trans h2)) (fun w2 h2 => L2 w2 (hx.trans h2)))).mono ?_
      rintro e w' ⟨rfl, h1, h2, _⟩
      rw [upE_in (.inr h3), upL_in (.inr h3)]
      exact ⟨rfl, h2, _, h.setV hn hk h2 ((h.vs k hk).put (by omega) hz ha h2 (by omega) h1)⟩
    · refine (set_lim w s (B k) (bm k) C1 v v0 ha.flat false hfit (fun w' hx => room_full w' (B k) (bm k) (bf k) (cell_ext hx C1) (cell_ext hx C2) _ _ (by omega) (by omega) (fun w2 h2 => L1 w2 (hx.trans h2)) (fun w2 h2 => L2 w2 (hx.trans h2)))).mono ?_
      rintro e w' ⟨rfl, x⟩
      rw [upE_out hh (by omega), upL_out hh (by omega)]
      exact ⟨rfl, Grw.of_ext x, _, h.setV hn hk (Grw.of_ext x) (((h.vs k hk).ext x).more (by omega))⟩
/-- Bind, in frame k -/
theorem ebind {w0 w : World} {base : Nat} {B bm bf : Nat → Nat} {al ar : Addr} {V F : Nat → List Pr} {N : Nat} {DV DF : Nat → DataW Value} (E : Ext w0 w) (hn : NumB w0.heap.size base B bm bf al ar) (h : EE w base B bm bf al V F N DV DF) {k : Nat} (hk : k < 3) (hN : N < 900) (hl : (V k).length + (F k).length ≤ 64) {s : ByteArray} (hs : s.size ≤ maxLen) {z : Int} (hz : 0 ≤ z ∧ z < 256) :
    Calls Try.prog 9 #[.pointer (some ⟨B k, 0, none⟩), .string s, nodeV z] w fun e w' => e = .returned (.int .i64 (upE (F k) (V k) s)) ∧ Grw w (bf k) w' ∧ ∃ DF', EE w' base B bm bf al V (updF F k (upL (F k) (V k) s z)) (N + 1) DV DF' := by
  have H := (hn.at hk).1
  have HM := h.vs k hk
  have HF := h.fs k hk
  obtain ⟨v0, hfit⟩ := HF.fit hs
  obtain ⟨⟨n, _, ho⟩, hr, _⟩ := HM
  obtain ⟨⟨n2, hnN, ho2⟩, hr2, _⟩ := HF
  have C1 := h.c1 k hk
  have C2 := h.c2 k hk
  have hBl := World.block_lt_of_cell? _ _ C1
  by_cases hh : HasN (F k) s
  · rw [(hr2.has s).2 hh] at hfit
    refine (bind_put w s hs (B k) (bf k) w0 E (by omega) hBl C2 (by omega) n2 (DF k) (by omega) ho2 v0 z true hfit (fun w' hx => room_there w' (B k) (bm k) (bf k) (cell_ext hx C1) (cell_ext hx C2))).mono ?_
    rintro e w' ⟨rfl, h1, h2, _⟩
    rw [upE_in (.inl hh), upL_in (.inl hh)]
    exact ⟨rfl, h2, _, h.setF hn hk h2 ((h.fs k hk).put (by omega) hz h1)⟩
  · have hf : Maps.has (DF k) (.string s.data.toList) = false := by
      cases hc : Maps.has (DF k) (.string s.data.toList) with
      | false => rfl
      | true => exact absurd ((hr2.has s).1 hc) hh
    rw [hf] at hfit
    have L1 : ∀ w', Ext w w' → ∀ ty, (Builtin.len_ #[59] ty #[.map (some (bm k))]).run Try.prog w' = .ok (.int .i64 ((V k).length : Int)) w' := fun w' hx ty => by
      rw [← hr.size ho]
      exact (ho.ext hx).lenA ty
    have L2 : ∀ w', Ext w w' → ∀ ty, (Builtin.len_ #[60] ty #[.map (some (bf k))]).run Try.prog w' = .ok (.int .i64 ((F k).length : Int)) w' := fun w' hx ty => by
      rw [← hr2.size ho2]
      exact (ho2.ext hx).lenC ty
    by_cases h3 : (F k).length + (V k).length < 64
    · refine (bind_put w s hs (B k) (bf k) w0 E (by omega) hBl C2 (by omega) n2 (DF k) (by omega) ho2 v0 z false hfit (fun w' hx => room_ok w' (B k) (bm k) (bf k) (cell_ext hx C1) (cell_ext hx C2) _ _ (by omega) (fun w2 h2 => L1 w2 (hx.trans h2)) (fun w2 h2 => L2 w2 (hx.trans h2)))).mono ?_
      rintro e w' ⟨rfl, h1, h2, _⟩
      rw [upE_in (.inr h3), upL_in (.inr h3)]
      exact ⟨rfl, h2, _, h.setF hn hk h2 ((h.fs k hk).put (by omega) hz h1)⟩
    · refine (bind_lim w s (B k) (bf k) C2 (nodeV z) v0 (nodeV_flat z) false hfit (fun w' hx => room_full w' (B k) (bm k) (bf k) (cell_ext hx C1) (cell_ext hx C2) _ _ (by omega) (by omega) (fun w2 h2 => L1 w2 (hx.trans h2)) (fun w2 h2 => L2 w2 (hx.trans h2)))).mono ?_
      rintro e w' ⟨rfl, x⟩
      rw [upE_out hh (by omega), upL_out hh (by omega)]
      exact ⟨rfl, Grw.of_ext x, _, h.setF hn hk (Grw.of_ext x) (((h.fs k hk).ext x).more (by omega))⟩
end Go.Proofs.Ytdkgiklbmbkdaaa
