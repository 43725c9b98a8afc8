/- the frames' state, and what it says of both answers. -/
import Derived.Test.YtdkgiklbmbkdaaaEm
namespace Go.Proofs.Ytdkgiklbmbkdaaa
open Go.ChangeShapes Go.WideShapes Go.RowKit Go.Maps Bv Fl
set_option maxHeartbeats 1000000
/-- v is an array of the number z alone, that reads blocks from base on -/
def AV (w : World) (v : Value) (z : Int) (base : Nat) : Prop := ∃ (k : Nat) (A1 : Option Addr) (n1 k1 : Nat) (bn : Int) (A3 : Option Addr) (n3 k3 : Nat) (A4 : Option Addr) (n4 k4 : Nat) (A5 : Option Addr) (n5 k5 : Nat) (A6 : Option Addr) (n6 k6 : Nat) (A7 : Option Addr) (n7 k7 : Nat),
  v = .agg #[.slice none 0 0, .int .i64 (k : Nat), .slice A1 n1 k1, .int .i64 bn, .slice A3 n3 k3, .slice A4 n4 k4, .slice A5 n5 k5, .slice A6 n6 k6, .slice A7 n7 k7] ∧ NumS w (.agg #[.int .i64 (k : Nat), .slice A1 n1 k1, .int .i64 bn, .slice A3 n3 k3, .slice A4 n4 k4, .slice A5 n5 k5, .slice A6 n6 k6, .slice A7 n7 k7]) k [fi z] (New base)
theorem AV.flat {w : World} {v : Value} {z : Int} {base : Nat} (h : AV w v z base) : Flat 9 v := by
  obtain ⟨k, A1, n1, k1, bn, A3, n3, k3, A4, n4, k4, A5, n5, k5, A6, n6, k6, A7, n7, k7, rfl, _⟩ := h
  exact arr_flat _ _ _ _ _ _ _ _ _ _ _ _ _ _ _ _ _ _ _ _ _ _ _
theorem AV.ext {w w' : World} {v : Value} {z : Int} {base : Nat} (h : AV w v z base) (hx : Ext w w') : AV w' v z base := by
  obtain ⟨k, A1, n1, k1, bn, A3, n3, k3, A4, n4, k4, A5, n5, k5, A6, n6, k6, A7, n7, k7, e, h⟩ := h
  exact ⟨k, A1, n1, k1, bn, A3, n3, k3, A4, n4, k4, A5, n5, k5, A6, n6, k6, A7, n7, k7, e, h.ext hx⟩
theorem AV.grown {w w' : World} {v : Value} {z : Int} {base g : Nat} (h : AV w v z base) (hg : w.grownBy w' (some g)) (hne : g < base) : AV w' v z base := by
  obtain ⟨k, A1, n1, k1, bn, A3, n3, k3, A4, n4, k4, A5, n5, k5, A6, n6, k6, A7, n7, k7, e, h⟩ := h
  exact ⟨k, A1, n1, k1, bn, A3, n3, k3, A4, n4, k4, A5, n5, k5, A6, n6, k6, A7, n7, k7, e, h.grown hg (by dsimp only [New]; omega)⟩
/-- a frame's map of values, as a list -/
def MV (w : World) (b : Nat) (L : List Pr) (base N : Nat) (D : DataW Value) : Prop := (∃ n, n ≤ N ∧ OM w b n D) ∧ Rel D L ∧ ∀ p ∈ L, 0 ≤ p.n ∧ p.n < 256 ∧ ∃ v, .held v = D.atKey (.string p.nm.data.toList) (.held zeroArr) ∧ AV w v p.n base
/-- a frame's map of functions, as a list -/
def MF (w : World) (b : Nat) (L : List Pr) (B N : Nat) (D : DataW Value) : Prop := (∃ n, n ≤ N ∧ OM w b n D) ∧ Rel D L ∧ ∀ p ∈ L, 0 ≤ p.n ∧ p.n < 256 ∧ .held (cloV p.n B) = D.atKey (.string p.nm.data.toList) (.held zeroClo)
theorem MV.ext {w w' : World} {b base N : Nat} {L : List Pr} {D : DataW Value} (h : MV w b L base N D) (hx : Ext w w') : MV w' b L base N D := by
  obtain ⟨⟨n, hn, ho⟩, hr, hv⟩ := h
  exact ⟨⟨n, hn, ho.ext hx⟩, hr, fun p hp => let ⟨h1, h2, v, h3, h4⟩ := hv p hp; ⟨h1, h2, v, h3, h4.ext hx⟩⟩
theorem MF.ext {w w' : World} {b B N : Nat} {L : List Pr} {D : DataW Value} (h : MF w b L B N D) (hx : Ext w w') : MF w' b L B N D := by
  obtain ⟨⟨n, hn, ho⟩, hr, hv⟩ := h
  exact ⟨⟨n, hn, ho.ext hx⟩, hr, hv⟩
theorem MV.grown {w w' : World} {b base N g : Nat} {L : List Pr} {D : DataW Value} (h : MV w b L base N D) (hg : w.grownBy w' (some g)) (hne : b ≠ g) (hb : g < base) : MV w' b L base N D := by
  obtain ⟨⟨n, hn, ho⟩, hr, hv⟩ := h
  exact ⟨⟨n, hn, ho.grown hg hne⟩, hr, fun p hp => let ⟨h1, h2, v, h3, h4⟩ := hv p hp; ⟨h1, h2, v, h3, h4.grown hg hb⟩⟩
theorem MF.grown {w w' : World} {b B N g : Nat} {L : List Pr} {D : DataW Value} (h : MF w b L B N D) (hg : w.grownBy w' (some g)) (hne : b ≠ g) : MF w' b L B N D := by
  obtain ⟨⟨n, hn, ho⟩, hr, hv⟩ := h
  exact ⟨⟨n, hn, ho.grown hg hne⟩, hr, hv⟩
theorem atKey_no {D : DataW Value} {k : Lit} {z : DataW Value} (h : Maps.has D k = false) : D.atKey k z = z := atKey_of_not_has h z
theorem MV.flat {w : World} {b base N : Nat} {L : List Pr} {D : DataW Value} (h : MV w b L base N D) (s : ByteArray) (v : Value) (hv : .held v = D.atKey (.string s.data.toList) (.held zeroArr)) : Flat 9 v := by
  obtain ⟨_, hr, hp⟩ := h
  cases hh : Maps.has D (.string s.data.toList) with
  | false =>
    rw [atKey_no hh] at hv
    cases hv
    exact zeroArr_flat
  | true =>
    obtain ⟨p, hpL, rfl⟩ := (hr.has s).1 hh
    obtain ⟨_, _, v', e, ha⟩ := hp p hpL
    rw [← e] at hv
    cases hv
    exact ha.flat
theorem MF.flat {w : World} {b B N : Nat} {L : List Pr} {D : DataW Value} (h : MF w b L B N D) (s : ByteArray) (v : Value) (hv : .held v = D.atKey (.string s.data.toList) (.held zeroClo)) : Flat 8 v := by
  obtain ⟨_, hr, hp⟩ := h
  cases hh : Maps.has D (.string s.data.toList) with
  | false =>
    rw [atKey_no hh] at hv
    cases hv
    exact zeroClo_flat
  | true =>
    obtain ⟨p, hpL, rfl⟩ := (hr.has s).1 hh
    obtain ⟨_, _, e⟩ := hp p hpL
    rw [← e] at hv
    cases hv
    exact cloV_flat _ _
/-- what both answers say of a name's value -/
theorem agr_v {w : World} {bm : Nat → Nat} {V : Nat → List Pr} {D : Nat → DataW Value} {base N k : Nat} {s : ByteArray} {m t : Int} {v ok : Value} (hk : k < 3) (hM : ∀ i, i < 3 → MV w (bm i) (V i) base N (D i)) (h1 : RGet V s k m t) (h2 : GetR D zeroArr s k v ok) :
    (m = -1 ∧ ok = .bool false) ∨ ∃ z : Int, 0 ≤ z ∧ z < 256 ∧ m = z ∧ ok = .bool true ∧ AV w v z base := by
  rcases h1 with ⟨rfl, h1⟩ | ⟨i, hi, rfl, ⟨p, hp, hps, rfl⟩, h1⟩
  · rcases h2 with ⟨rfl, h2⟩ | ⟨rfl, j, hj, hh, _⟩
    · exact .inl ⟨rfl, rfl⟩
    · exact absurd (((hM j (by omega)).2.1.has s).1 hh) (h1 j hj)
  · rcases h2 with ⟨rfl, h2⟩ | ⟨rfl, j, hj, hh, hv, h2⟩
    · have := h2 i hi
      rw [((hM i (by omega)).2.1.has s).2 ⟨p, hp, hps⟩] at this
      cases this
    · have e : i = j := by
        rcases Nat.lt_trichotomy i j with h | h | h
        · exact absurd (((hM j (by omega)).2.1.has s).1 hh) (h1 j h hj)
        · exact h
        · have := h2 i h hi
          rw [((hM i (by omega)).2.1.has s).2 ⟨p, hp, hps⟩] at this
          cases this
      subst e
      obtain ⟨a1, a2, v', e, ha⟩ := (hM i (by omega)).2.2 p hp
      rw [hps, ← hv] at e
      cases e
      exact .inr ⟨p.n, a1, a2, rfl, rfl, ha⟩
theorem agr_f {w : World} {B bf : Nat → Nat} {F : Nat → List Pr} {D : Nat → DataW Value} {N k : Nat} {s : ByteArray} {m t : Int} {v ok : Value} (hk : k < 3) (hM : ∀ i, i < 3 → MF w (bf i) (F i) (B i) N (D i)) (h1 : RGet F s k m t) (h2 : GetR D zeroClo s k v ok) :
    (m = -1 ∧ ok = .bool false) ∨ ∃ (z : Int) (i : Nat), 0 ≤ z ∧ z < 256 ∧ m = z ∧ ok = .bool true ∧ i ≤ k ∧ t = (i : Int) ∧ v = cloV z (B i) := by
  rcases h1 with ⟨rfl, h1⟩ | ⟨i, hi, rfl, ⟨p, hp, hps, rfl⟩, h1⟩
  · rcases h2 with ⟨rfl, h2⟩ | ⟨rfl, j, hj, hh, _⟩
    · exact .inl ⟨rfl, rfl⟩
    · exact absurd (((hM j (by omega)).2.1.has s).1 hh) (h1 j hj)
  · rcases h2 with ⟨rfl, h2⟩ | ⟨rfl, j, hj, hh, hv, h2⟩
    · have := h2 i hi
      rw [((hM i (by omega)).2.1.has s).2 ⟨p, hp, hps⟩] at this
      cases this
    · have e : i = j := by
        rcases Nat.lt_trichotomy i j with h | h | h
        · exact absurd (((hM j (by omega)).2.1.has s).1 hh) (h1 j h hj)
        · exact h
        · have := h2 i h hi
          rw [((hM i (by omega)).2.1.has s).2 ⟨p, hp, hps⟩] at this
          cases this
      subst e
      obtain ⟨a1, a2, e⟩ := (hM i (by omega)).2.2 p hp
      rw [hps, ← hv] at e
      cases e
      exact .inr ⟨p.n, i, a1, a2, rfl, rfl, hi, rfl, rfl⟩
/-- the state of three frames, and of the document's -/
structure ES (w : World) (base : Nat) (B bm bf : Nat → Nat) (al ar : Addr) (V F : Nat → List Pr) (N : Nat) (DV DF : Nat → DataW Value) : Prop where
  ord : ∀ i, i < 2 → B i < B (i + 1)
  c0 : ∀ i, i < 3 → w.cell? ⟨B i, 0, none⟩ = some (pP B i)
  c1 : ∀ i, i < 3 → w.cell? ⟨B i, 1, none⟩ = some (.map (some (bm i)))
  c2 : ∀ i, i < 3 → w.cell? ⟨B i, 2, none⟩ = some (.map (some (bf i)))
  c3 : ∀ i, i < 3 → w.cell? ⟨B i, 3, none⟩ = some (.int .i64 (i : Nat))
  l : ∀ i, i < 3 → w.cell? (al.add i) = some (.pointer (some ⟨B i, 0, none⟩))
  r : RF w ar V F base
  vs : ∀ i, i < 3 → MV w (bm i) (V i) base N (DV i)
  fs : ∀ i, i < 3 → MF w (bf i) (F i) (B i) N (DF i)
  len : ∀ i, i < 3 → (V i).length + (F i).length ≤ 64
theorem RF.ext {w w' : World} {a : Addr} {V F : Nat → List Pr} {base : Nat} (h : RF w a V F base) (hx : Ext w w') : RF w' a V F base := fun i hi => by
  obtain ⟨A, n, c, A2, n2, c2, h1, h2, h3, h4, h5, h6⟩ := h i hi
  exact ⟨A, n, c, A2, n2, c2, cell_ext hx h1, cell_ext hx h2, h3, h4, h5.ext hx, h6.ext hx⟩
theorem RF.grown {w w' : World} {a : Addr} {V F : Nat → List Pr} {base g : Nat} (h : RF w a V F base) (hg : w.grownBy w' (some g)) (hb : g < base) (ha : ∀ i, (a.add i).block ≠ g) : RF w' a V F base := fun i hi => by
  obtain ⟨A, n, c, A2, n2, c2, h1, h2, h3, h4, h5, h6⟩ := h i hi
  exact ⟨A, n, c, A2, n2, c2, cell_grown hg h1 (ha _), cell_grown hg h2 (ha _), h3, h4, h5.grown hg (by dsimp only [New]; omega), h6.grown hg (by dsimp only [New]; omega)⟩
theorem ES.ext {w w' : World} {base : Nat} {B bm bf : Nat → Nat} {al ar : Addr} {V F : Nat → List Pr} {N : Nat} {DV DF : Nat → DataW Value} (h : ES w base B bm bf al ar V F N DV DF) (hx : Ext w w') : ES w' base B bm bf al ar V F N DV DF :=
  ⟨h.ord, fun i hi => cell_ext hx (h.c0 i hi), fun i hi => cell_ext hx (h.c1 i hi), fun i hi => cell_ext hx (h.c2 i hi), fun i hi => cell_ext hx (h.c3 i hi), fun i hi => cell_ext hx (h.l i hi), h.r.ext hx, fun i hi => (h.vs i hi).ext hx, fun i hi => (h.fs i hi).ext hx, h.len⟩
section
variable {P : Program} {ty : TypeId} {d : TypeDesc} {n off m : Nat}
theorem run_loadVar_part (hu : P.underlying ty = some d) (hd : d.isRow = true) (hi : (P.info? ty).map (·.size) = some m) {w : World} {B : Nat} {cs : Array Value} (h : Lay n w B (.agg cs)) (l : List Value) (hl : l.length = m) (hc : ∀ j u, l[j]? = some u → cs[off + j]? = some u) : (loadVar ty ⟨B, off, none⟩).run P w = .ok (.agg ⟨l⟩) w := by
  have := run_loadVar_mid (P := P) w B off ty l d (fun j u hj => by
    have := lay_cell h (hc j u hj)
    exact this) hu hd (by rw [hi, ← hl])
  simpa using this
end
theorem yields_vecin {ops : Array Oper} {S : World → Prop} {op : Oper} {a : Act} (hw : Region.wanted op (yielded ops a.tmps) = true) {x : Operand} (ho : op.op = .load 47 x)
    {B : Nat} (hx : a.eval x = .pointer (some ⟨B, 1, none⟩)) {x0 x1 x2 x3 x4 x5 x6 x7 x8 : Value} (hS : ∀ w, S w → Lay 9 w B (.agg #[x0, x1, x2, x3, x4, x5, x6, x7, x8])) : YieldsIf Try.prog ops S op (.agg #[x1, x2, x3, x4, x5, x6, x7, x8]) a :=
  .inl ⟨hw, fun w hw' => by
    obtain ⟨d, hu, hd⟩ := rowV
    have := run_loadVar_part hu hd szV (hS w hw') (off := 1) [x1, x2, x3, x4, x5, x6, x7, x8] rfl (fun j u hj => by
      match j, hj with
      | 0, h | 1, h | 2, h | 3, h | 4, h | 5, h | 6, h | 7, h => exact h)
    unfold execOp
    simp only [ho, hx, Instr.loadAt, Instr.sureAddr, Sem.run_bind, Sem.run_pure, Result.andThen_ok, this]⟩
end Go.Proofs.Ytdkgiklbmbkdaaa
