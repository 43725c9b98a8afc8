/- One element appended to a row of one's own; rebusref07.Tidy. -/
import Derived.Test.YtdfhefnjoekgbaaY
import Derived.Test.YtdfhefnjoekgbaaVl
namespace Go.Proofs.Ytdfhefnjoekgbaa
open Go.ChangeShapes Go.WideShapes Go.RowKit Bv Fl
set_option maxHeartbeats 4000000
set_option maxRecDepth 100000
theorem Lay.below {n : Nat} {w w' : World} {B b0 : Nat} {v : Value} (h : Lay n w B v) (hb : Below b0 w w') (hB : B < b0) : Lay n w' B v := by
  obtain ⟨cs, rfl, hn, hc⟩ := h
  exact ⟨cs, rfl, hn, fun j u hu => (Below.cell (p := ⟨B, 0 + j, none⟩) hb hB).trans (hc j u hu)⟩
theorem Room.below {n : Nat} {w w' : World} {B b0 : Nat} (h : Room n w B) (hb : Below b0 w w') (hB : B < b0) : Room n w' B := fun j hj => by
  obtain ⟨h1, h2⟩ := h j hj
  exact ⟨by rw [Below.cell (p := ⟨B, 0 + j, none⟩) hb hB]; exact h1, by rw [Below.frozen (p := ⟨B, 0 + j, none⟩) hb hB]; exact h2⟩
theorem cell_below {w w' : World} {p : Addr} {u : Value} {b0 : Nat} (hb : Below b0 w w') (h : w.cell? p = some u) (hp : p.block < b0) : w'.cell? p = some u := (Below.cell hb hp).trans h
/-- a row of one's own, in a block from base on, below top -/
def RowB (T : TypeId) (s : Nat) (w : World) (base top : Nat) (v : Value) (k : Nat) (xs : List Value) : Prop := w.ownsRow base T s v k xs ∧ ∀ g, v.ownBlock = some g → g < top
section
variable {T : TypeId} {s : Nat} {w w' : World} {base top : Nat} {v : Value} {k g : Nat} {xs : List Value}
theorem RowB.nil : RowB T s w base top (.slice none 0 0) 0 [] := ⟨⟨by simp, .inl ⟨rfl, rfl⟩⟩, fun g h => by cases h⟩
theorem RowB.ext (h : RowB T s w base top v k xs) (hx : Ext w w') : RowB T s w' base top v k xs := ⟨own_ext h.1 hx, h.2⟩
theorem RowB.grown (h : RowB T s w base top v k xs) (hg : w.grownBy w' (some g)) (hb : g < base ∨ top ≤ g) : RowB T s w' base top v k xs := by
  refine ⟨World.ownsRow.kept h.1 hg (.inr fun e => ?_), h.2⟩
  have := (World.ownsRow.lt h.1 g e).1
  have := h.2 g e
  omega
theorem RowB.sls {A : Option Addr} {n c b0 : Nat} (h : RowB T s w base top (.slice A n c) n xs) (hb : b0 ≤ base) : SlS w s A n xs (New b0) := fun w2 hs hk => (Sl.own h.1).reach hs hk fun a ha _ => by
  subst ha
  have := (World.ownsRow.lt h.1 a.block rfl).1
  exact Nat.le_trans hb this
theorem RowB.sl {A : Option Addr} {n c : Nat} (h : RowB T s w base top (.slice A n c) n xs) : Sl w s A n xs := Sl.own h.1
end
theorem infoIt : (Try.prog.info? 125).map (fun i => (i.zero, i.size, i.bytes)) = some (some zeroIt, 4, 48) := by kernel_rfl
theorem infoArr' : (Try.prog.info? 52).map (fun i => (i.zero, i.size, i.bytes)) = some (some zeroArr, 9, 184) := by kernel_rfl
theorem infoR' : (Try.prog.info? 21).map (fun i => (i.zero, i.size, i.bytes)) = some (some (.int .i32 0), 1, 4) := by kernel_rfl
theorem app_It {ops : Array Oper} {rest : List Oper} {op : Oper} {a : Act} {w : World} {Q : Exit → Act → World → Prop} (hgd : op.guard = none) {sl x : Operand} (ho : op.op = .call { callee := .builtin .append, args := #[sl, x], argTypes := #[87, 87] })
    {base k : Nat} {v : Value} {xs : List Value} (hs : a.eval sl = v) {top : Nat} (hown : RowB 125 4 w base top v k xs) {A : Option Addr} {news : List Value} (hx : a.eval x = .slice A 1 1) (hr : Sl w 4 A 1 news) (h1 : ∀ u ∈ news, u.oneCell' = true)
    (hlim : k ≤ 1048576) (hbase : base ≤ w.heap.size) (h : ∀ v' w', RowB 125 4 w' base w'.heap.size v' (k + 1) (xs ++ news) → Below base w w' → wpList Try.prog ops Q rest (a.put op.dst v') w') : wpList Try.prog ops Q (op :: rest) a w := by
  obtain ⟨i, hi, h2⟩ := Option.map_eq_some_iff.1 infoIt
  simp only [Prod.mk.injEq] at h2
  exact wpList_append_sl w hgd sl x 87 ho base 125 i zeroIt 4 48 Try.underlying87 hi h2.1 h2.2.1 h2.2.2 rfl (by omega) v k xs hs hown.1 A 1 1 news hx hr h1 (by omega) (.inr (by omega)) hbase fun v' w' ho hb => h v' w' ⟨ho, fun g e => (World.ownsRow.lt ho g e).2⟩ hb
theorem app_Ar {ops : Array Oper} {rest : List Oper} {op : Oper} {a : Act} {w : World} {Q : Exit → Act → World → Prop} (hgd : op.guard = none) {sl x : Operand} (ho : op.op = .call { callee := .builtin .append, args := #[sl, x], argTypes := #[32, 32] })
    {base k : Nat} {v : Value} {xs : List Value} (hs : a.eval sl = v) {top : Nat} (hown : RowB 52 9 w base top v k xs) {A : Option Addr} {news : List Value} (hx : a.eval x = .slice A 1 1) (hr : Sl w 9 A 1 news) (h1 : ∀ u ∈ news, u.oneCell' = true)
    (hlim : k ≤ 1048576) (hbase : base ≤ w.heap.size) (h : ∀ v' w', RowB 52 9 w' base w'.heap.size v' (k + 1) (xs ++ news) → Below base w w' → wpList Try.prog ops Q rest (a.put op.dst v') w') : wpList Try.prog ops Q (op :: rest) a w := by
  obtain ⟨i, hi, h2⟩ := Option.map_eq_some_iff.1 infoArr'
  simp only [Prod.mk.injEq] at h2
  exact wpList_append_sl w hgd sl x 32 ho base 52 i zeroArr 9 184 Try.underlying32 hi h2.1 h2.2.1 h2.2.2 rfl (by omega) v k xs hs hown.1 A 1 1 news hx hr h1 (by omega) (.inr (by omega)) hbase fun v' w' ho hb => h v' w' ⟨ho, fun g e => (World.ownsRow.lt ho g e).2⟩ hb
theorem app_fl {ops : Array Oper} {rest : List Oper} {op : Oper} {a : Act} {w : World} {Q : Exit → Act → World → Prop} (hgd : op.guard = none) {sl x : Operand} (ho : op.op = .call { callee := .builtin .append, args := #[sl, x], argTypes := #[22, 22] })
    {base k : Nat} {v : Value} {xs : List Value} (hs : a.eval sl = v) {top : Nat} (hown : RowB 81 1 w base top v k xs) {A : Option Addr} {news : List Value} (hx : a.eval x = .slice A 1 1) (hr : Sl w 1 A 1 news) (h1 : ∀ u ∈ news, u.oneCell' = true)
    (hlim : k ≤ 1048576) (hbase : base ≤ w.heap.size) (h : ∀ v' w', RowB 81 1 w' base w'.heap.size v' (k + 1) (xs ++ news) → Below base w w' → wpList Try.prog ops Q rest (a.put op.dst v') w') : wpList Try.prog ops Q (op :: rest) a w := by
  obtain ⟨i, hi, h2⟩ := Option.map_eq_some_iff.1 infoF
  simp only [Prod.mk.injEq] at h2
  exact wpList_append_sl w hgd sl x 22 ho base 81 i (.float .f64 0) 1 8 Try.underlying22 hi h2.1 h2.2.1 h2.2.2 rfl (by omega) v k xs hs hown.1 A 1 1 news hx hr h1 (by omega) (.inr (by omega)) hbase fun v' w' ho hb => h v' w' ⟨ho, fun g e => (World.ownsRow.lt ho g e).2⟩ hb
theorem app_ch {ops : Array Oper} {rest : List Oper} {op : Oper} {a : Act} {w : World} {Q : Exit → Act → World → Prop} (hgd : op.guard = none) {sl x : Operand} (ho : op.op = .call { callee := .builtin .append, args := #[sl, x], argTypes := #[31, 31] })
    {base k : Nat} {v : Value} {xs : List Value} (hs : a.eval sl = v) {top : Nat} (hown : RowB 21 1 w base top v k xs) {A : Option Addr} {news : List Value} (hx : a.eval x = .slice A 1 1) (hr : Sl w 1 A 1 news) (h1 : ∀ u ∈ news, u.oneCell' = true)
    (hlim : k ≤ 1048576) (hbase : base ≤ w.heap.size) (h : ∀ v' w', RowB 21 1 w' base w'.heap.size v' (k + 1) (xs ++ news) → Below base w w' → wpList Try.prog ops Q rest (a.put op.dst v') w') : wpList Try.prog ops Q (op :: rest) a w := by
  obtain ⟨i, hi, h2⟩ := Option.map_eq_some_iff.1 infoR'
  simp only [Prod.mk.injEq] at h2
  exact wpList_append_sl w hgd sl x 31 ho base 21 i (.int .i32 0) 1 4 Try.underlying31 hi h2.1 h2.2.1 h2.2.2 rfl (by omega) v k xs hs hown.1 A 1 1 news hx hr h1 (by omega) (.inr (by omega)) hbase fun v' w' ho hb => h v' w' ⟨ho, fun g e => (World.ownsRow.lt ho g e).2⟩ hb
theorem itc_app (l : List It) (x : It) : itc (l ++ [x]) = itc l ++ x.cells := by simp [itc]
/-- what comes of Tidy: as many items, each as PP says -/
def TdP (PP : Nat → It → Prop) (sA : Option Addr) (ns sc m : Nat) (fl : Int) (w : World) (e : Ending) (w' : World) : Prop := ∃ A' c' L, e = .returned (.agg #[.slice sA ns sc, .slice A' m c', .int .i64 fl]) ∧ L.length = m ∧ (∀ k, k < m → PP k (L.getD k default)) ∧ SlS w' 4 A' m (itc L) (New w.heap.size) ∧ Ext w w'
theorem pp_step {PP : Nat → It → Prop} {L : List It} {k : Nat} (hl : L.length = k) (h : ∀ j, j < k → PP j (L.getD j default)) {x : It} (hx : PP k x) : (L ++ [x]).length = k + 1 ∧ ∀ j, j < k + 1 → PP j ((L ++ [x]).getD j default) := by
  refine ⟨by simp [hl], fun j hj => ?_⟩
  by_cases e : j = k
  · subst e
    rw [show (L ++ [x]).getD j default = x by simp [List.getD, ← hl]]
    exact hx
  · rw [show (L ++ [x]).getD j default = L.getD j default by simp [List.getD, List.getElem?_append_left (show j < L.length by omega)]]
    exact h j (by omega)
section
variable (sA : Option Addr) (ns sc : Nat) (iA : Option Addr) (m ic : Nat) (w : World) (hm2 : m ≤ 1048576) (IT : Nat → It)
  (HI : Hid (∀ w', Ext w w' → ∀ k, k < m → ∃ a, iA = some a ∧ ItAt w' (a.add (k * 4)) (IT k)))
include hm2 HI
theorem tidy_0 (hkd : ∀ k, k < m → (IT k).kind = 0 ∧ fin (IT k).num) : Calls Try.prog 51 #[(.agg #[.slice sA ns sc, .slice iA m ic, .int .i64 0])] w (TdP (fun k x => x = ⟨0, dn (IT k).num, 0, none, 0, 0⟩) sA ns sc m 0 w) := by
  have ct : ∀ k w, k < m → Calls Try.prog 45 #[.float .f64 (IT k).num] w fun e w' => e = .returned (.tuple #[.float .f64 (dn (IT k).num), .bool true]) ∧ Ext w w' := fun k w hk => (rtidy_any _ w).mono fun e w2 h => ⟨by rw [h.1, decide_eq_true (hkd k hk).2], h.2 ▸ Ext.refl _⟩
  have HKD : Hid (∀ k, k < m → (IT k).kind = 0) := fun k hk => (hkd k hk).1
  clear hkd
  have hF := pl_flat sA ns sc iA m ic 0
  have E := Ext.refl w
  go_enter Try.func51, Try.ntmps51
  have TB1 : True := trivial
  have TB2 : True := trivial
  have TB3 : True := trivial
  have TG4 : True := trivial
  go_wp2_with (first | (clear TB1; refine boxsP (v := (.agg #[.slice sA ns sc, .slice iA m ic, .int .i64 0])) rfl rfl rfl hF ?_; intro B1 w1 bB1 cB1 XB1 LB1 RB1; have z1 := XB1.size; replace E := E.trans XB1; have cB1_0 := lay_cell LB1 (j := 0) rfl; have cB1_1 := lay_cell LB1 (j := 1) rfl; have cB1_2 := lay_cell LB1 (j := 2) rfl; clear LB1 RB1) | (clear TB2; refine allocsP rfl rfl ?_; intro B2 w2 bB2 cB2 XB2 LB2 RB2; have z2 := XB2.size; replace E := E.trans XB2; replace cB1_0 := cell_ext (XB2) cB1_0; replace cB1_1 := cell_ext (XB2) cB1_1; replace cB1_2 := cell_ext (XB2) cB1_2) | (clear TB3; refine allocsP rfl rfl ?_; intro B3 w3 bB3 cB3 XB3 LB3 RB3; have z3 := XB3.size; replace E := E.trans XB3; replace cB1_0 := cell_ext (XB3) cB1_0; replace cB1_1 := cell_ext (XB3) cB1_1; replace cB1_2 := cell_ext (XB3) cB1_2; replace LB2 := LB2.ext XB3; replace RB2 := RB2.ext XB3; have cB3_1 := lay_cell LB3 (j := 1) rfl) | (clear TG4; have hRl := (RB3).lt (Nat.zero_lt_succ _); refine storesP (B := B3) rfl rfl rfl (v := (.agg #[.slice sA ns sc, .slice none 0 0, .int .i64 0])) rfl RB3 (pl_flat sA ns sc none 0 0 0) ?_; clear LB3; clear cB3_1; intro s4 G4 LB3 RQ; have z5 := G4.size; replace E := grown_ext E G4 (by omega); replace cB1_0 := cell_grown (G4) cB1_0 (by show B1 ≠ _; omega); replace cB1_1 := cell_grown (G4) cB1_1 (by show B1 ≠ _; omega); replace cB1_2 := cell_grown (G4) cB1_2 (by show B1 ≠ _; omega); replace LB2 := LB2.grown G4 (by omega); replace RB2 := RB2.grown G4 (by omega); clear RB3; have RB3 := RQ; clear RQ hRl; have cB3_1 := lay_cell LB3 (j := 1) rfl))
  obtain ⟨BS, hBS1, hBS2⟩ : ∃ BS, BS ≤ s4.heap.size ∧ s4.heap.size ≤ BS := ⟨_, Nat.le_refl _, Nat.le_refl _⟩
  go_loopw [4] (fun i wr => ∃ (k TP : Nat) (oA : Option Addr) (oc : Nat) (L : List It), k ≤ m ∧ i = .int .i64 k ∧ L.length = k ∧ (∀ j, j < k → (fun k x => x = ⟨0, dn (IT k).num, 0, none, 0, 0⟩) j (L.getD j default)) ∧ Ext w wr ∧ s4.heap.size ≤ wr.heap.size ∧ (wr.cell? ⟨B1, 0, none⟩ = some (.slice sA ns sc) ∧ wr.cell? ⟨B1, 1, none⟩ = some (.slice iA m ic) ∧ wr.cell? ⟨B1, 2, none⟩ = some (.int .i64 0)) ∧ (Lay 3 wr B2 zeroPl ∧ Room 3 wr B2) ∧ Lay 3 wr B3 (.agg #[.slice sA ns sc, .slice oA k oc, .int .i64 0]) ∧ Room 3 wr B3 ∧ RowB 125 4 wr BS TP (.slice oA k oc) k (itc L) ∧ TP ≤ wr.heap.size) (fun i _ => m - (intOf i).toNat)
  case atStart => exact ⟨0, 0, none, 0, [], Nat.zero_le _, rfl, rfl, fun j hj => absurd hj (by omega), E, Nat.le_refl _, ⟨cB1_0, cB1_1, cB1_2⟩, ⟨LB2, RB2⟩, LB3, RB3, RowB.nil, Nat.zero_le _⟩
  case round =>
    obtain ⟨k, TP, oA, oc, L, hk, rfl, hL1, hL2, E', zW, ⟨d0, d1, d2⟩, ⟨l2, r2⟩, l3, r3, HO, hTP⟩ := hrel
    clear E cB1_0 cB1_1 cB1_2 LB2 RB2 LB3 RB3 cB3_1
    have E := E'
    have cB1_0 := d0
    have cB1_1 := d1
    have cB1_2 := d2
    have LB2 := l2
    have RB2 := r2
    have LB3 := l3
    have RB3 := r3
    clear E' d0 d1 d2 l2 r2 l3 r3
    have cB3_1 := lay_cell LB3 (j := 1) rfl
    have HPP := Lib.hid (And.intro hL1 hL2)
    clear hL1 hL2
    have z6 := E.size
    by_cases hlt : k < m
    · obtain ⟨a, ea, hI⟩ := HI.out _ E k hlt
      subst ea
      have D0 := hI.c0
      have D1 := hI.c1
      have D2 := hI.c2
      have D3 := hI.c3
      have hbb := World.block_lt_of_cell? _ _ D0
      clear hI
      rw [HKD.out k hlt] at D0
      have ctk := fun w => ct k w hlt
      generalize hdn : dn (IT k).num = dnm at ctk
      have HDN := Lib.hid hdn
      clear hdn
      generalize IT k = x at D0 D1 D2 D3 ctk
      obtain ⟨kd, nm, ch, bA, bn, bc⟩ := x
      simp only at D0 D1 D2 D3 ctk
      have TB5 : True := trivial
      have TG8 : True := trivial
      go_wp2_with (first | (clear TB5; refine allocsI rfl rfl ?_; intro B5 w5 bB5 cB5 XB5 LB5 RB5; have z7 := XB5.size; replace E := E.trans XB5; replace cB1_0 := cell_ext (XB5) cB1_0; replace cB1_1 := cell_ext (XB5) cB1_1; replace cB1_2 := cell_ext (XB5) cB1_2; replace LB2 := LB2.ext XB5; replace RB2 := RB2.ext XB5; replace LB3 := LB3.ext XB5; replace RB3 := RB3.ext XB5; replace cB3_1 := cell_ext (XB5) cB3_1; replace HO := HO.ext XB5; replace D1 := cell_ext (XB5) D1; replace D2 := cell_ext (XB5) D2; replace D3 := cell_ext (XB5) D3; have cB5_0 := lay_cell LB5 (j := 0) rfl) | (clear TG8; have hRl := (RB5).lt (Nat.zero_lt_succ _); refine storesI (B := B5) rfl rfl rfl (v := (.agg #[.int .i64 0, .float .f64 0, .int .i32 0, .slice none 0 0])) rfl RB5 (it_flat 0 0 0 none 0 0) ?_; clear LB5; clear cB5_0; intro s8 G8 LB5 RQ; have z9 := G8.size; replace E := grown_ext E G8 (by omega); replace cB1_0 := cell_grown (G8) cB1_0 (by show B1 ≠ _; omega); replace cB1_1 := cell_grown (G8) cB1_1 (by show B1 ≠ _; omega); replace cB1_2 := cell_grown (G8) cB1_2 (by show B1 ≠ _; omega); replace LB2 := LB2.grown G8 (by omega); replace RB2 := RB2.grown G8 (by omega); replace LB3 := LB3.grown G8 (by omega); replace RB3 := RB3.grown G8 (by omega); replace cB3_1 := cell_grown (G8) cB3_1 (by show B3 ≠ _; omega); replace HO := HO.grown G8 (by omega); replace D1 := cell_grown (G8) D1 (by first | omega | (dsimp only; omega)); replace D2 := cell_grown (G8) D2 (by first | omega | (dsimp only; omega)); replace D3 := cell_grown (G8) D3 (by first | omega | (dsimp only; omega)); clear RB5; have RB5 := RQ; clear RQ hRl; have cB5_0 := lay_cell LB5 (j := 0) rfl))
      refine (ctk _).mono ?_
      rintro e w35 ⟨rfl, x⟩
      have z10 := x.size
      replace E := E.trans x
      replace cB1_0 := cell_ext (x) cB1_0
      replace cB1_1 := cell_ext (x) cB1_1
      replace cB1_2 := cell_ext (x) cB1_2
      replace LB2 := LB2.ext x
      replace RB2 := RB2.ext x
      replace LB3 := LB3.ext x
      replace RB3 := RB3.ext x
      replace cB3_1 := cell_ext (x) cB3_1
      replace HO := HO.ext x
      replace D1 := cell_ext (x) D1
      replace D2 := cell_ext (x) D2
      replace D3 := cell_ext (x) D3
      replace LB5 := LB5.ext x
      replace RB5 := RB5.ext x
      replace cB5_0 := cell_ext (x) cB5_0
      clear x
      have TG11 : True := trivial
      have TA67 : True := trivial
      have TG14 : True := trivial
      go_wp2_with (first | (clear TG11; have hRl := (RB5).lt (Nat.zero_lt_succ _); refine sfield_f64 rfl rfl (B := B5) (j := 1) (v := (.float .f64 dnm)) (cs' := #[.int .i64 0, .float .f64 dnm, .int .i32 0, .slice none 0 0]) rfl rfl rfl LB5 RB5 (by omega) rfl ?_; clear LB5; clear cB5_0; intro s11 G11 LB5 RQ; have z12 := G11.size; replace E := grown_ext E G11 (by omega); replace cB1_0 := cell_grown (G11) cB1_0 (by show B1 ≠ _; omega); replace cB1_1 := cell_grown (G11) cB1_1 (by show B1 ≠ _; omega); replace cB1_2 := cell_grown (G11) cB1_2 (by show B1 ≠ _; omega); replace LB2 := LB2.grown G11 (by omega); replace RB2 := RB2.grown G11 (by omega); replace LB3 := LB3.grown G11 (by omega); replace RB3 := RB3.grown G11 (by omega); replace cB3_1 := cell_grown (G11) cB3_1 (by show B3 ≠ _; omega); replace HO := HO.grown G11 (by omega); replace D1 := cell_grown (G11) D1 (by first | omega | (dsimp only; omega)); replace D2 := cell_grown (G11) D2 (by first | omega | (dsimp only; omega)); replace D3 := cell_grown (G11) D3 (by first | omega | (dsimp only; omega)); clear RB5; have RB5 := RQ; clear RQ hRl G11; have cB5_0 := lay_cell LB5 (j := 0) rfl) | (refine loadsI (B := B5) (by rfl) rfl rfl LB5 ?_) | (clear TA67; refine app_It rfl rfl (base := BS) (k := k) rfl (HO.ext ((Ext.refl _).alloc _)) rfl (Sl.built _ #[.int .i64 0, .float .f64 dnm, .int .i32 0, .slice none 0 0] _) (by intro u hu; simp at hu; rcases hu with rfl | rfl | rfl | rfl <;> rfl) (by omega) (by simp; omega) ?_; clear HO LB5 RB5 cB5_0 D1 D2 D3; intro v67 w67 HO H67; obtain ⟨A67, c67, e67, -, -⟩ := own_form HO.1; subst e67; have z13 : s11.heap.size ≤ w67.heap.size := Nat.le_trans ((Ext.refl s11).alloc _).size H67.size; replace E := (E.alloc _).trans' (H67.mono (by omega)); replace cB1_0 := cell_below H67 (cell_ext ((Ext.refl _).alloc _) cB1_0) (by show B1 < BS; omega); replace cB1_1 := cell_below H67 (cell_ext ((Ext.refl _).alloc _) cB1_1) (by show B1 < BS; omega); replace cB1_2 := cell_below H67 (cell_ext ((Ext.refl _).alloc _) cB1_2) (by show B1 < BS; omega); replace LB2 := (LB2.ext ((Ext.refl _).alloc _)).below H67 (by omega); replace RB2 := (RB2.ext ((Ext.refl _).alloc _)).below H67 (by omega); replace LB3 := (LB3.ext ((Ext.refl _).alloc _)).below H67 (by omega); replace RB3 := (RB3.ext ((Ext.refl _).alloc _)).below H67 (by omega); replace cB3_1 := cell_below H67 (cell_ext ((Ext.refl _).alloc _) cB3_1) (by show B3 < BS; omega); clear H67) | (clear TG14; have hRl := (RB3).lt (Nat.zero_lt_succ _); refine sfield_its rfl rfl (B := B3) (j := 1) (v := (.slice A67 (k + 1) c67)) (cs' := #[.slice sA ns sc, .slice A67 (k + 1) c67, .int .i64 0]) rfl rfl rfl LB3 RB3 (by omega) rfl ?_; clear LB3; clear cB3_1; intro s14 G14 LB3 RQ; have z15 := G14.size; replace E := grown_ext E G14 (by omega); replace cB1_0 := cell_grown (G14) cB1_0 (by show B1 ≠ _; omega); replace cB1_1 := cell_grown (G14) cB1_1 (by show B1 ≠ _; omega); replace cB1_2 := cell_grown (G14) cB1_2 (by show B1 ≠ _; omega); replace LB2 := LB2.grown G14 (by omega); replace RB2 := RB2.grown G14 (by omega); replace HO := HO.grown G14 (by omega); clear RB3; have RB3 := RQ; clear RQ hRl G14; have cB3_1 := lay_cell LB3 (j := 1) rfl))
      obtain ⟨hp1, hp2⟩ := HPP.out
      obtain ⟨hp3, hp4⟩ := pp_step (PP := fun k x => x = ⟨0, dn (IT k).num, 0, none, 0, 0⟩) hp1 hp2 (x := ⟨0, dnm, 0, none, 0, 0⟩) (by show (⟨0, dnm, 0, none, 0, 0⟩ : It) = ⟨0, dn (IT k).num, 0, none, 0, 0⟩; rw [HDN.out])
      exact ⟨⟨k + 1, _, _, _, _, by omega, by go_num, hp3, hp4, E, by omega, ⟨cB1_0, cB1_1, cB1_2⟩, ⟨LB2, RB2⟩, LB3, RB3, by rw [itc_app]; exact HO, by omega⟩, by simp [intOf]; omega⟩
    · have HKM : Hid (k = m) := (by omega : k = m)
      have TG16 : True := trivial
      go_wp2_with (first | (refine loadsP (B := B3) (by rfl) rfl rfl LB3 ?_) | (clear TG16; have hRl := (RB2).lt (Nat.zero_lt_succ _); refine storesP (B := B2) rfl rfl rfl (v := (.agg #[.slice sA ns sc, .slice oA k oc, .int .i64 0])) rfl RB2 (pl_flat sA ns sc oA k oc 0) ?_; clear LB2; intro s16 G16 LB2 RQ; have z17 := G16.size; replace E := grown_ext E G16 (by omega); replace cB1_0 := cell_grown (G16) cB1_0 (by show B1 ≠ _; omega); replace cB1_1 := cell_grown (G16) cB1_1 (by show B1 ≠ _; omega); replace cB1_2 := cell_grown (G16) cB1_2 (by show B1 ≠ _; omega); replace LB3 := LB3.grown G16 (by omega); replace RB3 := RB3.grown G16 (by omega); replace cB3_1 := cell_grown (G16) cB3_1 (by show B3 ≠ _; omega); replace HO := HO.grown G16 (by omega); clear RB2; have RB2 := RQ; clear RQ hRl; clear RB2))
      refine bodyPost_ret (results_lay rfl rfl (ldP LB2)) rfl ?_
      have hkm := HKM.out
      subst hkm
      unfold TdP
      exact ⟨oA, oc, L, rfl, HPP.out.1, HPP.out.2, HO.sls (by omega), E⟩
theorem tidy_1 (hkd : ∀ k, k < m → (IT k).kind = 1) : Calls Try.prog 51 #[(.agg #[.slice sA ns sc, .slice iA m ic, .int .i64 1])] w (TdP (fun k x => x = ⟨1, 0, (IT k).chr, none, 0, 0⟩) sA ns sc m 1 w) := by
  have HKD := Lib.hid hkd
  clear hkd
  have hF := pl_flat sA ns sc iA m ic 1
  have E := Ext.refl w
  go_enter Try.func51, Try.ntmps51
  have TB1 : True := trivial
  have TB2 : True := trivial
  have TB3 : True := trivial
  have TG4 : True := trivial
  go_wp2_with (first | (clear TB1; refine boxsP (v := (.agg #[.slice sA ns sc, .slice iA m ic, .int .i64 1])) rfl rfl rfl hF ?_; intro B1 w1 bB1 cB1 XB1 LB1 RB1; have z1 := XB1.size; replace E := E.trans XB1; have cB1_0 := lay_cell LB1 (j := 0) rfl; have cB1_1 := lay_cell LB1 (j := 1) rfl; have cB1_2 := lay_cell LB1 (j := 2) rfl; clear LB1 RB1) | (clear TB2; refine allocsP rfl rfl ?_; intro B2 w2 bB2 cB2 XB2 LB2 RB2; have z2 := XB2.size; replace E := E.trans XB2; replace cB1_0 := cell_ext (XB2) cB1_0; replace cB1_1 := cell_ext (XB2) cB1_1; replace cB1_2 := cell_ext (XB2) cB1_2) | (clear TB3; refine allocsP rfl rfl ?_; intro B3 w3 bB3 cB3 XB3 LB3 RB3; have z3 := XB3.size; replace E := E.trans XB3; replace cB1_0 := cell_ext (XB3) cB1_0; replace cB1_1 := cell_ext (XB3) cB1_1; replace cB1_2 := cell_ext (XB3) cB1_2; replace LB2 := LB2.ext XB3; replace RB2 := RB2.ext XB3; have cB3_1 := lay_cell LB3 (j := 1) rfl) | (clear TG4; have hRl := (RB3).lt (Nat.zero_lt_succ _); refine storesP (B := B3) rfl rfl rfl (v := (.agg #[.slice sA ns sc, .slice none 0 0, .int .i64 1])) rfl RB3 (pl_flat sA ns sc none 0 0 1) ?_; clear LB3; clear cB3_1; intro s4 G4 LB3 RQ; have z5 := G4.size; replace E := grown_ext E G4 (by omega); replace cB1_0 := cell_grown (G4) cB1_0 (by show B1 ≠ _; omega); replace cB1_1 := cell_grown (G4) cB1_1 (by show B1 ≠ _; omega); replace cB1_2 := cell_grown (G4) cB1_2 (by show B1 ≠ _; omega); replace LB2 := LB2.grown G4 (by omega); replace RB2 := RB2.grown G4 (by omega); clear RB3; have RB3 := RQ; clear RQ hRl; have cB3_1 := lay_cell LB3 (j := 1) rfl))
  obtain ⟨BS, hBS1, hBS2⟩ : ∃ BS, BS ≤ s4.heap.size ∧ s4.heap.size ≤ BS := ⟨_, Nat.le_refl _, Nat.le_refl _⟩
  go_loopw [4] (fun i wr => ∃ (k TP : Nat) (oA : Option Addr) (oc : Nat) (L : List It), k ≤ m ∧ i = .int .i64 k ∧ L.length = k ∧ (∀ j, j < k → (fun k x => x = ⟨1, 0, (IT k).chr, none, 0, 0⟩) j (L.getD j default)) ∧ Ext w wr ∧ s4.heap.size ≤ wr.heap.size ∧ (wr.cell? ⟨B1, 0, none⟩ = some (.slice sA ns sc) ∧ wr.cell? ⟨B1, 1, none⟩ = some (.slice iA m ic) ∧ wr.cell? ⟨B1, 2, none⟩ = some (.int .i64 1)) ∧ (Lay 3 wr B2 zeroPl ∧ Room 3 wr B2) ∧ Lay 3 wr B3 (.agg #[.slice sA ns sc, .slice oA k oc, .int .i64 1]) ∧ Room 3 wr B3 ∧ RowB 125 4 wr BS TP (.slice oA k oc) k (itc L) ∧ TP ≤ wr.heap.size) (fun i _ => m - (intOf i).toNat)
  case atStart => exact ⟨0, 0, none, 0, [], Nat.zero_le _, rfl, rfl, fun j hj => absurd hj (by omega), E, Nat.le_refl _, ⟨cB1_0, cB1_1, cB1_2⟩, ⟨LB2, RB2⟩, LB3, RB3, RowB.nil, Nat.zero_le _⟩
  case round =>
    obtain ⟨k, TP, oA, oc, L, hk, rfl, hL1, hL2, E', zW, ⟨d0, d1, d2⟩, ⟨l2, r2⟩, l3, r3, HO, hTP⟩ := hrel
    clear E cB1_0 cB1_1 cB1_2 LB2 RB2 LB3 RB3 cB3_1
    have E := E'
    have cB1_0 := d0
    have cB1_1 := d1
    have cB1_2 := d2
    have LB2 := l2
    have RB2 := r2
    have LB3 := l3
    have RB3 := r3
    clear E' d0 d1 d2 l2 r2 l3 r3
    have cB3_1 := lay_cell LB3 (j := 1) rfl
    have HPP := Lib.hid (And.intro hL1 hL2)
    clear hL1 hL2
    have z6 := E.size
    by_cases hlt : k < m
    · obtain ⟨a, ea, hI⟩ := HI.out _ E k hlt
      subst ea
      have D0 := hI.c0
      have D1 := hI.c1
      have D2 := hI.c2
      have D3 := hI.c3
      have hbb := World.block_lt_of_cell? _ _ D0
      clear hI
      rw [HKD.out k hlt] at D0
      have HDN : Hid ((IT k).chr = (IT k).chr) := rfl
      generalize hx : IT k = x at D0 D1 D2 D3
      have HXK := Lib.hid hx
      clear hx
      obtain ⟨kd, nm, ch, bA, bn, bc⟩ := x
      simp only at D0 D1 D2 D3
      have TB5 : True := trivial
      have TG8 : True := trivial
      have TG10 : True := trivial
      have TA67 : True := trivial
      have TG13 : True := trivial
      go_wp2_with (first | (clear TB5; refine allocsI rfl rfl ?_; intro B5 w5 bB5 cB5 XB5 LB5 RB5; have z7 := XB5.size; replace E := E.trans XB5; replace cB1_0 := cell_ext (XB5) cB1_0; replace cB1_1 := cell_ext (XB5) cB1_1; replace cB1_2 := cell_ext (XB5) cB1_2; replace LB2 := LB2.ext XB5; replace RB2 := RB2.ext XB5; replace LB3 := LB3.ext XB5; replace RB3 := RB3.ext XB5; replace cB3_1 := cell_ext (XB5) cB3_1; replace HO := HO.ext XB5; replace D1 := cell_ext (XB5) D1; replace D2 := cell_ext (XB5) D2; replace D3 := cell_ext (XB5) D3; have cB5_0 := lay_cell LB5 (j := 0) rfl) | (clear TG8; have hRl := (RB5).lt (Nat.zero_lt_succ _); refine storesI (B := B5) rfl rfl rfl (v := (.agg #[.int .i64 1, .float .f64 0, .int .i32 0, .slice none 0 0])) rfl RB5 (it_flat 1 0 0 none 0 0) ?_; clear LB5; clear cB5_0; intro s8 G8 LB5 RQ; have z9 := G8.size; replace E := grown_ext E G8 (by omega); replace cB1_0 := cell_grown (G8) cB1_0 (by show B1 ≠ _; omega); replace cB1_1 := cell_grown (G8) cB1_1 (by show B1 ≠ _; omega); replace cB1_2 := cell_grown (G8) cB1_2 (by show B1 ≠ _; omega); replace LB2 := LB2.grown G8 (by omega); replace RB2 := RB2.grown G8 (by omega); replace LB3 := LB3.grown G8 (by omega); replace RB3 := RB3.grown G8 (by omega); replace cB3_1 := cell_grown (G8) cB3_1 (by show B3 ≠ _; omega); replace HO := HO.grown G8 (by omega); replace D1 := cell_grown (G8) D1 (by first | omega | (dsimp only; omega)); replace D2 := cell_grown (G8) D2 (by first | omega | (dsimp only; omega)); replace D3 := cell_grown (G8) D3 (by first | omega | (dsimp only; omega)); clear RB5; have RB5 := RQ; clear RQ hRl; have cB5_0 := lay_cell LB5 (j := 0) rfl) | (clear TG10; have hRl := (RB5).lt (Nat.zero_lt_succ _); refine sfield_i32 rfl rfl (B := B5) (j := 2) (v := (.int .i32 ch)) (cs' := #[.int .i64 1, .float .f64 0, .int .i32 ch, .slice none 0 0]) rfl rfl rfl LB5 RB5 (by omega) rfl ?_; clear LB5; clear cB5_0; intro s10 G10 LB5 RQ; have z11 := G10.size; replace E := grown_ext E G10 (by omega); replace cB1_0 := cell_grown (G10) cB1_0 (by show B1 ≠ _; omega); replace cB1_1 := cell_grown (G10) cB1_1 (by show B1 ≠ _; omega); replace cB1_2 := cell_grown (G10) cB1_2 (by show B1 ≠ _; omega); replace LB2 := LB2.grown G10 (by omega); replace RB2 := RB2.grown G10 (by omega); replace LB3 := LB3.grown G10 (by omega); replace RB3 := RB3.grown G10 (by omega); replace cB3_1 := cell_grown (G10) cB3_1 (by show B3 ≠ _; omega); replace HO := HO.grown G10 (by omega); replace D1 := cell_grown (G10) D1 (by first | omega | (dsimp only; omega)); replace D2 := cell_grown (G10) D2 (by first | omega | (dsimp only; omega)); replace D3 := cell_grown (G10) D3 (by first | omega | (dsimp only; omega)); clear RB5; have RB5 := RQ; clear RQ hRl G10; have cB5_0 := lay_cell LB5 (j := 0) rfl) | (refine loadsI (B := B5) (by rfl) rfl rfl LB5 ?_) | (clear TA67; refine app_It rfl rfl (base := BS) (k := k) rfl (HO.ext ((Ext.refl _).alloc _)) rfl (Sl.built _ #[.int .i64 1, .float .f64 0, .int .i32 ch, .slice none 0 0] _) (by intro u hu; simp at hu; rcases hu with rfl | rfl | rfl | rfl <;> rfl) (by omega) (by simp; omega) ?_; clear HO LB5 RB5 cB5_0 D1 D2 D3; intro v67 w67 HO H67; obtain ⟨A67, c67, e67, -, -⟩ := own_form HO.1; subst e67; have z12 : s10.heap.size ≤ w67.heap.size := Nat.le_trans ((Ext.refl s10).alloc _).size H67.size; replace E := (E.alloc _).trans' (H67.mono (by omega)); replace cB1_0 := cell_below H67 (cell_ext ((Ext.refl _).alloc _) cB1_0) (by show B1 < BS; omega); replace cB1_1 := cell_below H67 (cell_ext ((Ext.refl _).alloc _) cB1_1) (by show B1 < BS; omega); replace cB1_2 := cell_below H67 (cell_ext ((Ext.refl _).alloc _) cB1_2) (by show B1 < BS; omega); replace LB2 := (LB2.ext ((Ext.refl _).alloc _)).below H67 (by omega); replace RB2 := (RB2.ext ((Ext.refl _).alloc _)).below H67 (by omega); replace LB3 := (LB3.ext ((Ext.refl _).alloc _)).below H67 (by omega); replace RB3 := (RB3.ext ((Ext.refl _).alloc _)).below H67 (by omega); replace cB3_1 := cell_below H67 (cell_ext ((Ext.refl _).alloc _) cB3_1) (by show B3 < BS; omega); clear H67) | (clear TG13; have hRl := (RB3).lt (Nat.zero_lt_succ _); refine sfield_its rfl rfl (B := B3) (j := 1) (v := (.slice A67 (k + 1) c67)) (cs' := #[.slice sA ns sc, .slice A67 (k + 1) c67, .int .i64 1]) rfl rfl rfl LB3 RB3 (by omega) rfl ?_; clear LB3; clear cB3_1; intro s13 G13 LB3 RQ; have z14 := G13.size; replace E := grown_ext E G13 (by omega); replace cB1_0 := cell_grown (G13) cB1_0 (by show B1 ≠ _; omega); replace cB1_1 := cell_grown (G13) cB1_1 (by show B1 ≠ _; omega); replace cB1_2 := cell_grown (G13) cB1_2 (by show B1 ≠ _; omega); replace LB2 := LB2.grown G13 (by omega); replace RB2 := RB2.grown G13 (by omega); replace HO := HO.grown G13 (by omega); clear RB3; have RB3 := RQ; clear RQ hRl G13; have cB3_1 := lay_cell LB3 (j := 1) rfl))
      obtain ⟨hp1, hp2⟩ := HPP.out
      obtain ⟨hp3, hp4⟩ := pp_step (PP := fun k x => x = ⟨1, 0, (IT k).chr, none, 0, 0⟩) hp1 hp2 (x := ⟨1, 0, ch, none, 0, 0⟩) (by show (⟨1, 0, ch, none, 0, 0⟩ : It) = ⟨1, 0, (IT k).chr, none, 0, 0⟩; rw [HXK.out])
      exact ⟨⟨k + 1, _, _, _, _, by omega, by go_num, hp3, hp4, E, by omega, ⟨cB1_0, cB1_1, cB1_2⟩, ⟨LB2, RB2⟩, LB3, RB3, by rw [itc_app]; exact HO, by omega⟩, by simp [intOf]; omega⟩
    · have HKM : Hid (k = m) := (by omega : k = m)
      have TG15 : True := trivial
      go_wp2_with (first | (refine loadsP (B := B3) (by rfl) rfl rfl LB3 ?_) | (clear TG15; have hRl := (RB2).lt (Nat.zero_lt_succ _); refine storesP (B := B2) rfl rfl rfl (v := (.agg #[.slice sA ns sc, .slice oA k oc, .int .i64 1])) rfl RB2 (pl_flat sA ns sc oA k oc 1) ?_; clear LB2; intro s15 G15 LB2 RQ; have z16 := G15.size; replace E := grown_ext E G15 (by omega); replace cB1_0 := cell_grown (G15) cB1_0 (by show B1 ≠ _; omega); replace cB1_1 := cell_grown (G15) cB1_1 (by show B1 ≠ _; omega); replace cB1_2 := cell_grown (G15) cB1_2 (by show B1 ≠ _; omega); replace LB3 := LB3.grown G15 (by omega); replace RB3 := RB3.grown G15 (by omega); replace cB3_1 := cell_grown (G15) cB3_1 (by show B3 ≠ _; omega); replace HO := HO.grown G15 (by omega); clear RB2; have RB2 := RQ; clear RQ hRl; clear RB2))
      refine bodyPost_ret (results_lay rfl rfl (ldP LB2)) rfl ?_
      have hkm := HKM.out
      subst hkm
      unfold TdP
      exact ⟨oA, oc, L, rfl, HPP.out.1, HPP.out.2, HO.sls (by omega), E⟩
end
end Go.Proofs.Ytdfhefnjoekgbaa
