/- value.of, value.Of, rebuslaw07.Of of numbers and characters. -/
import Derived.Test.YtdfhefnjoekgbaaYf
import Derived.Test.YtdfhefnjoekgbaaQp
import Derived.Test.YtdfhefnjoekgbaaQo
namespace Go.Proofs.Ytdfhefnjoekgbaa
open Go.ChangeShapes Go.WideShapes Go.RowKit Bv Fl
set_option maxHeartbeats 4000000
set_option maxRecDepth 100000
theorem zeroArr_flat : Flat 9 zeroArr := ⟨_, rfl, rfl, by simp [Value.oneCell']⟩
theorem arr_flat (a : Option Addr) (n c : Nat) (k : Int) (A1 : Option Addr) (n1 k1 : Nat) (b : Int) (A3 : Option Addr) (n3 k3 : Nat) (A4 : Option Addr) (n4 k4 : Nat) (A5 : Option Addr) (n5 k5 : Nat) (A6 : Option Addr) (n6 k6 : Nat) (A7 : Option Addr) (n7 k7 : Nat) : Flat 9 (.agg #[.slice a n c, .int .i64 k, .slice A1 n1 k1, .int .i64 b, .slice A3 n3 k3, .slice A4 n4 k4, .slice A5 n5 k5, .slice A6 n6 k6, .slice A7 n7 k7]) := ⟨_, rfl, rfl, by simp [Value.oneCell']⟩
theorem szA : (Try.prog.info? 52).map (·.size) = some 9 := by kernel_rfl
theorem rowA : ∃ d : TypeDesc, Try.prog.underlying 52 = some d ∧ d.isRow = true := ⟨_, Try.underlying52, rfl⟩
theorem zrA : ∃ i, Try.prog.info? 52 = some i ∧ i.zero = some zeroArr := by
  have h : (Try.prog.info? 52).bind (·.zero) = some zeroArr := by kernel_rfl
  obtain ⟨i, hi, hz⟩ := Option.bind_eq_some_iff.1 h
  exact ⟨i, hi, hz⟩
theorem ldA {w : World} {B : Nat} {v : Value} (h : Lay 9 w B v) : (loadVar 52 ⟨B, 0, none⟩).run Try.prog w = .ok v w := by
  obtain ⟨d, hu, hd⟩ := rowA
  exact run_loadVar_lay hu hd szA h
theorem loadA {op : Oper} {a : Act} {w : World} {K : Act → World → Prop} {Q : Exit → Act → World → Prop} {x : Operand} (ho : op.op = .load 52 x)
    {B : Nat} (hx : a.eval x = .pointer (some ⟨B, 0, none⟩)) {v : Value} (hl : Lay 9 w B v) (h : K (a.put op.dst v) w) : op.wp Try.prog a w K Q := by
  obtain ⟨d, hu, hd⟩ := rowA
  exact wp_load_lay hu hd szA ho hx hl h
theorem loadsA {ops : Array Oper} {rest : List Oper} {op : Oper} {a : Act} {w : World} {Q : Exit → Act → World → Prop} {x : Operand} (hgd : op.guard = none) (ho : op.op = .load 52 x)
    {B : Nat} (hx : a.eval x = .pointer (some ⟨B, 0, none⟩)) {v : Value} (hl : Lay 9 w B v) (h : wpList Try.prog ops Q rest (a.put op.dst v) w) : wpList Try.prog ops Q (op :: rest) a w :=
  wpList_plain hgd fun _ hK => loadA ho hx hl (hK _ _ h)
theorem loadgA {ops : Array Oper} {rest : List Oper} {op : Oper} {a : Act} {w : World} {Q : Exit → Act → World → Prop} {x : Operand} (hw : Region.wanted op (yielded ops a.tmps) = true) (ho : op.op = .load 52 x)
    {B : Nat} (hx : a.eval x = .pointer (some ⟨B, 0, none⟩)) {v : Value} (hl : Lay 9 w B v) (h : wpList Try.prog ops Q rest (a.put op.dst v) w) : wpList Try.prog ops Q (op :: rest) a w :=
  wpList_step fun _ hK => by rw [if_pos hw]; exact loadA ho hx hl (hK _ _ h)
theorem yieldA {ops : Array Oper} {S : World → Prop} {op : Oper} {a : Act} {x : Operand} (hw : Region.wanted op (yielded ops a.tmps) = true) (ho : op.op = .load 52 x)
    {B : Nat} (hx : a.eval x = .pointer (some ⟨B, 0, none⟩)) {v : Value} (hS : ∀ w, S w → Lay 9 w B v) : YieldsIf Try.prog ops S op v a := by
  obtain ⟨d, hu, hd⟩ := rowA
  exact yields_load_lay hu hd szA hw ho hx hS
theorem storeA {op : Oper} {a : Act} {w : World} {K : Act → World → Prop} {Q : Exit → Act → World → Prop} {x y : Operand} (ho : op.op = .store 52 x y)
    {B : Nat} (hx : a.eval x = .pointer (some ⟨B, 0, none⟩)) {v : Value} (hy : a.eval y = v) (hr : Room 9 w B) (hf : Flat 9 v)
    (h : ∀ w', w.grownBy w' (some B) → Lay 9 w' B v → Room 9 w' B → K (a.put op.dst undef) w') : op.wp Try.prog a w K Q :=
  wp_store_lay szA ho hx hy hr hf h
theorem storesA {ops : Array Oper} {rest : List Oper} {op : Oper} {a : Act} {w : World} {Q : Exit → Act → World → Prop} {x y : Operand} (hgd : op.guard = none) (ho : op.op = .store 52 x y)
    {B : Nat} (hx : a.eval x = .pointer (some ⟨B, 0, none⟩)) {v : Value} (hy : a.eval y = v) (hr : Room 9 w B) (hf : Flat 9 v)
    (h : ∀ w', w.grownBy w' (some B) → Lay 9 w' B v → Room 9 w' B → wpList Try.prog ops Q rest (a.put op.dst undef) w') : wpList Try.prog ops Q (op :: rest) a w :=
  wpList_plain hgd fun _ hK => storeA ho hx hy hr hf fun _ h1 h3 h4 => hK _ _ (h _ h1 h3 h4)
theorem boxA {op : Oper} {a : Act} {w : World} {K : Act → World → Prop} {Q : Exit → Act → World → Prop} {x : Operand} (ho : op.op = .box 52 x) {v : Value} (hy : a.eval x = v) (hf : Flat 9 v)
    (h : ∀ B w', w.heap.size ≤ B → B < w'.heap.size → Ext w w' → Lay 9 w' B v → Room 9 w' B → K (a.put op.dst (.pointer (some ⟨B, 0, none⟩))) w') : op.wp Try.prog a w K Q :=
  wp_box_lay ho hy hf h
theorem boxsA {ops : Array Oper} {rest : List Oper} {op : Oper} {a : Act} {w : World} {Q : Exit → Act → World → Prop} {x : Operand} (hgd : op.guard = none) (ho : op.op = .box 52 x) {v : Value} (hy : a.eval x = v) (hf : Flat 9 v)
    (h : ∀ B w', w.heap.size ≤ B → B < w'.heap.size → Ext w w' → Lay 9 w' B v → Room 9 w' B → wpList Try.prog ops Q rest (a.put op.dst (.pointer (some ⟨B, 0, none⟩))) w') : wpList Try.prog ops Q (op :: rest) a w :=
  wpList_plain hgd fun _ hK => boxA ho hy hf fun _ _ h0 h1 h2 h3 h4 => hK _ _ (h _ _ h0 h1 h2 h3 h4)
theorem allocA {op : Oper} {a : Act} {w : World} {K : Act → World → Prop} {Q : Exit → Act → World → Prop} (ho : op.op = .alloc 52)
    (h : ∀ B w', w.heap.size ≤ B → B < w'.heap.size → Ext w w' → Lay 9 w' B zeroArr → Room 9 w' B → K (a.put op.dst (.pointer (some ⟨B, 0, none⟩))) w') : op.wp Try.prog a w K Q := by
  obtain ⟨i, hi, hz⟩ := zrA
  exact wp_alloc_lay hi hz zeroArr_flat ho h
theorem allocsA {ops : Array Oper} {rest : List Oper} {op : Oper} {a : Act} {w : World} {Q : Exit → Act → World → Prop} (hgd : op.guard = none) (ho : op.op = .alloc 52)
    (h : ∀ B w', w.heap.size ≤ B → B < w'.heap.size → Ext w w' → Lay 9 w' B zeroArr → Room 9 w' B → wpList Try.prog ops Q rest (a.put op.dst (.pointer (some ⟨B, 0, none⟩))) w') : wpList Try.prog ops Q (op :: rest) a w :=
  wpList_plain hgd fun _ hK => allocA ho fun _ _ h0 h1 h2 h3 h4 => hK _ _ (h _ _ h0 h1 h2 h3 h4)
theorem infoIntY : (Try.prog.info? 3).map (fun i => (i.zero, i.size, i.bytes)) = some (some (.int .i64 0), 1, 8) := by kernel_rfl
theorem cloneIntY (A : Option Addr) (n c : Nat) (xs : List Value) (w : World) (hs : Sl w 1 A n xs) (h1 : ∀ u ∈ xs, u.oneCell' = true) (hn : n ≤ 2097152) :
    Calls Try.prog 100 #[.slice A n c] w fun e w' => ∃ v, e = .returned v ∧ w'.ownsRow w.heap.size 3 1 v n xs ∧ Ext w w' := by
  have heq := fun w : World => Lib.run_eql_slice_nil (P := Try.prog) w 50 3 A n c 0 0 Try.underlying50
  cases A with
  | none =>
    have h0 : n = 0 := by
      rcases Nat.eq_zero_or_pos n with h | h
      · exact h
      · obtain ⟨a, e, _⟩ := hs.2 (by omega); cases e
    subst h0
    have hx : xs = [] := List.eq_nil_of_length_eq_zero (by simpa using hs.1)
    subst hx
    go_enter Try.func100, Try.ntmps100
    go_wp2
    go_ret
    exact ⟨_, rfl, World.ownsRow_nil _ _ _ _, Ext.refl _⟩
  | some a =>
    obtain ⟨i0, hi0, hz0, hz1, hz2⟩ := info_parts infoIntY
    have hbs := fun w : World => run_buildSlice_none (P := Try.prog) 50 3 Try.underlying50 (by kernel_rfl) w
    have ho := World.ownsRow_made (size := 1) (e := 3) (base := w.heap.size) w #[] 0 (Nat.le_refl _) (by simp only [maxLen]; omega) (by simp)
    go_enter Try.func100, Try.ntmps100
    go_wp2_with (at_builtin; refine wpList_append_sl _ rfl _ _ 50 rfl w.heap.size 3 i0 (.int .i64 0) 1 8 Try.underlying50 hi0 hz0 hz1 hz2 rfl (by omega) _ 0 [] rfl ho (some a) n c xs rfl (hs.alloc _) h1 (by omega) (by omega) (by simp) ?_; intro v' w1 hown hbel)
    go_ret
    refine ⟨_, rfl, by simpa using hown, ?_⟩
    exact ((Ext.refl w).alloc _).trans' hbel
theorem clone_ints (A : Option Addr) (n c : Nat) (xs : List Value) (w : World) (hs : Sl w 1 A n xs) (h1 : ∀ u ∈ xs, u.oneCell' = true) (hn : n ≤ 1048576) : Calls Try.prog 100 #[.slice A n c] w fun e w' => ∃ B D, e = .returned (.slice B n D) ∧ Ext w w' := (cloneIntY A n c xs w hs h1 (by omega)).mono fun e w' => by
  rintro ⟨v, rfl, ho, hx⟩
  obtain ⟨B, D, rfl, -, -⟩ := own_form ho
  exact ⟨B, D, rfl, hx⟩
section
variable (sA : Option Addr) (ns sc : Nat) (iA : Option Addr) (m ic : Nat) (dp : Int) (hdp : (dp == 0) = false) (w : World) (hm2 : m ≤ 1048576) (hn2 : ns ≤ 1048576) (IT : Nat → It) (xs : List Value)
  (HI : Hid (∀ w', Ext w w' → ∀ k, k < m → ∃ a, iA = some a ∧ ItAt w' (a.add (k * 4)) (IT k)))
  (HSH : Hid (Sl w 1 sA ns xs)) (hone : ∀ u ∈ xs, u.oneCell' = true)
  (cp : ∀ w', Ext w w' → Calls Try.prog 99 #[.slice sA ns sc, .int .i64 1048576] w' fun e w2 => e = .returned (.tuple #[.int .i64 (m : Int), .int .i64 0]) ∧ Ext w' w2)
include hdp hm2 HI HSH hone cp hn2
theorem vof_0 (hkd : ∀ k, k < m → (IT k).kind = 0 ∧ fin (IT k).num ∧ (IT k).num < 18446744073709551616) : Calls Try.prog 96 #[(.agg #[.slice sA ns sc, .slice iA m ic, .int .i64 0]), .int .i64 dp] w (fun e w' => ∃ sB sD A1 n1 k1 bn A3 n3 k3 A4 n4 k4 A5 n5 k5 A6 n6 k6 A7 n7 k7, e = .returned (.tuple #[(.agg #[.slice sB ns sD, .int .i64 (leastL (dnL ((List.range m).map fun k => (IT k).num)) : Nat), .slice A1 n1 k1, .int .i64 bn, .slice A3 n3 k3, .slice A4 n4 k4, .slice A5 n5 k5, .slice A6 n6 k6, .slice A7 n7 k7]), .int .i64 0]) ∧ NumS w' (.agg #[.int .i64 (leastL (dnL ((List.range m).map fun k => (IT k).num)) : Nat), .slice A1 n1 k1, .int .i64 bn, .slice A3 n3 k3, .slice A4 n4 k4, .slice A5 n5 k5, .slice A6 n6 k6, .slice A7 n7 k7]) (leastL (dnL ((List.range m).map fun k => (IT k).num))) (dnL ((List.range m).map fun k => (IT k).num)) (New w.heap.size) ∧ Ext w w') := by
  have hF := pl_flat sA ns sc iA m ic 0
  have HKD : Hid (∀ k, k < m → (IT k).kind = 0) := fun k hk => (hkd k hk).1
  have hX : ∀ x ∈ (List.range m).map (fun k => (IT k).num), fin x ∧ x < 18446744073709551616 := by
    intro x hx
    obtain ⟨k, hk, rfl⟩ := List.mem_map.1 hx
    exact (hkd k (List.mem_range.1 hk)).2
  have hrow : f64s ((List.range m).map (fun k => (IT k).num)) = pre (fun k => .float .f64 (IT k).num) m := by simp [f64s, pre]
  have cn := fun A c w' (hs : Sl w' 1 A m (pre (fun k => .float .f64 (IT k).num) m)) => numbers_yes A ((List.range m).map fun k => (IT k).num) m (by simp) (fun x hx => (hX x hx).2) (List.all_eq_true.2 fun x hx => decide_eq_true (hX x hx).1) c w' hm2 (hrow ▸ hs)
  have cclone := fun w' hs => clone_ints sA ns sc xs w' hs hone hn2
  clear hkd hX hrow
  generalize dnL ((List.range m).map fun k => (IT k).num) = X at *
  generalize leastL X = kX at *
  obtain ⟨FV, hFV⟩ : ∃ FV : Nat → Value, (fun k => .float .f64 (IT k).num) = FV := ⟨_, rfl⟩
  rw [hFV] at cn
  have HFV : Hid (∀ k, FV k = .float .f64 (IT k).num) := fun k => by rw [← hFV]
  clear hFV hone
  have E := Ext.refl w
  go_enter Try.func96, Try.ntmps96
  have TB2 : True := trivial
  have TB4 : True := trivial
  go_wp2_with (first | (clear TB2; refine boxsP (v := (.agg #[.slice sA ns sc, .slice iA m ic, .int .i64 0])) rfl rfl rfl hF ?_; intro B2 w2 bB2 cB2 XB2 LB2 RB2; have z1 := XB2.size; replace E := E.trans XB2; have cB2_0 := lay_cell LB2 (j := 0) rfl; have cB2_1 := lay_cell LB2 (j := 1) rfl; have cB2_2 := lay_cell LB2 (j := 2) rfl; clear LB2 RB2) | (clear TB4; refine allocsA rfl rfl ?_; intro B4 w4 bB4 cB4 XB4 LB4 RB4; have z2 := XB4.size; replace E := E.trans XB4; replace cB2_0 := cell_ext (XB4) cB2_0; replace cB2_1 := cell_ext (XB4) cB2_1; replace cB2_2 := cell_ext (XB4) cB2_2))
  refine (cp _ E).mono ?_
  rintro e w33 ⟨rfl, x⟩
  have z3 := x.size
  replace E := E.trans x
  replace cB2_0 := cell_ext (x) cB2_0
  replace cB2_1 := cell_ext (x) cB2_1
  replace cB2_2 := cell_ext (x) cB2_2
  replace LB4 := LB4.ext x
  replace RB4 := RB4.ext x
  clear x
  go_wp2_with fail
  obtain ⟨BS, hBS1, hBS2⟩ : ∃ BS, BS ≤ w33.heap.size ∧ w33.heap.size ≤ BS := ⟨_, Nat.le_refl _, Nat.le_refl _⟩
  go_loopw [8, 49] (fun o i wr => ∃ (k TP : Nat) (oA : Option Addr) (oc : Nat), k ≤ m ∧ o = .slice oA k oc ∧ i = .int .i64 k ∧ Ext w wr ∧ w33.heap.size ≤ wr.heap.size ∧ (wr.cell? ⟨B2, 0, none⟩ = some (.slice sA ns sc) ∧ wr.cell? ⟨B2, 1, none⟩ = some (.slice iA m ic) ∧ wr.cell? ⟨B2, 2, none⟩ = some (.int .i64 0)) ∧ (Lay 9 wr B4 zeroArr ∧ Room 9 wr B4) ∧ RowB 81 1 wr BS TP (.slice oA k oc) k (pre FV k) ∧ TP ≤ wr.heap.size) (fun _ i _ => m - (intOf i).toNat)
  case atStart => exact ⟨0, 0, none, 0, Nat.zero_le _, rfl, rfl, E, Nat.le_refl _, ⟨cB2_0, cB2_1, cB2_2⟩, ⟨LB4, RB4⟩, RowB.nil, Nat.zero_le _⟩
  case round =>
    obtain ⟨k, TP, oA, oc, hk, rfl, rfl, E', zW, ⟨d0, d1, d2⟩, ⟨l4, r4⟩, HO, hTP⟩ := hrel
    clear E cB2_0 cB2_1 cB2_2 LB4 RB4
    have E := E'
    have cB2_0 := d0
    have cB2_1 := d1
    have cB2_2 := d2
    have LB4 := l4
    have RB4 := r4
    clear E' d0 d1 d2 l4 r4
    have z4 := E.size
    by_cases hlt : k < m
    · obtain ⟨a, ea, hI⟩ := HI.out _ E k hlt
      subst ea
      have D0 := hI.c0
      have D1 := hI.c1
      have D2 := hI.c2
      have D3 := hI.c3
      have hbb := World.block_lt_of_cell? _ _ D0
      clear hI
      have HFk := HFV.out k
      rw [HKD.out k hlt] at D0
      generalize hx : IT k = x at D0 D1 D2 D3 HFk
      clear hx
      obtain ⟨kd, nm, ch, bA, bn, bc⟩ := x
      simp only at D0 D1 D2 D3 HFk
      have HPS : Hid (pre FV k ++ [.float .f64 nm] = pre FV (k + 1)) := by show _ = _; rw [← HFk]; exact pre_step FV k
      clear HFk
      have TB12 : True := trivial
      have TG6 : True := trivial
      have TA67 : True := trivial
      go_wp2_with (first | (clear TB12; refine allocsI rfl rfl ?_; intro B12 w12 bB12 cB12 XB12 LB12 RB12; have z5 := XB12.size; replace E := E.trans XB12; replace cB2_0 := cell_ext (XB12) cB2_0; replace cB2_1 := cell_ext (XB12) cB2_1; replace cB2_2 := cell_ext (XB12) cB2_2; replace LB4 := LB4.ext XB12; replace RB4 := RB4.ext XB12; replace HO := HO.ext XB12; replace D1 := cell_ext (XB12) D1; replace D2 := cell_ext (XB12) D2; replace D3 := cell_ext (XB12) D3; have cB12_0 := lay_cell LB12 (j := 0) rfl; have cB12_1 := lay_cell LB12 (j := 1) rfl; have cB12_2 := lay_cell LB12 (j := 2) rfl; clear LB12) | (clear TG6; have hRl := (RB12).lt (Nat.zero_lt_succ _); refine storesI (B := B12) rfl rfl rfl (v := (.agg #[.int .i64 0, .float .f64 nm, .int .i32 ch, .slice bA bn bc])) rfl RB12 (it_flat 0 nm ch bA bn bc) ?_; clear cB12_0; clear cB12_1; clear cB12_2; intro s6 G6 LB12 RQ; have z7 := G6.size; replace E := grown_ext E G6 (by omega); replace cB2_0 := cell_grown (G6) cB2_0 (by show B2 ≠ _; omega); replace cB2_1 := cell_grown (G6) cB2_1 (by show B2 ≠ _; omega); replace cB2_2 := cell_grown (G6) cB2_2 (by show B2 ≠ _; omega); replace LB4 := LB4.grown G6 (by omega); replace RB4 := RB4.grown G6 (by omega); replace HO := HO.grown G6 (by omega); replace D1 := cell_grown (G6) D1 (by first | omega | (dsimp only; omega)); replace D2 := cell_grown (G6) D2 (by first | omega | (dsimp only; omega)); replace D3 := cell_grown (G6) D3 (by first | omega | (dsimp only; omega)); clear RB12; have RB12 := RQ; clear RQ hRl; have cB12_0 := lay_cell LB12 (j := 0) rfl; have cB12_1 := lay_cell LB12 (j := 1) rfl; have cB12_2 := lay_cell LB12 (j := 2) rfl; clear LB12 RB12) | (clear TA67; refine app_fl rfl rfl (base := BS) (k := k) rfl (HO.ext ((Ext.refl _).alloc _)) rfl (Sl.built _ #[.float .f64 nm] _) (by intro u hu; simp at hu; subst hu; rfl) (by omega) (by simp; omega) ?_; clear HO cB12_0 cB12_1 cB12_2 D1 D2 D3; intro v67 w67 HO H67; obtain ⟨A67, c67, e67, -, -⟩ := own_form HO.1; subst e67; have z8 : s6.heap.size ≤ w67.heap.size := Nat.le_trans ((Ext.refl s6).alloc _).size H67.size; replace E := (E.alloc _).trans' (H67.mono (by omega)); replace cB2_0 := cell_below H67 (cell_ext ((Ext.refl _).alloc _) cB2_0) (by show B2 < BS; omega); replace cB2_1 := cell_below H67 (cell_ext ((Ext.refl _).alloc _) cB2_1) (by show B2 < BS; omega); replace cB2_2 := cell_below H67 (cell_ext ((Ext.refl _).alloc _) cB2_2) (by show B2 < BS; omega); replace LB4 := (LB4.ext ((Ext.refl _).alloc _)).below H67 (by omega); replace RB4 := (RB4.ext ((Ext.refl _).alloc _)).below H67 (by omega); clear H67))
      exact ⟨⟨k + 1, _, _, _, by omega, rfl, by go_num, E, by omega, ⟨cB2_0, cB2_1, cB2_2⟩, ⟨LB4, RB4⟩, by rw [← HPS.out]; exact HO, by omega⟩, by simp [intOf]; omega⟩
    · have hkm : k = m := by omega
      rw [hkm] at HO ⊢
      have SO := SlS.all HO.sl
      clear HO hkm
      go_wp2_with fail
      refine (cn oA oc _ SO.is).mono ?_
      rintro e w103 ⟨v, rfl, hq, x⟩
      obtain ⟨A1, n1, k1, bn, A3, n3, k3, A4, n4, k4, A5, n5, k5, A6, n6, k6, A7, n7, k7, rfl⟩ := hq.is.shape
      have NP := hq.now
      clear hq
      have z9 := x.size
      replace E := E.trans x
      replace cB2_0 := cell_ext (x) cB2_0
      replace cB2_1 := cell_ext (x) cB2_1
      replace cB2_2 := cell_ext (x) cB2_2
      replace LB4 := LB4.ext x
      replace RB4 := RB4.ext x
      replace SO := SO.ext x
      clear x
      have TB15 : True := trivial
      have TG11 : True := trivial
      go_wp2_with (first | (clear TB15; refine allocsV rfl rfl ?_; intro B15 w15 bB15 cB15 XB15 LB15 RB15; have z10 := XB15.size; replace E := E.trans XB15; replace cB2_0 := cell_ext (XB15) cB2_0; replace cB2_1 := cell_ext (XB15) cB2_1; replace cB2_2 := cell_ext (XB15) cB2_2; replace LB4 := LB4.ext XB15; replace RB4 := RB4.ext XB15; replace NP := NP.ext XB15) | (clear TG11; have hRl := (RB15).lt (Nat.zero_lt_succ _); refine storesV (B := B15) rfl rfl rfl (v := (.agg #[.int .i64 (kX : Nat), .slice A1 n1 k1, .int .i64 bn, .slice A3 n3 k3, .slice A4 n4 k4, .slice A5 n5 k5, .slice A6 n6 k6, .slice A7 n7 k7])) rfl RB15 NP.is.flat ?_; clear LB15; intro s11 G11 LB15 RQ; have z12 := G11.size; replace E := grown_ext E G11 (by omega); replace cB2_0 := cell_grown (G11) cB2_0 (by show B2 ≠ _; omega); replace cB2_1 := cell_grown (G11) cB2_1 (by show B2 ≠ _; omega); replace cB2_2 := cell_grown (G11) cB2_2 (by show B2 ≠ _; omega); replace LB4 := LB4.grown G11 (by omega); replace RB4 := RB4.grown G11 (by omega); replace NP := NP.grown G11 (by first | omega | (dsimp only [New]; omega)); clear RB15; have RB15 := RQ; clear RQ hRl; clear RB15))
      try simp only [Act.put, List.setIfInBounds_toArray, List.set_cons_zero, List.set_cons_succ]
      have hq13 : s11.heap.size ≤ s11.drew.heap.size := Nat.le_refl _
      have z14 := (Ext.refl s11).drew.size
      replace E := E.trans (Ext.refl s11).drew
      replace cB2_0 := cell_ext ((Ext.refl s11).drew) cB2_0
      replace cB2_1 := cell_ext ((Ext.refl s11).drew) cB2_1
      replace cB2_2 := cell_ext ((Ext.refl s11).drew) cB2_2
      replace LB4 := LB4.ext (Ext.refl s11).drew
      replace RB4 := RB4.ext (Ext.refl s11).drew
      replace NP := NP.ext (Ext.refl s11).drew
      replace LB15 := LB15.ext (Ext.refl s11).drew
      refine wp_region_held_drew (S := (fun w' => Lay 8 w' B15 (.agg #[.int .i64 (kX : Nat), .slice A1 n1 k1, .int .i64 bn, .slice A3 n3 k3, .slice A4 n4 k4, .slice A5 n5 k5, .slice A6 n6 k6, .slice A7 n7 k7]) ∧ w'.cell? ⟨B2, 0, none⟩ = some (.slice sA ns sc))) (by kernel_rfl) ⟨LB15, (cB2_0)⟩ (fun hHeld => ?_)
      refine wpAnyH_take (i := 0) (oi := { dst := some 119, op := Go.Op.fieldAddr 89 (Go.Operand.tmp 2) 0, type := 0, pos := "value.go:151", after := #[], guard := none }) (v := ?v15) rfl (by kernel_rfl) (by kernel_rfl) (by kernel_rfl) (fun _ _ _ h => h) (Or.inl ⟨by rfl, ?hy15⟩) hHeld ?rest15
      case hy15 => (intro w hSw; (try dsimp only at hSw); obtain ⟨hS0, hS1⟩ := hSw; go_simp; (first | done | with_reducible rfl))
      try simp only [Act.put, List.setIfInBounds_toArray, List.set_cons_zero, List.set_cons_succ]
      refine wpAnyH_take (i := 1) (oi := { dst := some 120, op := Go.Op.load 50 (Go.Operand.tmp 119), type := 50, pos := "value.go:151", after := #[{ on := 0, ground := Go.Ground.data }], guard := none }) (v := ?v16) rfl (by kernel_rfl) (by kernel_rfl) (by kernel_rfl) (fun _ _ _ h => h) (Or.inl ⟨by rfl, ?hy16⟩) hHeld ?rest16
      case hy16 => (intro w hSw; (try dsimp only at hSw); obtain ⟨hS0, hS1⟩ := hSw; go_simp; (first | done | with_reducible rfl))
      try simp only [Act.put, List.setIfInBounds_toArray, List.set_cons_zero, List.set_cons_succ]
      refine wpAnyH_take (i := 3) (oi := { dst := some 122, op := Go.Op.load 34 (Go.Operand.tmp 15), type := 34, pos := "value.go:151", after := #[], guard := none }) (v := (.agg #[.int .i64 (kX : Nat), .slice A1 n1 k1, .int .i64 bn, .slice A3 n3 k3, .slice A4 n4 k4, .slice A5 n5 k5, .slice A6 n6 k6, .slice A7 n7 k7])) rfl (by kernel_rfl) (by kernel_rfl) (by kernel_rfl) (fun _ _ _ h => h) (yieldV (by rfl) rfl rfl fun w' hx => hx.1) hHeld ?_
      try simp only [Act.put, List.setIfInBounds_toArray, List.set_cons_zero, List.set_cons_succ]
      refine wpAnyH_ready (rs := [2]) (by kernel_rfl) (by simp) ?_
      refine AllReadyH.cons (o := { dst := some 121, op := Go.Op.call { callee := Go.Callee.value (Go.Operand.func 100), args := #[Go.Operand.tmp 120], argTypes := #[50] }, type := 50, pos := "value.go:151", after := #[{ on := 1, ground := Go.Ground.data }], guard := none }) rfl (fun K hK => ?_) (AllReadyH.nil)
      go_simp
      refine (cclone _ (HSH.out.ext E)).mono ?_
      rintro e w121 ⟨sB, sD, rfl, x⟩
      have z18 := x.size
      replace E := E.trans x
      replace cB2_0 := cell_ext (x) cB2_0
      replace cB2_1 := cell_ext (x) cB2_1
      replace cB2_2 := cell_ext (x) cB2_2
      replace LB4 := LB4.ext x
      replace RB4 := RB4.ext x
      replace NP := NP.ext x
      replace LB15 := LB15.ext x
      clear x
      clear hHeld
      have hHeld := And.intro LB15 ((cB2_0))
      refine hK.out _ _ hHeld (fun _ => ?_)
      clear hK K
      try simp only [Act.put, List.setIfInBounds_toArray, List.set_cons_zero, List.set_cons_succ]
      refine wpAnyH_take (i := 4) (oi := { dst := some 123, op := Go.Op.build 52 #[(0, Go.Operand.tmp 121), (1, Go.Operand.tmp 122)], type := 52, pos := "value.go:151", after := #[{ on := 2, ground := Go.Ground.data }, { on := 3, ground := Go.Ground.data }], guard := none }) (v := ?v19) rfl (by kernel_rfl) (by kernel_rfl) (by kernel_rfl) (fun _ _ _ h => h) (Or.inl ⟨by rfl, ?hy19⟩) hHeld ?rest19
      case hy19 => (intro w hSw; (try dsimp only at hSw); obtain ⟨hS0, hS1⟩ := hSw; go_simp; (first | done | with_reducible rfl))
      try simp only [Act.put, List.setIfInBounds_toArray, List.set_cons_zero, List.set_cons_succ]
      refine wpAnyH_ready (rs := [5]) (by kernel_rfl) (by simp) ?_
      refine AllReadyH.cons (o := { dst := none, op := Go.Op.store 52 (Go.Operand.tmp 4) (Go.Operand.tmp 123), type := 0, pos := "value.go:151", after := #[{ on := 4, ground := Go.Ground.data }, { on := 2, ground := Go.Ground.chain }, { on := 0, ground := Go.Ground.phase }, { on := 1, ground := Go.Ground.phase }, { on := 2, ground := Go.Ground.phase }, { on := 3, ground := Go.Ground.phase }, { on := 4, ground := Go.Ground.phase }], guard := none }) rfl (fun K hK => ?_) (AllReadyH.nil)
      rw [if_pos (by rfl)]
      have hRl := (RB4).lt (Nat.zero_lt_succ _)
      refine storeA (by rfl) (by rfl) (v := (.agg #[.slice sB ns sD, .int .i64 (kX : Nat), .slice A1 n1 k1, .int .i64 bn, .slice A3 n3 k3, .slice A4 n4 k4, .slice A5 n5 k5, .slice A6 n6 k6, .slice A7 n7 k7])) (by rfl) RB4 (arr_flat _ _ _ _ _ _ _ _ _ _ _ _ _ _ _ _ _ _ _ _ _ _ _) ?_
      clear LB4
      intro s20 G20 LB4 RQ
      have z21 := G20.size
      replace E := grown_ext E G20 (by omega)
      replace cB2_0 := cell_grown (G20) cB2_0 (by show B2 ≠ _; omega)
      replace cB2_1 := cell_grown (G20) cB2_1 (by show B2 ≠ _; omega)
      replace cB2_2 := cell_grown (G20) cB2_2 (by show B2 ≠ _; omega)
      replace NP := NP.grown G20 (by first | omega | (dsimp only [New]; omega))
      replace LB15 := LB15.grown G20 (by omega)
      clear RB4
      have RB4 := RQ
      clear RQ hRl G20
      clear hHeld
      have hHeld := And.intro LB15 ((cB2_0))
      refine hK.out _ _ hHeld (fun _ => ?_)
      clear hK K
      try simp only [Act.put]
      refine wpAnyH_take (i := 6) (oi := { dst := some 5, op := Go.Op.assign (Go.Operand.const (Go.Value.int Go.IntKind.i64 0)), type := 59, pos := "value.go:151", after := #[{ on := 5, ground := Go.Ground.chain }, { on := 0, ground := Go.Ground.phase }, { on := 1, ground := Go.Ground.phase }, { on := 2, ground := Go.Ground.phase }, { on := 3, ground := Go.Ground.phase }, { on := 4, ground := Go.Ground.phase }, { on := 5, ground := Go.Ground.phase }], guard := none }) (v := ?v22) rfl (by kernel_rfl) (by kernel_rfl) (by kernel_rfl) (fun _ _ _ h => h) (Or.inl ⟨by rfl, ?hy22⟩) hHeld ?rest22
      case hy22 => (intro w hSw; (try dsimp only at hSw); obtain ⟨hS0, hS1⟩ := hSw; go_simp; (first | done | with_reducible rfl))
      try simp only [Act.put, List.setIfInBounds_toArray, List.set_cons_zero, List.set_cons_succ]
      refine wpAnyH_done (by kernel_rfl) ?_ _
      go_wp2_with fail
      refine bodyPost_ret (results_lay2 rfl rfl rfl (ldA LB4)) rfl ?_
      exact ⟨sB, sD, A1, n1, k1, bn, A3, n3, k3, A4, n4, k4, A5, n5, k5, A6, n6, k6, A7, n7, k7, rfl, NP.mono (fun i hi h => by dsimp only [New] at *; omega), E⟩
end
end Go.Proofs.Ytdfhefnjoekgbaa
