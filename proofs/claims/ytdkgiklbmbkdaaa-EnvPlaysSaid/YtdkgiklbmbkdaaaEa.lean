/- value.Num, rebuslaw33.number. -/
import Derived.Test.YtdkgiklbmbkdaaaQl
namespace Go.Proofs.Ytdkgiklbmbkdaaa
open Go.ChangeShapes Go.WideShapes Go.RowKit Bv Fl
set_option maxHeartbeats 1000000
set_option maxRecDepth 100000
theorem zeroArr_flat : Flat 9 zeroArr := ⟨_, rfl, rfl, by simp [Value.oneCell']⟩
theorem arr_flat (a : Option Addr) (n c : Nat) (k : Int) (A1 : Option Addr) (n1 k1 : Nat) (b : Int) (A3 : Option Addr) (n3 k3 : Nat) (A4 : Option Addr) (n4 k4 : Nat) (A5 : Option Addr) (n5 k5 : Nat) (A6 : Option Addr) (n6 k6 : Nat) (A7 : Option Addr) (n7 k7 : Nat) : Flat 9 (.agg #[.slice a n c, .int .i64 k, .slice A1 n1 k1, .int .i64 b, .slice A3 n3 k3, .slice A4 n4 k4, .slice A5 n5 k5, .slice A6 n6 k6, .slice A7 n7 k7]) := ⟨_, rfl, rfl, by simp [Value.oneCell']⟩
theorem szA : (Try.prog.info? 49).map (·.size) = some 9 := by kernel_rfl
theorem rowA : ∃ d : TypeDesc, Try.prog.underlying 49 = some d ∧ d.isRow = true := ⟨_, Try.underlying49, rfl⟩
theorem zrA : ∃ i, Try.prog.info? 49 = some i ∧ i.zero = some zeroArr := by
  have h : (Try.prog.info? 49).bind (·.zero) = some zeroArr := by kernel_rfl
  obtain ⟨i, hi, hz⟩ := Option.bind_eq_some_iff.1 h
  exact ⟨i, hi, hz⟩
theorem ldA {w : World} {B : Nat} {v : Value} (h : Lay 9 w B v) : (loadVar 49 ⟨B, 0, none⟩).run Try.prog w = .ok v w := by
  obtain ⟨d, hu, hd⟩ := rowA
  exact run_loadVar_lay hu hd szA h
theorem loadA {op : Oper} {a : Act} {w : World} {K : Act → World → Prop} {Q : Exit → Act → World → Prop} {x : Operand} (ho : op.op = .load 49 x)
    {B : Nat} (hx : a.eval x = .pointer (some ⟨B, 0, none⟩)) {v : Value} (hl : Lay 9 w B v) (h : K (a.put op.dst v) w) : op.wp Try.prog a w K Q := by
  obtain ⟨d, hu, hd⟩ := rowA
  exact wp_load_lay hu hd szA ho hx hl h
theorem loadsA {ops : Array Oper} {rest : List Oper} {op : Oper} {a : Act} {w : World} {Q : Exit → Act → World → Prop} {x : Operand} (hgd : op.guard = none) (ho : op.op = .load 49 x)
    {B : Nat} (hx : a.eval x = .pointer (some ⟨B, 0, none⟩)) {v : Value} (hl : Lay 9 w B v) (h : wpList Try.prog ops Q rest (a.put op.dst v) w) : wpList Try.prog ops Q (op :: rest) a w :=
  wpList_plain hgd fun _ hK => loadA ho hx hl (hK _ _ h)
theorem yieldA {ops : Array Oper} {S : World → Prop} {op : Oper} {a : Act} {x : Operand} (hw : Region.wanted op (yielded ops a.tmps) = true) (ho : op.op = .load 49 x)
    {B : Nat} (hx : a.eval x = .pointer (some ⟨B, 0, none⟩)) {v : Value} (hS : ∀ w, S w → Lay 9 w B v) : YieldsIf Try.prog ops S op v a := by
  obtain ⟨d, hu, hd⟩ := rowA
  exact yields_load_lay hu hd szA hw ho hx hS
theorem storeA {op : Oper} {a : Act} {w : World} {K : Act → World → Prop} {Q : Exit → Act → World → Prop} {x y : Operand} (ho : op.op = .store 49 x y)
    {B : Nat} (hx : a.eval x = .pointer (some ⟨B, 0, none⟩)) {v : Value} (hy : a.eval y = v) (hr : Room 9 w B) (hf : Flat 9 v)
    (h : ∀ w', w.grownBy w' (some B) → Lay 9 w' B v → Room 9 w' B → K (a.put op.dst undef) w') : op.wp Try.prog a w K Q :=
  wp_store_lay szA ho hx hy hr hf h
theorem storesA {ops : Array Oper} {rest : List Oper} {op : Oper} {a : Act} {w : World} {Q : Exit → Act → World → Prop} {x y : Operand} (hgd : op.guard = none) (ho : op.op = .store 49 x y)
    {B : Nat} (hx : a.eval x = .pointer (some ⟨B, 0, none⟩)) {v : Value} (hy : a.eval y = v) (hr : Room 9 w B) (hf : Flat 9 v)
    (h : ∀ w', w.grownBy w' (some B) → Lay 9 w' B v → Room 9 w' B → wpList Try.prog ops Q rest (a.put op.dst undef) w') : wpList Try.prog ops Q (op :: rest) a w :=
  wpList_plain hgd fun _ hK => storeA ho hx hy hr hf fun _ h1 h3 h4 => hK _ _ (h _ h1 h3 h4)
theorem boxA {op : Oper} {a : Act} {w : World} {K : Act → World → Prop} {Q : Exit → Act → World → Prop} {x : Operand} (ho : op.op = .box 49 x) {v : Value} (hy : a.eval x = v) (hf : Flat 9 v)
    (h : ∀ B w', w.heap.size ≤ B → B < w'.heap.size → Ext w w' → Lay 9 w' B v → Room 9 w' B → K (a.put op.dst (.pointer (some ⟨B, 0, none⟩))) w') : op.wp Try.prog a w K Q :=
  wp_box_lay ho hy hf h
theorem boxsA {ops : Array Oper} {rest : List Oper} {op : Oper} {a : Act} {w : World} {Q : Exit → Act → World → Prop} {x : Operand} (hgd : op.guard = none) (ho : op.op = .box 49 x) {v : Value} (hy : a.eval x = v) (hf : Flat 9 v)
    (h : ∀ B w', w.heap.size ≤ B → B < w'.heap.size → Ext w w' → Lay 9 w' B v → Room 9 w' B → wpList Try.prog ops Q rest (a.put op.dst (.pointer (some ⟨B, 0, none⟩))) w') : wpList Try.prog ops Q (op :: rest) a w :=
  wpList_plain hgd fun _ hK => boxA ho hy hf fun _ _ h0 h1 h2 h3 h4 => hK _ _ (h _ _ h0 h1 h2 h3 h4)
theorem allocA {op : Oper} {a : Act} {w : World} {K : Act → World → Prop} {Q : Exit → Act → World → Prop} (ho : op.op = .alloc 49)
    (h : ∀ B w', w.heap.size ≤ B → B < w'.heap.size → Ext w w' → Lay 9 w' B zeroArr → Room 9 w' B → K (a.put op.dst (.pointer (some ⟨B, 0, none⟩))) w') : op.wp Try.prog a w K Q := by
  obtain ⟨i, hi, hz⟩ := zrA
  exact wp_alloc_lay hi hz zeroArr_flat ho h
theorem allocsA {ops : Array Oper} {rest : List Oper} {op : Oper} {a : Act} {w : World} {Q : Exit → Act → World → Prop} (hgd : op.guard = none) (ho : op.op = .alloc 49)
    (h : ∀ B w', w.heap.size ≤ B → B < w'.heap.size → Ext w w' → Lay 9 w' B zeroArr → Room 9 w' B → wpList Try.prog ops Q rest (a.put op.dst (.pointer (some ⟨B, 0, none⟩))) w') : wpList Try.prog ops Q (op :: rest) a w :=
  wpList_plain hgd fun _ hK => allocA ho fun _ _ h0 h1 h2 h3 h4 => hK _ _ (h _ _ h0 h1 h2 h3 h4)
theorem one_lit (w : World) (u : Value) (t : TypeId) : Sl (w.alloc (.cells #[u] t)) 1 (some ⟨w.heap.size, 0, none⟩) 1 [u] := by
  refine ⟨rfl, fun _ => ⟨_, rfl, by simp, fun j v hv => ?_⟩⟩
  rw [show (Addr.add ⟨w.heap.size, 0, none⟩ j) = ⟨w.heap.size, j, none⟩ by unfold Addr.add; split <;> simp_all]
  rw [World.cell?_alloc_new]
  simpa using hv
theorem valNum (x : Nat) (hx : x < 18446744073709551616) (hf : fin x) (w : World) : Calls Try.prog 20 #[.float .f64 x] w fun e w' => ∃ A1 n1 k1 bn A3 n3 k3 A4 n4 k4 A5 n5 k5 A6 n6 k6 A7 n7 k7, e = .returned (.tuple #[(.agg #[.slice none 0 0, .int .i64 (leastL [dn x] : Nat), .slice A1 n1 k1, .int .i64 bn, .slice A3 n3 k3, .slice A4 n4 k4, .slice A5 n5 k5, .slice A6 n6 k6, .slice A7 n7 k7]), .bool true]) ∧ NumS w' (.agg #[.int .i64 (leastL [dn x] : Nat), .slice A1 n1 k1, .int .i64 bn, .slice A3 n3 k3, .slice A4 n4 k4, .slice A5 n5 k5, .slice A6 n6 k6, .slice A7 n7 k7]) (leastL [dn x]) [dn x] (New w.heap.size) ∧ Ext w w' := by
  have cn := fun A c w hs => numbers_yes A [x] 1 rfl (by simpa using hx) (by simp [allF, hf]) c w (by omega) hs
  have e1 : dnL [x] = [dn x] := rfl
  rw [e1] at cn
  clear e1 hx hf
  generalize leastL [dn x] = k at *
  generalize [dn x] = X at *
  have E := Ext.refl w
  go_enter Try.func20, Try.ntmps20
  have TB2 : True := trivial
  go_wp2_with (clear TB2; refine allocsA rfl rfl ?_; intro B2 w2 bB2 cB2 XB2 LB2 RB2; have z1 := XB2.size; replace E := E.trans XB2)
  refine (cn _ 1 _ (one_lit _ _ _)).mono ?_
  rintro e w9 ⟨v, rfl, hq, x2⟩
  obtain ⟨A1, n1, k1, bn, A3, n3, k3, A4, n4, k4, A5, n5, k5, A6, n6, k6, A7, n7, k7, rfl⟩ := hq.is.shape
  have NP := hq.now.mono (S' := fun i => New w2.heap.size i ∧ i < w9.heap.size) (fun i hi h => ⟨by have := h.1; simp [New] at this; dsimp only [New]; omega, h.2⟩)
  have x := ((Ext.refl _).alloc _).trans x2
  clear hq x2
  have z2 := x.size
  replace E := E.trans x
  replace LB2 := LB2.ext x
  replace RB2 := RB2.ext x
  clear x
  have TB4 : True := trivial
  have TG4 : True := trivial
  have TG6 : True := trivial
  go_wp2_with (first | (clear TB4; refine allocsV rfl rfl ?_; intro B4 w4 bB4 cB4 XB4 LB4 RB4; have z3 := XB4.size; replace E := E.trans XB4; replace LB2 := LB2.ext XB4; replace RB2 := RB2.ext XB4; replace NP := NP.ext XB4) | (clear TG4; have hRl := (RB4).lt (Nat.zero_lt_succ _); refine storesV (B := B4) rfl rfl rfl (v := (.agg #[.int .i64 (k : Nat), .slice A1 n1 k1, .int .i64 bn, .slice A3 n3 k3, .slice A4 n4 k4, .slice A5 n5 k5, .slice A6 n6 k6, .slice A7 n7 k7])) rfl RB4 NP.is.flat ?_; clear LB4; intro s4 G4 LB4 RQ; have z5 := G4.size; replace E := grown_ext E G4 (by omega); replace LB2 := LB2.grown G4 (by omega); replace RB2 := RB2.grown G4 (by omega); replace NP := NP.grown G4 (by first | omega | (dsimp only [New]; omega)); clear RB4; have RB4 := RQ; clear RQ hRl; clear RB4) | (refine loadsV (B := B4) (by rfl) rfl rfl LB4 ?_) | (clear TG6; have hRl := (RB2).lt (Nat.zero_lt_succ _); refine storesA (B := B2) rfl rfl rfl (v := (.agg #[.slice none 0 0, .int .i64 (k : Nat), .slice A1 n1 k1, .int .i64 bn, .slice A3 n3 k3, .slice A4 n4 k4, .slice A5 n5 k5, .slice A6 n6 k6, .slice A7 n7 k7])) rfl RB2 (arr_flat _ _ _ _ _ _ _ _ _ _ _ _ _ _ _ _ _ _ _ _ _ _ _) ?_; clear LB2; intro s6 G6 LB2 RQ; have z7 := G6.size; replace E := grown_ext E G6 (by omega); replace NP := NP.grown G6 (by first | omega | (dsimp only [New]; omega)); replace LB4 := LB4.grown G6 (by omega); clear RB2; have RB2 := RQ; clear RQ hRl; clear RB2))
  refine bodyPost_ret (results_lay2 rfl rfl rfl (ldA LB2)) rfl ?_
  exact ⟨A1, n1, k1, bn, A3, n3, k3, A4, n4, k4, A5, n5, k5, A6, n6, k6, A7, n7, k7, rfl, NP.mono (fun i hi h => by dsimp only [New] at *; omega), E⟩
theorem number_any (z : Nat) (hz : z < 256) (w : World) : Calls Try.prog 8 #[.int .u8 (z : Int)] w fun e w' => ∃ A1 n1 k1 bn A3 n3 k3 A4 n4 k4 A5 n5 k5 A6 n6 k6 A7 n7 k7, e = .returned (.agg #[.slice none 0 0, .int .i64 (leastL [fi z] : Nat), .slice A1 n1 k1, .int .i64 bn, .slice A3 n3 k3, .slice A4 n4 k4, .slice A5 n5 k5, .slice A6 n6 k6, .slice A7 n7 k7]) ∧ NumS w' (.agg #[.int .i64 (leastL [fi z] : Nat), .slice A1 n1 k1, .int .i64 bn, .slice A3 n3 k3, .slice A4 n4 k4, .slice A5 n5 k5, .slice A6 n6 k6, .slice A7 n7 k7]) (leastL [fi z]) [fi z] (New w.heap.size) ∧ Ext w w' := by
  have hft : tidy (fi (z : Int)) := fi_tidy (by omega) (by omega)
  have hd : dn (fi (z : Int)) = fi (z : Int) := (dn_of hft.1).trans (norm_tidy hft)
  have cv := fun w => valNum (fi (z : Int)) hft.2.1 hft.1 w
  rw [hd] at cv
  clear hft hd
  generalize leastL [fi (z : Int)] = k at *
  generalize hX : [fi (z : Int)] = X at *
  clear hX
  have hc : floatOfInt FloatKind.f64 (z : Int) = fi (z : Int) := rfl
  generalize fi (z : Int) = y at *
  have E := Ext.refl w
  go_enter Try.func8, Try.ntmps8
  have TB2 : True := trivial
  go_wp2_with (clear TB2; refine allocsA rfl rfl ?_; intro B2 w2 bB2 cB2 XB2 LB2 RB2; have z1 := XB2.size; replace E := E.trans XB2)
  refine (cv _).mono ?_
  rintro e w8 ⟨A1, n1, k1, bn, A3, n3, k3, A4, n4, k4, A5, n5, k5, A6, n6, k6, A7, n7, k7, rfl, hq, x⟩
  have NP := hq.now
  clear hq
  have z2 := x.size
  replace E := E.trans x
  replace LB2 := LB2.ext x
  replace RB2 := RB2.ext x
  clear x
  have TB3 : True := trivial
  have TG4 : True := trivial
  have TG6 : True := trivial
  go_wp2_with (first | (clear TB3; refine allocsA rfl rfl ?_; intro B3 w3 bB3 cB3 XB3 LB3 RB3; have z3 := XB3.size; replace E := E.trans XB3; replace LB2 := LB2.ext XB3; replace RB2 := RB2.ext XB3; replace NP := NP.ext XB3) | (clear TG4; have hRl := (RB3).lt (Nat.zero_lt_succ _); refine storesA (B := B3) rfl rfl rfl (v := (.agg #[.slice none 0 0, .int .i64 (k : Nat), .slice A1 n1 k1, .int .i64 bn, .slice A3 n3 k3, .slice A4 n4 k4, .slice A5 n5 k5, .slice A6 n6 k6, .slice A7 n7 k7])) rfl RB3 (arr_flat _ _ _ _ _ _ _ _ _ _ _ _ _ _ _ _ _ _ _ _ _ _ _) ?_; clear LB3; intro s4 G4 LB3 RQ; have z5 := G4.size; replace E := grown_ext E G4 (by omega); replace LB2 := LB2.grown G4 (by omega); replace RB2 := RB2.grown G4 (by omega); replace NP := NP.grown G4 (by first | omega | (dsimp only [New]; omega)); clear RB3; have RB3 := RQ; clear RQ hRl; clear RB3) | (refine loadsA (B := B3) (by rfl) rfl rfl LB3 ?_) | (clear TG6; have hRl := (RB2).lt (Nat.zero_lt_succ _); refine storesA (B := B2) rfl rfl rfl (v := (.agg #[.slice none 0 0, .int .i64 (k : Nat), .slice A1 n1 k1, .int .i64 bn, .slice A3 n3 k3, .slice A4 n4 k4, .slice A5 n5 k5, .slice A6 n6 k6, .slice A7 n7 k7])) rfl RB2 (arr_flat _ _ _ _ _ _ _ _ _ _ _ _ _ _ _ _ _ _ _ _ _ _ _) ?_; clear LB2; intro s6 G6 LB2 RQ; have z7 := G6.size; replace E := grown_ext E G6 (by omega); replace NP := NP.grown G6 (by first | omega | (dsimp only [New]; omega)); replace LB3 := LB3.grown G6 (by omega); clear RB2; have RB2 := RQ; clear RQ hRl; clear RB2))
  refine bodyPost_ret (results_lay rfl rfl (ldA LB2)) rfl ?_
  exact ⟨A1, n1, k1, bn, A3, n3, k3, A4, n4, k4, A5, n5, k5, A6, n6, k6, A7, n7, k7, rfl, NP.mono (fun i hi h => by dsimp only [New] at *; omega), E⟩
end Go.Proofs.Ytdkgiklbmbkdaaa
