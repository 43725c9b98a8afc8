/- order.Compare of characters; rebusref16.Below, Cells, Less. -/
import Derived.Test.YtidnikndjhfgaaaTd
import Derived.Test.YtidnikndjhfgaaaYa
namespace Go.Proofs.Ytidnikndjhfgaaa
open Go.ChangeShapes Go.WideShapes Go.RowKit Bv Fl
set_option maxHeartbeats 2000000
set_option maxRecDepth 100000
theorem isnan_rune (a : Int) (w : World) : Calls Try.prog 82 #[.int .i32 a] w fun e w' => e = .returned (.bool false) ∧ Ext w w' := by
  have E := Ext.refl w
  go_enter Try.func82, Try.ntmps82
  go_wp2_with fail
  go_ret
  exact ⟨rfl, E⟩
theorem ccmp_any (a b : Int) (w : World) : Calls Try.prog 52 #[.int .i32 a, .int .i32 b] w fun e w' => e = .returned (.int .i64 (cmpZ a b)) ∧ Ext w w' := by
  have E := Ext.refl w
  unfold cmpZ
  by_cases h1 : a < b
  · rw [if_pos h1]
    go_enter Try.func52, Try.ntmps52
    go_wp2_with fail
    refine (isnan_rune a _).mono ?_
    rintro e w8 ⟨rfl, x⟩
    have z1 := x.size
    replace E := E.trans x
    clear x
    go_wp2_with fail
    refine (isnan_rune b _).mono ?_
    rintro e w10 ⟨rfl, x⟩
    have z2 := x.size
    replace E := E.trans x
    clear x
    go_wp2_with fail
    go_ret
    exact ⟨rfl, E⟩
  · rw [if_neg h1]
    by_cases h2 : b < a
    · rw [if_pos h2]
      go_enter Try.func52, Try.ntmps52
      go_wp2_with fail
      refine (isnan_rune a _).mono ?_
      rintro e w8 ⟨rfl, x⟩
      have z1 := x.size
      replace E := E.trans x
      clear x
      go_wp2_with fail
      refine (isnan_rune b _).mono ?_
      rintro e w10 ⟨rfl, x⟩
      have z2 := x.size
      replace E := E.trans x
      clear x
      go_wp2_with fail
      go_ret
      exact ⟨rfl, E⟩
    · rw [if_neg h2]
      go_enter Try.func52, Try.ntmps52
      go_wp2_with fail
      refine (isnan_rune a _).mono ?_
      rintro e w8 ⟨rfl, x⟩
      have z1 := x.size
      replace E := E.trans x
      clear x
      go_wp2_with fail
      refine (isnan_rune b _).mono ?_
      rintro e w10 ⟨rfl, x⟩
      have z2 := x.size
      replace E := E.trans x
      clear x
      go_wp2_with fail
      go_ret
      exact ⟨rfl, E⟩
theorem ocmp_chr (v u : Value) (x y : List Int) (i k : Nat) (hi : i < x.length) (hk : k < y.length) (w : World) (hv : IsVec w v (VD.chars x)) (hu : IsVec w u (VD.chars y)) : Calls Try.prog 26 #[v, .int .i64 (i : Int), u, .int .i64 (k : Int)] w fun e w' => e = .returned (.tuple #[.int .i64 (cmpZ (x.getD i 0) (y.getD k 0)), .bool true]) ∧ Ext w w' := by
  have hF := hv.flat
  have hG := hu.flat
  have da : ∀ w', Ext w w' → Calls Try.prog 49 #[v] w' fun e w2 => e = .returned (.int .i64 1) ∧ Ext w' w2 := fun w' h => vclass_any v (VD.chars x) w' (hv.ext h)
  have db : ∀ w', Ext w w' → Calls Try.prog 49 #[u] w' fun e w2 => e = .returned (.int .i64 1) ∧ Ext w' w2 := fun w' h => vclass_any u (VD.chars y) w' (hu.ext h)
  have ex : ∀ (z : List Int) (j : Nat), j < z.length → (VD.chars z).chrI (j : Int) = z.getD j 0 := fun z j hj => by
    unfold VD.chrI
    rw [if_pos ⟨by omega, by rw [show (VD.chars z).len = z.length from rfl]; omega, rfl⟩, Int.toNat_natCast]
    rfl
  have na : ∀ w', Ext w w' → Calls Try.prog 53 #[v, .int .i64 (i : Int)] w' fun e w2 => e = .returned (.int .i32 (x.getD i 0)) ∧ Ext w' w2 := fun w' h => by
    have := vchar_any v (VD.chars x) (i : Int) w' (hv.ext h)
    rwa [ex x i hi] at this
  have nb : ∀ w', Ext w w' → Calls Try.prog 53 #[u, .int .i64 (k : Int)] w' fun e w2 => e = .returned (.int .i32 (y.getD k 0)) ∧ Ext w' w2 := fun w' h => by
    have := vchar_any u (VD.chars y) (k : Int) w' (hu.ext h)
    rwa [ex y k hk] at this
  have cc : ∀ w', Calls Try.prog 52 #[.int .i32 (x.getD i 0), .int .i32 (y.getD k 0)] w' fun e w2 => e = .returned (.int .i64 (cmpZ (x.getD i 0) (y.getD k 0))) ∧ Ext w' w2 := fun w' => ccmp_any _ _ w'
  clear hv hu hi hk ex
  generalize cmpZ (x.getD i 0) (y.getD k 0) = ci at *
  generalize x.getD i 0 = xi at *
  generalize y.getD k 0 = yk at *
  have E := Ext.refl w
  go_enter Try.func26, Try.ntmps26
  have TB4 : True := trivial
  have TB6 : True := trivial
  go_wp2_with (first | (clear TB4; refine boxsV (v := v) rfl rfl rfl hF ?_; intro B4 w4 bB4 cB4 XB4 LB4 RB4; have z1 := XB4.size; replace E := E.trans XB4; clear RB4) | (clear TB6; refine boxsV (v := u) rfl rfl rfl hG ?_; intro B6 w6 bB6 cB6 XB6 LB6 RB6; have z2 := XB6.size; replace E := E.trans XB6; replace LB4 := LB4.ext XB6; clear RB6))
  try simp only [Act.put, List.setIfInBounds_toArray, List.set_cons_zero, List.set_cons_succ]
  have hq3 : w6.heap.size ≤ w6.drew.heap.size := Nat.le_refl _
  have z4 := (Ext.refl w6).drew.size
  replace E := E.trans (Ext.refl w6).drew
  replace LB4 := LB4.ext (Ext.refl w6).drew
  replace LB6 := LB6.ext (Ext.refl w6).drew
  refine wp_region_held_drew (S := (fun w' => Lay 8 w' B4 v ∧ Lay 8 w' B6 u)) (by kernel_rfl) ⟨LB4, LB6⟩ (fun hHeld => ?_)
  refine wpAnyH_take (i := 0) (oi := { dst := some 10, op := Go.Op.load 41 (Go.Operand.tmp 4), type := 41, pos := "order.go:13", after := #[], guard := none }) (v := v) rfl (by kernel_rfl) (by kernel_rfl) (by kernel_rfl) (fun _ _ _ h => h) (yieldV (by rfl) rfl rfl fun w' hx => hx.1) hHeld ?_
  try simp only [Act.put, List.setIfInBounds_toArray, List.set_cons_zero, List.set_cons_succ]
  refine wpAnyH_take (i := 2) (oi := { dst := some 12, op := Go.Op.load 41 (Go.Operand.tmp 6), type := 41, pos := "order.go:13", after := #[], guard := none }) (v := u) rfl (by kernel_rfl) (by kernel_rfl) (by kernel_rfl) (fun _ _ _ h => h) (yieldV (by rfl) rfl rfl fun w' hx => hx.2) hHeld ?_
  try simp only [Act.put, List.setIfInBounds_toArray, List.set_cons_zero, List.set_cons_succ]
  refine wpAnyH_ready (rs := [1]) (by kernel_rfl) (by simp) ?_
  refine AllReadyH.cons (o := { dst := some 11, op := Go.Op.call { callee := Go.Callee.value (Go.Operand.func 49), args := #[Go.Operand.tmp 10], argTypes := #[41] }, type := 3, pos := "order.go:13", after := #[{ on := 0, ground := Go.Ground.data }], guard := none }) rfl (fun K hK => ?_) (AllReadyH.nil)
  go_simp
  refine (da _ E).mono ?_
  rintro e w11 ⟨rfl, x'⟩
  have z7 := x'.size
  replace E := E.trans x'
  replace LB4 := LB4.ext x'
  replace LB6 := LB6.ext x'
  clear x'
  clear hHeld
  have hHeld := And.intro LB4 (LB6)
  refine hK.out _ _ hHeld (fun _ => ?_)
  clear hK K
  try simp only [Act.put, List.setIfInBounds_toArray, List.set_cons_zero, List.set_cons_succ]
  refine wpAnyH_ready (rs := [3]) (by kernel_rfl) (by simp) ?_
  refine AllReadyH.cons (o := { dst := some 13, op := Go.Op.call { callee := Go.Callee.value (Go.Operand.func 49), args := #[Go.Operand.tmp 12], argTypes := #[41] }, type := 3, pos := "order.go:13", after := #[{ on := 2, ground := Go.Ground.data }, { on := 1, ground := Go.Ground.chain }], guard := none }) rfl (fun K hK => ?_) (AllReadyH.nil)
  go_simp
  refine (db _ E).mono ?_
  rintro e w13 ⟨rfl, x'⟩
  have z8 := x'.size
  replace E := E.trans x'
  replace LB4 := LB4.ext x'
  replace LB6 := LB6.ext x'
  clear x'
  clear hHeld
  have hHeld := And.intro LB4 (LB6)
  refine hK.out _ _ hHeld (fun _ => ?_)
  clear hK K
  try simp only [Act.put, List.setIfInBounds_toArray, List.set_cons_zero, List.set_cons_succ]
  refine wpAnyH_take (i := 4) (oi := { dst := some 14, op := Go.Op.binOp Go.BinOp.neq 3 (Go.Operand.tmp 11) (Go.Operand.tmp 13) 3, type := 4, pos := "order.go:13", after := #[{ on := 1, ground := Go.Ground.data }, { on := 3, ground := Go.Ground.data }], guard := none }) (v := ?v9) rfl (by kernel_rfl) (by kernel_rfl) (by kernel_rfl) (fun _ _ _ h => h) (Or.inl ⟨by rfl, ?hy9⟩) hHeld ?rest9
  case hy9 => (intro w hSw; (try dsimp only at hSw); go_simp; (first | done | with_reducible rfl))
  try simp only [Act.put, List.setIfInBounds_toArray, List.set_cons_zero, List.set_cons_succ]
  refine wpAnyH_done (by kernel_rfl) ?_ _
  go_wp2_with (refine loadsV (B := B4) (by rfl) rfl rfl LB4 ?_)
  refine (da _ E).mono ?_
  rintro e w16 ⟨rfl, x'⟩
  have z10 := x'.size
  replace E := E.trans x'
  replace LB4 := LB4.ext x'
  replace LB6 := LB6.ext x'
  clear x'
  go_wp2_with fail
  try simp only [Act.put, List.setIfInBounds_toArray, List.set_cons_zero, List.set_cons_succ]
  have hq11 : w16.heap.size ≤ w16.drew.heap.size := Nat.le_refl _
  have z12 := (Ext.refl w16).drew.size
  replace E := E.trans (Ext.refl w16).drew
  replace LB4 := LB4.ext (Ext.refl w16).drew
  replace LB6 := LB6.ext (Ext.refl w16).drew
  refine wp_region_held_drew (S := (fun w' => Lay 8 w' B4 v ∧ Lay 8 w' B6 u)) (by kernel_rfl) ⟨LB4, LB6⟩ (fun hHeld => ?_)
  refine wpAnyH_take (i := 0) (oi := { dst := some 28, op := Go.Op.load 41 (Go.Operand.tmp 4), type := 41, pos := "order.go:20", after := #[], guard := none }) (v := v) rfl (by kernel_rfl) (by kernel_rfl) (by kernel_rfl) (fun _ _ _ h => h) (yieldV (by rfl) rfl rfl fun w' hx => hx.1) hHeld ?_
  try simp only [Act.put, List.setIfInBounds_toArray, List.set_cons_zero, List.set_cons_succ]
  refine wpAnyH_take (i := 1) (oi := { dst := some 29, op := Go.Op.move (Go.Operand.tmp 1), type := 3, pos := "order.go:20", after := #[], guard := none }) (v := ?v14) rfl (by kernel_rfl) (by kernel_rfl) (by kernel_rfl) (fun _ _ _ h => h) (Or.inl ⟨by rfl, ?hy14⟩) hHeld ?rest14
  case hy14 => (intro w hSw; (try dsimp only at hSw); go_simp; (first | done | with_reducible rfl))
  try simp only [Act.put, List.setIfInBounds_toArray, List.set_cons_zero, List.set_cons_succ]
  refine wpAnyH_take (i := 3) (oi := { dst := some 31, op := Go.Op.load 41 (Go.Operand.tmp 6), type := 41, pos := "order.go:20", after := #[], guard := none }) (v := u) rfl (by kernel_rfl) (by kernel_rfl) (by kernel_rfl) (fun _ _ _ h => h) (yieldV (by rfl) rfl rfl fun w' hx => hx.2) hHeld ?_
  try simp only [Act.put, List.setIfInBounds_toArray, List.set_cons_zero, List.set_cons_succ]
  refine wpAnyH_take (i := 4) (oi := { dst := some 32, op := Go.Op.move (Go.Operand.tmp 3), type := 3, pos := "order.go:20", after := #[], guard := none }) (v := ?v16) rfl (by kernel_rfl) (by kernel_rfl) (by kernel_rfl) (fun _ _ _ h => h) (Or.inl ⟨by rfl, ?hy16⟩) hHeld ?rest16
  case hy16 => (intro w hSw; (try dsimp only at hSw); go_simp; (first | done | with_reducible rfl))
  try simp only [Act.put, List.setIfInBounds_toArray, List.set_cons_zero, List.set_cons_succ]
  refine wpAnyH_ready (rs := [2]) (by kernel_rfl) (by simp) ?_
  refine AllReadyH.cons (o := { dst := some 30, op := Go.Op.call { callee := Go.Callee.value (Go.Operand.func 53), args := #[Go.Operand.tmp 28, Go.Operand.tmp 29], argTypes := #[41, 3] }, type := 21, pos := "order.go:20", after := #[{ on := 0, ground := Go.Ground.data }, { on := 1, ground := Go.Ground.data }], guard := none }) rfl (fun K hK => ?_) (AllReadyH.nil)
  go_simp
  refine (na _ E).mono ?_
  rintro e w30 ⟨rfl, x'⟩
  have z17 := x'.size
  replace E := E.trans x'
  replace LB4 := LB4.ext x'
  replace LB6 := LB6.ext x'
  clear x'
  clear hHeld
  have hHeld := And.intro LB4 (LB6)
  refine hK.out _ _ hHeld (fun _ => ?_)
  clear hK K
  try simp only [Act.put, List.setIfInBounds_toArray, List.set_cons_zero, List.set_cons_succ]
  refine wpAnyH_ready (rs := [5]) (by kernel_rfl) (by simp) ?_
  refine AllReadyH.cons (o := { dst := some 33, op := Go.Op.call { callee := Go.Callee.value (Go.Operand.func 53), args := #[Go.Operand.tmp 31, Go.Operand.tmp 32], argTypes := #[41, 3] }, type := 21, pos := "order.go:20", after := #[{ on := 3, ground := Go.Ground.data }, { on := 4, ground := Go.Ground.data }, { on := 2, ground := Go.Ground.chain }], guard := none }) rfl (fun K hK => ?_) (AllReadyH.nil)
  go_simp
  refine (nb _ E).mono ?_
  rintro e w33 ⟨rfl, x'⟩
  have z18 := x'.size
  replace E := E.trans x'
  replace LB4 := LB4.ext x'
  replace LB6 := LB6.ext x'
  clear x'
  clear hHeld
  have hHeld := And.intro LB4 (LB6)
  refine hK.out _ _ hHeld (fun _ => ?_)
  clear hK K
  try simp only [Act.put, List.setIfInBounds_toArray, List.set_cons_zero, List.set_cons_succ]
  refine wpAnyH_ready (rs := [6]) (by kernel_rfl) (by simp) ?_
  refine AllReadyH.cons (o := { dst := some 34, op := Go.Op.call { callee := Go.Callee.value (Go.Operand.func 52), args := #[Go.Operand.tmp 30, Go.Operand.tmp 33], argTypes := #[21, 21] }, type := 3, pos := "order.go:20", after := #[{ on := 2, ground := Go.Ground.data }, { on := 5, ground := Go.Ground.data }, { on := 5, ground := Go.Ground.chain }], guard := none }) rfl (fun K hK => ?_) (AllReadyH.nil)
  go_simp
  refine (cc _).mono ?_
  rintro e w34 ⟨rfl, x'⟩
  have z19 := x'.size
  replace E := E.trans x'
  replace LB4 := LB4.ext x'
  replace LB6 := LB6.ext x'
  clear x'
  clear hHeld
  have hHeld := And.intro LB4 (LB6)
  refine hK.out _ _ hHeld (fun _ => ?_)
  clear hK K
  try simp only [Act.put, List.setIfInBounds_toArray, List.set_cons_zero, List.set_cons_succ]
  refine wpAnyH_take (i := 7) (oi := { dst := some 8, op := Go.Op.assign (Go.Operand.tmp 34), type := 3, pos := "order.go:20", after := #[{ on := 6, ground := Go.Ground.data }, { on := 6, ground := Go.Ground.chain }, { on := 0, ground := Go.Ground.phase }, { on := 1, ground := Go.Ground.phase }, { on := 2, ground := Go.Ground.phase }, { on := 3, ground := Go.Ground.phase }, { on := 4, ground := Go.Ground.phase }, { on := 5, ground := Go.Ground.phase }, { on := 6, ground := Go.Ground.phase }], guard := none }) (v := ?v20) rfl (by kernel_rfl) (by kernel_rfl) (by kernel_rfl) (fun _ _ _ h => h) (Or.inl ⟨by rfl, ?hy20⟩) hHeld ?rest20
  case hy20 => (intro w hSw; (try dsimp only at hSw); go_simp; (first | done | with_reducible rfl))
  try simp only [Act.put, List.setIfInBounds_toArray, List.set_cons_zero, List.set_cons_succ]
  refine wpAnyH_take (i := 8) (oi := { dst := some 9, op := Go.Op.assign (Go.Operand.const (Go.Value.bool true)), type := 4, pos := "order.go:20", after := #[{ on := 7, ground := Go.Ground.chain }, { on := 0, ground := Go.Ground.phase }, { on := 1, ground := Go.Ground.phase }, { on := 2, ground := Go.Ground.phase }, { on := 3, ground := Go.Ground.phase }, { on := 4, ground := Go.Ground.phase }, { on := 5, ground := Go.Ground.phase }, { on := 6, ground := Go.Ground.phase }, { on := 7, ground := Go.Ground.phase }], guard := none }) (v := ?v21) rfl (by kernel_rfl) (by kernel_rfl) (by kernel_rfl) (fun _ _ _ h => h) (Or.inl ⟨by rfl, ?hy21⟩) hHeld ?rest21
  case hy21 => (intro w hSw; (try dsimp only at hSw); go_simp; (first | done | with_reducible rfl))
  try simp only [Act.put, List.setIfInBounds_toArray, List.set_cons_zero, List.set_cons_succ]
  refine wpAnyH_done (by kernel_rfl) ?_ _
  go_wp2_with fail
  go_ret2
  exact ⟨rfl, E⟩
theorem OV.chr {w : World} {v : Value} {x : List Int} (h : IsVec w v (VD.chars x)) : OV w v x := by
  refine ⟨h.flat, h.lim, fun w' hx => ?_, fun w' hx i k hi hk => ocmp_chr v v x x i k hi hk w' (h.ext hx) (h.ext hx)⟩
  exact vlen_any v (VD.chars x) w' (h.ext hx)
/-- an item's place in the order -/
def itK (x : It) : Int := if x.kind = 0 then key x.num else x.chr
theorem below_num (kn1 kn2 : Nat) (c1 c2 : Int) (k2 : Int) (A1 A2 : Option Addr) (n1 d1 n2 d2 : Nat) (h1 : nn kn1) (h2 : nn kn2) (w : World) : Calls Try.prog 28 #[.agg #[.int .i64 0, .float .f64 kn1, .int .i32 c1, .slice A1 n1 d1], .agg #[.int .i64 k2, .float .f64 kn2, .int .i32 c2, .slice A2 n2 d2]] w fun e w' => e = .returned (.bool (decide (key kn1 < key kn2))) ∧ Ext w w' := by
  have c := c_lt h1 h2
  have E := Ext.refl w
  clear h1 h2
  generalize decide (key kn1 < key kn2) = d at *
  have hF := it_flat 0 kn1 c1 A1 n1 d1
  have hG := it_flat k2 kn2 c2 A2 n2 d2
  go_enter Try.func28, Try.ntmps28
  have TB2 : True := trivial
  have TB3 : True := trivial
  go_wp2_with (first | (clear TB2; refine boxsI (v := (.agg #[.int .i64 0, .float .f64 kn1, .int .i32 c1, .slice A1 n1 d1])) rfl rfl rfl hF ?_; intro B2 w2 bB2 cB2 XB2 LB2 RB2; have z1 := XB2.size; replace E := E.trans XB2; have cB2_0 := lay_cell LB2 (j := 0) rfl; have cB2_1 := lay_cell LB2 (j := 1) rfl; have cB2_2 := lay_cell LB2 (j := 2) rfl; clear LB2 RB2) | (clear TB3; refine boxsI (v := (.agg #[.int .i64 k2, .float .f64 kn2, .int .i32 c2, .slice A2 n2 d2])) rfl rfl rfl hG ?_; intro B3 w3 bB3 cB3 XB3 LB3 RB3; have z2 := XB3.size; replace E := E.trans XB3; replace cB2_0 := cell_ext (XB3) cB2_0; replace cB2_1 := cell_ext (XB3) cB2_1; replace cB2_2 := cell_ext (XB3) cB2_2; have cB3_0 := lay_cell LB3 (j := 0) rfl; have cB3_1 := lay_cell LB3 (j := 1) rfl; have cB3_2 := lay_cell LB3 (j := 2) rfl; clear LB3 RB3))
  go_ret
  exact ⟨rfl, E⟩
theorem below_chr (k1 : Int) (hk : (k1 == 0) = false) (kn1 kn2 : Nat) (c1 c2 : Int) (k2 : Int) (A1 A2 : Option Addr) (n1 d1 n2 d2 : Nat) (w : World) : Calls Try.prog 28 #[.agg #[.int .i64 k1, .float .f64 kn1, .int .i32 c1, .slice A1 n1 d1], .agg #[.int .i64 k2, .float .f64 kn2, .int .i32 c2, .slice A2 n2 d2]] w fun e w' => e = .returned (.bool (decide (c1 < c2))) ∧ Ext w w' := by
  have E := Ext.refl w
  have hF := it_flat k1 kn1 c1 A1 n1 d1
  have hG := it_flat k2 kn2 c2 A2 n2 d2
  go_enter Try.func28, Try.ntmps28
  have TB2 : True := trivial
  have TB3 : True := trivial
  go_wp2_with (first | (clear TB2; refine boxsI (v := (.agg #[.int .i64 k1, .float .f64 kn1, .int .i32 c1, .slice A1 n1 d1])) rfl rfl rfl hF ?_; intro B2 w2 bB2 cB2 XB2 LB2 RB2; have z1 := XB2.size; replace E := E.trans XB2; have cB2_0 := lay_cell LB2 (j := 0) rfl; have cB2_1 := lay_cell LB2 (j := 1) rfl; have cB2_2 := lay_cell LB2 (j := 2) rfl; clear LB2 RB2) | (clear TB3; refine boxsI (v := (.agg #[.int .i64 k2, .float .f64 kn2, .int .i32 c2, .slice A2 n2 d2])) rfl rfl rfl hG ?_; intro B3 w3 bB3 cB3 XB3 LB3 RB3; have z2 := XB3.size; replace E := E.trans XB3; replace cB2_0 := cell_ext (XB3) cB2_0; replace cB2_1 := cell_ext (XB3) cB2_1; replace cB2_2 := cell_ext (XB3) cB2_2; have cB3_0 := lay_cell LB3 (j := 0) rfl; have cB3_1 := lay_cell LB3 (j := 1) rfl; have cB3_2 := lay_cell LB3 (j := 2) rfl; clear LB3 RB3))
  go_ret
  exact ⟨rfl, E⟩
end Go.Proofs.Ytidnikndjhfgaaa
