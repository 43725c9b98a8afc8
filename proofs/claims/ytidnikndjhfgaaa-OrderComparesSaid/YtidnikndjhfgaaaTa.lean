/- cmp.Compare[float64], order.Compare of numbers; Cells and Less of single numbers. -/
import Derived.Test.YtidnikndjhfgaaaSl
namespace Go.Proofs.Ytidnikndjhfgaaa
open Go.ChangeShapes Go.WideShapes Go.RowKit Bv Fl
set_option maxHeartbeats 1000000
set_option maxRecDepth 100000
/-- how two numbers stand to each other -/
def cmpI (a b : Nat) : Int := if key a < key b then -1 else if key b < key a then 1 else 0
theorem isnan_no (a : Nat) (ha : nn a) (w : World) : Calls Try.prog 78 #[.float .f64 a] w fun e w' => e = .returned (.bool false) ∧ w = w' := by
  have c : (FloatKind.f64.format.order a a != some .eq) = false := by rw [c_ne ha ha]; simp
  clear ha
  go_enter Try.func78, Try.ntmps78
  go_wp2_with fail
  go_ret
  exact ⟨rfl, rfl⟩
theorem fcmp_any (a b : Nat) (ha : nn a) (hb : nn b) (w : World) : Calls Try.prog 50 #[.float .f64 a, .float .f64 b] w fun e w' => e = .returned (.int .i64 (cmpI a b)) ∧ w = w' := by
  have ca := fun w => isnan_no a ha w
  have cb := fun w => isnan_no b hb w
  have c1 := c_lt ha hb
  have c2 := c_gt ha hb
  unfold cmpI
  clear ha hb
  by_cases h1 : key a < key b
  · rw [decide_eq_true h1] at c1
    rw [if_pos h1]
    clear h1 c2
    go_enter Try.func50, Try.ntmps50
    go_wp2_with fail
    refine (ca _).mono ?_
    rintro e w8 ⟨rfl, rfl⟩
    go_wp2_with fail
    refine (cb _).mono ?_
    rintro e w10 ⟨rfl, rfl⟩
    go_wp2_with fail
    go_ret
    exact ⟨rfl, rfl⟩
  · rw [decide_eq_false h1] at c1
    rw [if_neg h1]
    by_cases h2 : key b < key a
    · rw [decide_eq_true h2] at c2
      rw [if_pos h2]
      clear h1 h2
      go_enter Try.func50, Try.ntmps50
      go_wp2_with fail
      refine (ca _).mono ?_
      rintro e w8 ⟨rfl, rfl⟩
      go_wp2_with fail
      refine (cb _).mono ?_
      rintro e w10 ⟨rfl, rfl⟩
      go_wp2_with fail
      go_ret
      exact ⟨rfl, rfl⟩
    · rw [decide_eq_false h2] at c2
      rw [if_neg h2]
      clear h1 h2
      go_enter Try.func50, Try.ntmps50
      go_wp2_with fail
      refine (ca _).mono ?_
      rintro e w8 ⟨rfl, rfl⟩
      go_wp2_with fail
      refine (cb _).mono ?_
      rintro e w10 ⟨rfl, rfl⟩
      go_wp2_with fail
      go_ret
      exact ⟨rfl, rfl⟩
theorem ocmp_num (v u : Value) (K J : Nat) (x y : List Nat) (i k : Nat) (hi : i < x.length) (hk : k < y.length) (w : World) (hv : IsNum w v K x) (hu : IsNum w u J y) : Calls Try.prog 26 #[v, .int .i64 (i : Int), u, .int .i64 (k : Int)] w fun e w' => e = .returned (.tuple #[.int .i64 (cmpI (x.getD i 0) (y.getD k 0)), .bool true]) ∧ Ext w w' := by
  have hF := hv.flat
  have hG := hu.flat
  have da : ∀ w', Ext w w' → Calls Try.prog 49 #[v] w' fun e w2 => e = .returned (.int .i64 0) ∧ Ext w' w2 := fun w' h => nclass_any v K x w' (hv.ext h)
  have db : ∀ w', Ext w w' → Calls Try.prog 49 #[u] w' fun e w2 => e = .returned (.int .i64 0) ∧ Ext w' w2 := fun w' h => nclass_any u J y w' (hu.ext h)
  have na : ∀ w', Ext w w' → Calls Try.prog 51 #[v, .int .i64 (i : Int)] w' fun e w2 => e = .returned (.float .f64 (x.getD i 0)) ∧ Ext w' w2 := fun w' h => nnum_in v K x i w' (hv.ext h) hi
  have nb : ∀ w', Ext w w' → Calls Try.prog 51 #[u, .int .i64 (k : Int)] w' fun e w2 => e = .returned (.float .f64 (y.getD k 0)) ∧ Ext w' w2 := fun w' h => nnum_in u J y k w' (hu.ext h) hk
  have cc : ∀ w', Calls Try.prog 50 #[.float .f64 (x.getD i 0), .float .f64 (y.getD k 0)] w' fun e w2 => e = .returned (.int .i64 (cmpI (x.getD i 0) (y.getD k 0))) ∧ Ext w' w2 := fun w' => (fcmp_any _ _ (hv.tidy _ (getD_memN hi)).1.nn (hu.tidy _ (getD_memN hk)).1.nn w').mono fun e w2 h => ⟨h.1, h.2 ▸ Ext.refl _⟩
  clear hv hu hi hk
  generalize cmpI (x.getD i 0) (y.getD k 0) = ci at *
  generalize x.getD i 0 = xi at *
  generalize y.getD k 0 = yk at *
  have E := Ext.refl w
  go_enter Try.func26, Try.ntmps26
  have TB4 : True := trivial
  have TB6 : True := trivial
  go_wp2_with (first | (clear TB4; refine boxsV (v := v) rfl rfl rfl hF ?_; intro B4 w4 bB4 cB4 XB4 LB4 RB4; have z1 := XB4.size; replace E := E.trans XB4; clear RB4) | (clear TB6; refine boxsV (v := u) rfl rfl rfl hG ?_; intro B6 w6 bB6 cB6 XB6 LB6 RB6; have z2 := XB6.size; replace E := E.trans XB6; replace LB4 := LB4.ext XB6; clear RB6))
  try simp only [Act.put, List.setIfInBounds_toArray, List.set_cons_zero, List.set_cons_succ]
  have hq3 : w6.heap.size ≤ w6.drew.heap.size := Nat.le_refl _
  have z4 := (Ext.refl w6).drew.size
  replace E := E.trans (Ext.refl w6).drew
  replace LB4 := LB4.ext (Ext.refl w6).drew
  replace LB6 := LB6.ext (Ext.refl w6).drew
  refine wp_region_held_drew (S := (fun w' => Lay 8 w' B4 v ∧ Lay 8 w' B6 u)) (by kernel_rfl) ⟨LB4, LB6⟩ (fun hHeld => ?_)
  refine wpAnyH_take (i := 0) (oi := { dst := some 10, op := Go.Op.load 41 (Go.Operand.tmp 4), type := 41, pos := "order.go:13", after := #[], guard := none }) (v := v) rfl (by kernel_rfl) (by kernel_rfl) (by kernel_rfl) (fun _ _ _ h => h) (yieldV (by rfl) rfl rfl fun w' hx => hx.1) hHeld ?_
  try simp only [Act.put, List.setIfInBounds_toArray, List.set_cons_zero, List.set_cons_succ]
  refine wpAnyH_take (i := 2) (oi := { dst := some 12, op := Go.Op.load 41 (Go.Operand.tmp 6), type := 41, pos := "order.go:13", after := #[], guard := none }) (v := u) rfl (by kernel_rfl) (by kernel_rfl) (by kernel_rfl) (fun _ _ _ h => h) (yieldV (by rfl) rfl rfl fun w' hx => hx.2) hHeld ?_
  try simp only [Act.put, List.setIfInBounds_toArray, List.set_cons_zero, List.set_cons_succ]
  refine wpAnyH_ready (rs := [1]) (by kernel_rfl) (by simp) ?_
  refine AllReadyH.cons (o := { dst := some 11, op := Go.Op.call { callee := Go.Callee.value (Go.Operand.func 49), args := #[Go.Operand.tmp 10], argTypes := #[41] }, type := 3, pos := "order.go:13", after := #[{ on := 0, ground := Go.Ground.data }], guard := none }) rfl (fun K hK => ?_) (AllReadyH.nil)
  go_simp
  refine (da _ E).mono ?_
  rintro e w11 ⟨rfl, x'⟩
  have z7 := x'.size
  replace E := E.trans x'
  replace LB4 := LB4.ext x'
  replace LB6 := LB6.ext x'
  clear x'
  clear hHeld
  have hHeld := And.intro LB4 (LB6)
  refine hK.out _ _ hHeld (fun _ => ?_)
  clear hK K
  try simp only [Act.put, List.setIfInBounds_toArray, List.set_cons_zero, List.set_cons_succ]
  refine wpAnyH_ready (rs := [3]) (by kernel_rfl) (by simp) ?_
  refine AllReadyH.cons (o := { dst := some 13, op := Go.Op.call { callee := Go.Callee.value (Go.Operand.func 49), args := #[Go.Operand.tmp 12], argTypes := #[41] }, type := 3, pos := "order.go:13", after := #[{ on := 2, ground := Go.Ground.data }, { on := 1, ground := Go.Ground.chain }], guard := none }) rfl (fun K hK => ?_) (AllReadyH.nil)
  go_simp
  refine (db _ E).mono ?_
  rintro e w13 ⟨rfl, x'⟩
  have z8 := x'.size
  replace E := E.trans x'
  replace LB4 := LB4.ext x'
  replace LB6 := LB6.ext x'
  clear x'
  clear hHeld
  have hHeld := And.intro LB4 (LB6)
  refine hK.out _ _ hHeld (fun _ => ?_)
  clear hK K
  try simp only [Act.put, List.setIfInBounds_toArray, List.set_cons_zero, List.set_cons_succ]
  refine wpAnyH_take (i := 4) (oi := { dst := some 14, op := Go.Op.binOp Go.BinOp.neq 3 (Go.Operand.tmp 11) (Go.Operand.tmp 13) 3, type := 4, pos := "order.go:13", after := #[{ on := 1, ground := Go.Ground.data }, { on := 3, ground := Go.Ground.data }], guard := none }) (v := ?v9) rfl (by kernel_rfl) (by kernel_rfl) (by kernel_rfl) (fun _ _ _ h => h) (Or.inl ⟨by rfl, ?hy9⟩) hHeld ?rest9
  case hy9 => (intro w hSw; (try dsimp only at hSw); go_simp; (first | done | with_reducible rfl))
  try simp only [Act.put, List.setIfInBounds_toArray, List.set_cons_zero, List.set_cons_succ]
  refine wpAnyH_done (by kernel_rfl) ?_ _
  go_wp2_with (refine loadsV (B := B4) (by rfl) rfl rfl LB4 ?_)
  refine (da _ E).mono ?_
  rintro e w16 ⟨rfl, x'⟩
  have z10 := x'.size
  replace E := E.trans x'
  replace LB4 := LB4.ext x'
  replace LB6 := LB6.ext x'
  clear x'
  go_wp2_with fail
  try simp only [Act.put, List.setIfInBounds_toArray, List.set_cons_zero, List.set_cons_succ]
  have hq11 : w16.heap.size ≤ w16.drew.heap.size := Nat.le_refl _
  have z12 := (Ext.refl w16).drew.size
  replace E := E.trans (Ext.refl w16).drew
  replace LB4 := LB4.ext (Ext.refl w16).drew
  replace LB6 := LB6.ext (Ext.refl w16).drew
  refine wp_region_held_drew (S := (fun w' => Lay 8 w' B4 v ∧ Lay 8 w' B6 u)) (by kernel_rfl) ⟨LB4, LB6⟩ (fun hHeld => ?_)
  refine wpAnyH_take (i := 0) (oi := { dst := some 19, op := Go.Op.load 41 (Go.Operand.tmp 4), type := 41, pos := "order.go:18", after := #[], guard := none }) (v := v) rfl (by kernel_rfl) (by kernel_rfl) (by kernel_rfl) (fun _ _ _ h => h) (yieldV (by rfl) rfl rfl fun w' hx => hx.1) hHeld ?_
  try simp only [Act.put, List.setIfInBounds_toArray, List.set_cons_zero, List.set_cons_succ]
  refine wpAnyH_take (i := 1) (oi := { dst := some 20, op := Go.Op.move (Go.Operand.tmp 1), type := 3, pos := "order.go:18", after := #[], guard := none }) (v := ?v14) rfl (by kernel_rfl) (by kernel_rfl) (by kernel_rfl) (fun _ _ _ h => h) (Or.inl ⟨by rfl, ?hy14⟩) hHeld ?rest14
  case hy14 => (intro w hSw; (try dsimp only at hSw); go_simp; (first | done | with_reducible rfl))
  try simp only [Act.put, List.setIfInBounds_toArray, List.set_cons_zero, List.set_cons_succ]
  refine wpAnyH_take (i := 3) (oi := { dst := some 22, op := Go.Op.load 41 (Go.Operand.tmp 6), type := 41, pos := "order.go:18", after := #[], guard := none }) (v := u) rfl (by kernel_rfl) (by kernel_rfl) (by kernel_rfl) (fun _ _ _ h => h) (yieldV (by rfl) rfl rfl fun w' hx => hx.2) hHeld ?_
  try simp only [Act.put, List.setIfInBounds_toArray, List.set_cons_zero, List.set_cons_succ]
  refine wpAnyH_take (i := 4) (oi := { dst := some 23, op := Go.Op.move (Go.Operand.tmp 3), type := 3, pos := "order.go:18", after := #[], guard := none }) (v := ?v16) rfl (by kernel_rfl) (by kernel_rfl) (by kernel_rfl) (fun _ _ _ h => h) (Or.inl ⟨by rfl, ?hy16⟩) hHeld ?rest16
  case hy16 => (intro w hSw; (try dsimp only at hSw); go_simp; (first | done | with_reducible rfl))
  try simp only [Act.put, List.setIfInBounds_toArray, List.set_cons_zero, List.set_cons_succ]
  refine wpAnyH_ready (rs := [2]) (by kernel_rfl) (by simp) ?_
  refine AllReadyH.cons (o := { dst := some 21, op := Go.Op.call { callee := Go.Callee.value (Go.Operand.func 51), args := #[Go.Operand.tmp 19, Go.Operand.tmp 20], argTypes := #[41, 3] }, type := 56, pos := "order.go:18", after := #[{ on := 0, ground := Go.Ground.data }, { on := 1, ground := Go.Ground.data }], guard := none }) rfl (fun K hK => ?_) (AllReadyH.nil)
  go_simp
  refine (na _ E).mono ?_
  rintro e w21 ⟨rfl, x'⟩
  have z17 := x'.size
  replace E := E.trans x'
  replace LB4 := LB4.ext x'
  replace LB6 := LB6.ext x'
  clear x'
  clear hHeld
  have hHeld := And.intro LB4 (LB6)
  refine hK.out _ _ hHeld (fun _ => ?_)
  clear hK K
  try simp only [Act.put, List.setIfInBounds_toArray, List.set_cons_zero, List.set_cons_succ]
  refine wpAnyH_ready (rs := [5]) (by kernel_rfl) (by simp) ?_
  refine AllReadyH.cons (o := { dst := some 24, op := Go.Op.call { callee := Go.Callee.value (Go.Operand.func 51), args := #[Go.Operand.tmp 22, Go.Operand.tmp 23], argTypes := #[41, 3] }, type := 56, pos := "order.go:18", after := #[{ on := 3, ground := Go.Ground.data }, { on := 4, ground := Go.Ground.data }, { on := 2, ground := Go.Ground.chain }], guard := none }) rfl (fun K hK => ?_) (AllReadyH.nil)
  go_simp
  refine (nb _ E).mono ?_
  rintro e w24 ⟨rfl, x'⟩
  have z18 := x'.size
  replace E := E.trans x'
  replace LB4 := LB4.ext x'
  replace LB6 := LB6.ext x'
  clear x'
  clear hHeld
  have hHeld := And.intro LB4 (LB6)
  refine hK.out _ _ hHeld (fun _ => ?_)
  clear hK K
  try simp only [Act.put, List.setIfInBounds_toArray, List.set_cons_zero, List.set_cons_succ]
  refine wpAnyH_ready (rs := [6]) (by kernel_rfl) (by simp) ?_
  refine AllReadyH.cons (o := { dst := some 25, op := Go.Op.call { callee := Go.Callee.value (Go.Operand.func 50), args := #[Go.Operand.tmp 21, Go.Operand.tmp 24], argTypes := #[56, 56] }, type := 3, pos := "order.go:18", after := #[{ on := 2, ground := Go.Ground.data }, { on := 5, ground := Go.Ground.data }, { on := 5, ground := Go.Ground.chain }], guard := none }) rfl (fun K hK => ?_) (AllReadyH.nil)
  go_simp
  refine (cc _).mono ?_
  rintro e w25 ⟨rfl, x'⟩
  have z19 := x'.size
  replace E := E.trans x'
  replace LB4 := LB4.ext x'
  replace LB6 := LB6.ext x'
  clear x'
  clear hHeld
  have hHeld := And.intro LB4 (LB6)
  refine hK.out _ _ hHeld (fun _ => ?_)
  clear hK K
  try simp only [Act.put, List.setIfInBounds_toArray, List.set_cons_zero, List.set_cons_succ]
  refine wpAnyH_take (i := 7) (oi := { dst := some 8, op := Go.Op.assign (Go.Operand.tmp 25), type := 3, pos := "order.go:18", after := #[{ on := 6, ground := Go.Ground.data }, { on := 6, ground := Go.Ground.chain }, { on := 0, ground := Go.Ground.phase }, { on := 1, ground := Go.Ground.phase }, { on := 2, ground := Go.Ground.phase }, { on := 3, ground := Go.Ground.phase }, { on := 4, ground := Go.Ground.phase }, { on := 5, ground := Go.Ground.phase }, { on := 6, ground := Go.Ground.phase }], guard := none }) (v := ?v20) rfl (by kernel_rfl) (by kernel_rfl) (by kernel_rfl) (fun _ _ _ h => h) (Or.inl ⟨by rfl, ?hy20⟩) hHeld ?rest20
  case hy20 => (intro w hSw; (try dsimp only at hSw); go_simp; (first | done | with_reducible rfl))
  try simp only [Act.put, List.setIfInBounds_toArray, List.set_cons_zero, List.set_cons_succ]
  refine wpAnyH_take (i := 8) (oi := { dst := some 9, op := Go.Op.assign (Go.Operand.const (Go.Value.bool true)), type := 4, pos := "order.go:18", after := #[{ on := 7, ground := Go.Ground.chain }, { on := 0, ground := Go.Ground.phase }, { on := 1, ground := Go.Ground.phase }, { on := 2, ground := Go.Ground.phase }, { on := 3, ground := Go.Ground.phase }, { on := 4, ground := Go.Ground.phase }, { on := 5, ground := Go.Ground.phase }, { on := 6, ground := Go.Ground.phase }, { on := 7, ground := Go.Ground.phase }], guard := none }) (v := ?v21) rfl (by kernel_rfl) (by kernel_rfl) (by kernel_rfl) (fun _ _ _ h => h) (Or.inl ⟨by rfl, ?hy21⟩) hHeld ?rest21
  case hy21 => (intro w hSw; (try dsimp only at hSw); go_simp; (first | done | with_reducible rfl))
  try simp only [Act.put, List.setIfInBounds_toArray, List.set_cons_zero, List.set_cons_succ]
  refine wpAnyH_done (by kernel_rfl) ?_ _
  go_wp2_with fail
  go_ret2
  exact ⟨rfl, E⟩
end Go.Proofs.Ytidnikndjhfgaaa
