/- LogicTurns. -/
import Derived.Test.YtdfhefnjoekgbaaDoorRg
import Derived.Test.YtdfhefnjoekgbaaDoorPl
import Derived.Test.YtdfhefnjoekgbaaDoorPs
namespace Go.Proofs.YtdfhefnjoekgbaaDoor
open Go.ChangeShapes Go.WideShapes Go.RowKit Bv Fl
theorem joinK4 {A0 A1 A2 A3 : Type} {F KA : World → A0 → A1 → A2 → A3 → Prop} {G : Prop} (h : (∀ w a0 a1 a2 a3, F w a0 a1 a2 a3 → KA w a0 a1 a2 a3) → G) (t : ∀ w a0 a1 a2 a3, F w a0 a1 a2 a3 → KA w a0 a1 a2 a3) : G := h t
theorem joinK6 {A0 A1 A2 A3 A4 A5 : Type} {F KA : World → A0 → A1 → A2 → A3 → A4 → A5 → Prop} {G : Prop} (h : (∀ w a0 a1 a2 a3 a4 a5, F w a0 a1 a2 a3 a4 a5 → KA w a0 a1 a2 a3 a4 a5) → G) (t : ∀ w a0 a1 a2 a3 a4 a5, F w a0 a1 a2 a3 a4 a5 → KA w a0 a1 a2 a3 a4 a5) : G := h t
theorem apply_bits (f : Int) (hok : okL f = true) (v u : Value) (a b : List Bool) (N : Nat) (ha : a.length = N) (hb : b.length = N) (hN : N ≤ 1048576) (w : World) (hv : IsVec w v (VD.bits a)) (hu : IsVec w u (VD.bits b)) : Calls Tryd.prog 6 #[.int .i64 f, v, u] w (AppU 0 (VD.bits (tabL N fun i => oneL f (a.getD i false) (b.getD i false))) w) := by
  have la : (VD.bits a).nums.length = N := by rw [VD.nums_length]; exact ha
  have lb : (VD.bits b).nums.length = N := by rw [VD.nums_length]; exact hb
  have na : IsNum w v 1 (VD.bits a).nums := ⟨_, hv, rfl, by omega, by omega, rfl⟩
  have nb : IsNum w u 1 (VD.bits b).nums := ⟨_, hu, rfl, by omega, by omega, rfl⟩
  have h := apply_u f v u 1 1 _ _ (by omega) (by omega) w na nb
  have ta : toB (VD.bits a).nums = a := by have := bitsOf_bits a; unfold bitsOf at this; rwa [if_pos (by rfl)] at this
  have tb : toB (VD.bits b).nums = b := by have := bitsOf_bits b; unfold bitsOf at this; rwa [if_pos (by rfl)] at this
  have le : ∀ (c : List Bool), (∀ x ∈ (VD.bits c).nums, tidy x) → leastL (VD.bits c).nums ≤ 1 := fun c hc => (leastL_le1 hc).2 fun j hj => by
    have hj' : j < c.length := by rw [VD.nums_length] at hj; exact hj
    rw [show (VD.bits c).nums.getD j 0 = bitW (c.getD j false) by
      simp only [VD.nums, List.getD]
      rw [List.getElem?_map, List.getElem?_range (by show j < (VD.bits c).len; exact hj')]
      rfl]
    cases c.getD j false
    · exact .inl rfl
    · exact .inr rfl
  have hl : lenOk (N : Int) (N : Int) = true := by simp [lenOk]
  have hv0 : lenV (N : Int) (N : Int) = (N : Int) := if_pos rfl
  have hE : appE f (VD.bits a).nums (VD.bits b).nums = 0 := by
    unfold appE
    rw [la, lb, if_neg (by rw [hok]; decide), if_neg (by rw [hl]; decide)]
    split
    · rfl
    · rw [decide_eq_true (le a na.tidy), decide_eq_true (le b nb.tidy), if_neg (by decide)]
  have hD : appD f (VD.bits a).nums (VD.bits b).nums = VD.bits (tabL N fun i => oneL f (a.getD i false) (b.getD i false)) := by
    unfold appD appL
    rw [if_pos hE, if_pos hE, ta, tb, la, lb, hv0, Int.toNat_natCast]
    unfold appB
    congr 1
    apply tabL_ext
    intro j hj
    unfold pkB
    rw [ha, hb]
    by_cases h1 : 1 < N
    · rw [if_pos h1, if_pos h1]
    · rw [if_neg h1, if_neg h1, show j = 0 by omega]
  rwa [hE, hD] at h
def andL (a b : List Bool) (N : Nat) : List Bool := tabL N fun i => a.getD i false && b.getD i false
def nandL (a b : List Bool) (N : Nat) : List Bool := tabL N fun i => !a.getD i false || !b.getD i false
theorem not_and (a b : List Bool) (N : Nat) : notL (andL a b N) = nandL a b N := by
  have hl : (andL a b N).length = N := tabL_length _ _
  refine tabL_of (by rw [notL_length, hl]) fun j hj => ?_
  rw [notL_getD _ (by rw [hl]; exact hj)]
  unfold andL
  rw [tabL_getD, decide_eq_true hj, Bool.true_and, Bool.not_and]
set_option maxHeartbeats 4000000
set_option maxRecDepth 100000
theorem all_any (v : Value) (l : List Bool) (w : World) (h : IsB w v l) : Calls Tryd.prog 10 #[v] w fun e w' => e = .returned (.bool ((cnt l l.length : Int) == (l.length : Int))) ∧ Ext w w' := by
  have hF := h.flat
  have cc : ∀ w', Ext w w' → Calls Tryd.prog 11 #[v] w' fun e w2 => e = .returned (.int .i64 (cnt l l.length : Int)) ∧ Ext w' w2 := fun w' hx => count_any v l w' (h.ext hx)
  have cl : ∀ w', Ext w w' → Calls Tryd.prog 23 #[v] w' fun e w2 => e = .returned (.int .i64 (l.length : Int)) ∧ Ext w' w2 := fun w' hx => blen_any v l w' (h.ext hx)
  clear h
  generalize (cnt l l.length : Int) = k at *
  generalize (l.length : Int) = m at *
  have E := Ext.refl w
  go_enter Tryd.func10, Tryd.ntmps10
  have TB1 : True := trivial
  go_wp2_with (clear TB1; refine boxsB (v := v) rfl rfl rfl hF ?_; intro B1 w1 bB1 cB1 XB1 LB1 RB1; have z1 := XB1.size; replace E := E.trans XB1; clear RB1)
  try simp only [Act.put, List.setIfInBounds_toArray, List.set_cons_zero, List.set_cons_succ]
  have hq2 : w1.heap.size ≤ w1.drew.heap.size := Nat.le_refl _
  have z3 := (Ext.refl w1).drew.size
  replace E := E.trans (Ext.refl w1).drew
  replace LB1 := LB1.ext (Ext.refl w1).drew
  refine wp_region_held_drew (S := (fun w' => Lay 2 w' B1 v)) (by kernel_rfl) LB1 (fun hHeld => ?_)
  refine wpAnyH_take (i := 0) (oi := { dst := some 3, op := Go.Op.load 26 (Go.Operand.tmp 1), type := 26, pos := "logic.go:97", after := #[], guard := none }) (v := v) rfl (by kernel_rfl) (by kernel_rfl) (by kernel_rfl) (fun _ _ _ h => h) (yieldB (by rfl) rfl rfl fun w' hx => hx) hHeld ?_
  try simp only [Act.put, List.setIfInBounds_toArray, List.set_cons_zero, List.set_cons_succ]
  refine wpAnyH_take (i := 2) (oi := { dst := some 5, op := Go.Op.load 26 (Go.Operand.tmp 1), type := 26, pos := "logic.go:97", after := #[], guard := none }) (v := v) rfl (by kernel_rfl) (by kernel_rfl) (by kernel_rfl) (fun _ _ _ h => h) (yieldB (by rfl) rfl rfl fun w' hx => hx) hHeld ?_
  try simp only [Act.put, List.setIfInBounds_toArray, List.set_cons_zero, List.set_cons_succ]
  refine wpAnyH_ready (rs := [1]) (by kernel_rfl) (by simp) ?_
  refine AllReadyH.cons (o := { dst := some 4, op := Go.Op.call { callee := Go.Callee.value (Go.Operand.func 11), args := #[Go.Operand.tmp 3], argTypes := #[26] }, type := 3, pos := "logic.go:97", after := #[{ on := 0, ground := Go.Ground.data }], guard := none }) rfl (fun K hK => ?_) (AllReadyH.nil)
  go_simp
  refine (cc _ E).mono ?_
  rintro e w4 ⟨rfl, x⟩
  have z6 := x.size
  replace E := E.trans x
  replace LB1 := LB1.ext x
  clear x
  clear hHeld
  have hHeld := LB1
  refine hK.out _ _ hHeld (fun _ => ?_)
  clear hK K
  try simp only [Act.put, List.setIfInBounds_toArray, List.set_cons_zero, List.set_cons_succ]
  refine wpAnyH_ready (rs := [3]) (by kernel_rfl) (by simp) ?_
  refine AllReadyH.cons (o := { dst := some 6, op := Go.Op.call { callee := Go.Callee.value (Go.Operand.func 23), args := #[Go.Operand.tmp 5], argTypes := #[26] }, type := 3, pos := "logic.go:97", after := #[{ on := 2, ground := Go.Ground.data }, { on := 1, ground := Go.Ground.chain }], guard := none }) rfl (fun K hK => ?_) (AllReadyH.nil)
  go_simp
  refine (cl _ E).mono ?_
  rintro e w6 ⟨rfl, x⟩
  have z7 := x.size
  replace E := E.trans x
  replace LB1 := LB1.ext x
  clear x
  clear hHeld
  have hHeld := LB1
  refine hK.out _ _ hHeld (fun _ => ?_)
  clear hK K
  try simp only [Act.put, List.setIfInBounds_toArray, List.set_cons_zero, List.set_cons_succ]
  refine wpAnyH_take (i := 4) (oi := { dst := some 7, op := Go.Op.binOp Go.BinOp.eql 3 (Go.Operand.tmp 4) (Go.Operand.tmp 6) 3, type := 4, pos := "logic.go:97", after := #[{ on := 1, ground := Go.Ground.data }, { on := 3, ground := Go.Ground.data }], guard := none }) (v := ?v8) rfl (by kernel_rfl) (by kernel_rfl) (by kernel_rfl) (fun _ _ _ h => h) (Or.inl ⟨by rfl, ?hy8⟩) hHeld ?rest8
  case hy8 => (intro w hSw; (try dsimp only at hSw); go_simp; (first | done | with_reducible rfl))
  try simp only [Act.put, List.setIfInBounds_toArray, List.set_cons_zero, List.set_cons_succ]
  refine wpAnyH_take (i := 5) (oi := { dst := some 2, op := Go.Op.assign (Go.Operand.tmp 7), type := 4, pos := "logic.go:97", after := #[{ on := 4, ground := Go.Ground.data }, { on := 3, ground := Go.Ground.chain }, { on := 0, ground := Go.Ground.phase }, { on := 1, ground := Go.Ground.phase }, { on := 2, ground := Go.Ground.phase }, { on := 3, ground := Go.Ground.phase }, { on := 4, ground := Go.Ground.phase }], guard := none }) (v := ?v9) rfl (by kernel_rfl) (by kernel_rfl) (by kernel_rfl) (fun _ _ _ h => h) (Or.inl ⟨by rfl, ?hy9⟩) hHeld ?rest9
  case hy9 => (intro w hSw; (try dsimp only at hSw); go_simp; (first | done | with_reducible rfl))
  try simp only [Act.put, List.setIfInBounds_toArray, List.set_cons_zero, List.set_cons_succ]
  refine wpAnyH_done (by kernel_rfl) ?_ _
  go_wp2_with fail
  go_ret
  exact ⟨rfl, E⟩
theorem any_any (v : Value) (l : List Bool) (w : World) (h : IsB w v l) (ht : Tab w) : Calls Tryd.prog 12 #[v] w fun e w' => e = .returned (.bool (decide ((0 : Int) < (cnt l l.length : Int)))) ∧ Ext w w' := by
  have hF := h.flat
  have cc : ∀ w', Ext w w' → Calls Tryd.prog 28 #[v] w' fun e w2 => e = .returned (.int .i64 (fst1 l : Int)) ∧ Ext w' w2 := fun w' hx => first_any v l w' (h.ext hx) (ht.ext hx)
  have cl : ∀ w', Ext w w' → Calls Tryd.prog 23 #[v] w' fun e w2 => e = .returned (.int .i64 (l.length : Int)) ∧ Ext w' w2 := fun w' hx => blen_any v l w' (h.ext hx)
  have hk : decide ((0 : Int) < (cnt l l.length : Int)) = decide ((fst1 l : Int) < (l.length : Int)) := by
    have h1 := cnt_zero l
    have h2 := fst1_le l
    apply decide_eq_decide.2
    omega
  rw [hk]
  clear h hk ht
  generalize (fst1 l : Int) = k at *
  generalize (l.length : Int) = m at *
  have E := Ext.refl w
  go_enter Tryd.func12, Tryd.ntmps12
  have TB1 : True := trivial
  go_wp2_with (clear TB1; refine boxsB (v := v) rfl rfl rfl hF ?_; intro B1 w1 bB1 cB1 XB1 LB1 RB1; have z1 := XB1.size; replace E := E.trans XB1; clear RB1)
  try simp only [Act.put, List.setIfInBounds_toArray, List.set_cons_zero, List.set_cons_succ]
  have hq2 : w1.heap.size ≤ w1.drew.heap.size := Nat.le_refl _
  have z3 := (Ext.refl w1).drew.size
  replace E := E.trans (Ext.refl w1).drew
  replace LB1 := LB1.ext (Ext.refl w1).drew
  refine wp_region_held_drew (S := (fun w' => Lay 2 w' B1 v)) (by kernel_rfl) LB1 (fun hHeld => ?_)
  refine wpAnyH_take (i := 0) (oi := { dst := some 3, op := Go.Op.load 26 (Go.Operand.tmp 1), type := 26, pos := "logic.go:100", after := #[], guard := none }) (v := v) rfl (by kernel_rfl) (by kernel_rfl) (by kernel_rfl) (fun _ _ _ h => h) (yieldB (by rfl) rfl rfl fun w' hx => hx) hHeld ?_
  try simp only [Act.put, List.setIfInBounds_toArray, List.set_cons_zero, List.set_cons_succ]
  refine wpAnyH_take (i := 2) (oi := { dst := some 5, op := Go.Op.load 26 (Go.Operand.tmp 1), type := 26, pos := "logic.go:100", after := #[], guard := none }) (v := v) rfl (by kernel_rfl) (by kernel_rfl) (by kernel_rfl) (fun _ _ _ h => h) (yieldB (by rfl) rfl rfl fun w' hx => hx) hHeld ?_
  try simp only [Act.put, List.setIfInBounds_toArray, List.set_cons_zero, List.set_cons_succ]
  refine wpAnyH_ready (rs := [1]) (by kernel_rfl) (by simp) ?_
  refine AllReadyH.cons (o := { dst := some 4, op := Go.Op.call { callee := Go.Callee.value (Go.Operand.func 28), args := #[Go.Operand.tmp 3], argTypes := #[26] }, type := 3, pos := "logic.go:100", after := #[{ on := 0, ground := Go.Ground.data }], guard := none }) rfl (fun K hK => ?_) (AllReadyH.nil)
  go_simp
  refine (cc _ E).mono ?_
  rintro e w4 ⟨rfl, x⟩
  have z6 := x.size
  replace E := E.trans x
  replace LB1 := LB1.ext x
  clear x
  clear hHeld
  have hHeld := LB1
  refine hK.out _ _ hHeld (fun _ => ?_)
  clear hK K
  try simp only [Act.put, List.setIfInBounds_toArray, List.set_cons_zero, List.set_cons_succ]
  refine wpAnyH_ready (rs := [3]) (by kernel_rfl) (by simp) ?_
  refine AllReadyH.cons (o := { dst := some 6, op := Go.Op.call { callee := Go.Callee.value (Go.Operand.func 23), args := #[Go.Operand.tmp 5], argTypes := #[26] }, type := 3, pos := "logic.go:100", after := #[{ on := 2, ground := Go.Ground.data }, { on := 1, ground := Go.Ground.chain }], guard := none }) rfl (fun K hK => ?_) (AllReadyH.nil)
  go_simp
  refine (cl _ E).mono ?_
  rintro e w6 ⟨rfl, x⟩
  have z7 := x.size
  replace E := E.trans x
  replace LB1 := LB1.ext x
  clear x
  clear hHeld
  have hHeld := LB1
  refine hK.out _ _ hHeld (fun _ => ?_)
  clear hK K
  try simp only [Act.put, List.setIfInBounds_toArray, List.set_cons_zero, List.set_cons_succ]
  refine wpAnyH_take (i := 4) (oi := { dst := some 7, op := Go.Op.binOp Go.BinOp.lss 3 (Go.Operand.tmp 4) (Go.Operand.tmp 6) 3, type := 4, pos := "logic.go:100", after := #[{ on := 1, ground := Go.Ground.data }, { on := 3, ground := Go.Ground.data }], guard := none }) (v := ?v8) rfl (by kernel_rfl) (by kernel_rfl) (by kernel_rfl) (fun _ _ _ h => h) (Or.inl ⟨by rfl, ?hy8⟩) hHeld ?rest8
  case hy8 => (intro w hSw; (try dsimp only at hSw); go_simp; (first | done | with_reducible rfl))
  try simp only [Act.put, List.setIfInBounds_toArray, List.set_cons_zero, List.set_cons_succ]
  refine wpAnyH_take (i := 5) (oi := { dst := some 2, op := Go.Op.assign (Go.Operand.tmp 7), type := 4, pos := "logic.go:100", after := #[{ on := 4, ground := Go.Ground.data }, { on := 3, ground := Go.Ground.chain }, { on := 0, ground := Go.Ground.phase }, { on := 1, ground := Go.Ground.phase }, { on := 2, ground := Go.Ground.phase }, { on := 3, ground := Go.Ground.phase }, { on := 4, ground := Go.Ground.phase }], guard := none }) (v := ?v9) rfl (by kernel_rfl) (by kernel_rfl) (by kernel_rfl) (fun _ _ _ h => h) (Or.inl ⟨by rfl, ?hy9⟩) hHeld ?rest9
  case hy9 => (intro w hSw; (try dsimp only at hSw); go_simp; (first | done | with_reducible rfl))
  try simp only [Act.put, List.setIfInBounds_toArray, List.set_cons_zero, List.set_cons_succ]
  refine wpAnyH_done (by kernel_rfl) ?_ _
  go_wp2_with fail
  go_ret
  exact ⟨rfl, E⟩
section
variable (w : World) (A : Option Addr) (a : List Bool) (n : Nat) (c : Nat) (B : Option Addr) (b : List Bool) (m : Nat) (c' : Nat)
theorem logicTurns_long1 (h : 300 < n) : Calls Tryd.prog 3 #[.slice A n c, .slice B m c'] w fun e w' => e = .returned (.bool true) ∧ Ext w w' := by
  have E := Ext.refl w
  go_enter Tryd.func3, Tryd.ntmps3
  go_wp2_with fail
  refine (lawake_any _).mono ?_
  rintro e w33 ⟨rfl, x⟩
  have z1 := x.size
  replace E := E.trans x
  clear x
  go_wp2_with fail
  go_ret
  exact ⟨rfl, E⟩
theorem logicTurns_long2 (h : n ≤ 300) (e31 : ((m : Int) != (n : Int)) = true) : Calls Tryd.prog 3 #[.slice A n c, .slice B m c'] w fun e w' => e = .returned (.bool true) ∧ Ext w w' := by
  have E := Ext.refl w
  go_enter Tryd.func3, Tryd.ntmps3
  go_wp2_with fail
  refine (lawake_any _).mono ?_
  rintro e w33 ⟨rfl, x⟩
  have z1 := x.size
  replace E := E.trans x
  clear x
  go_wp2_with fail
  go_ret
  exact ⟨rfl, E⟩
theorem logicTurns_ok (ht : Tab w) (hn : n = a.length) (hm : n = b.length) (h3 : n ≤ 300) (hc : n ≤ c) (hc' : n ≤ c') (hs : Sl w 1 A n (bools a)) (hs' : Sl w 1 B n (bools b)) : Calls Tryd.prog 3 #[.slice A n c, .slice B n c'] w fun e w' => e = .returned (.bool true) ∧ Ext w w' := by
  have cp : ∀ w, Sl w 1 A n (bools a) → Calls Tryd.prog 5 #[.slice A n c] w fun e w' => ∃ v, e = .returned v ∧ OwnB w' w.heap.size v a ∧ Ext w w' := by subst hn; exact fun w hs => pack_any A c a w (by omega) hc hs
  have cq : ∀ w, Sl w 1 B n (bools b) → Calls Tryd.prog 5 #[.slice B n c'] w fun e w' => ∃ v, e = .returned v ∧ OwnB w' w.heap.size v b ∧ Ext w w' := by rw [hm] at h3 hc' ⊢; exact fun w hs => pack_any B c' b w (by omega) hc' hs
  have c21 := fun v u w hv hu => apply_bits 21 rfl v u a b n hn.symm hm.symm (by omega) w hv hu
  have c23 := fun v u w hv hu => apply_bits 23 rfl v u a b n hn.symm hm.symm (by omega) w hv hu
  have c22 := fun v u w hv hu => apply_bits 22 rfl v u (notL a) (notL b) n (by rw [notL_length]; exact hn.symm) (by rw [notL_length]; exact hm.symm) (by omega) w hv hu
  have c24 := fun v u w hv hu => apply_bits 24 rfl v u (notL a) (notL b) n (by rw [notL_length]; exact hn.symm) (by rw [notL_length]; exact hm.symm) (by omega) w hv hu
  rw [show (tabL n fun i => oneL 21 (a.getD i false) (b.getD i false)) = andL a b n from rfl] at c21
  rw [show (tabL n fun i => oneL 23 (a.getD i false) (b.getD i false)) = nandL a b n from rfl] at c23
  rw [show (tabL n fun i => oneL 22 ((notL a).getD i false) ((notL b).getD i false)) = nandL a b n by
    unfold nandL; apply tabL_ext; intro j hj; rw [notL_getD _ (by omega), notL_getD _ (by omega)]; rfl] at c22
  rw [show (tabL n fun i => oneL 24 ((notL a).getD i false) ((notL b).getD i false)) = andL a b n by
    unfold andL; apply tabL_ext; intro j hj; rw [notL_getD _ (by omega), notL_getD _ (by omega)]
    show (!(!a.getD j false) && !(!b.getD j false)) = _
    rw [Bool.not_not, Bool.not_not]] at c24
  unfold AppU at c21 c22 c23 c24
  have e1 : ∀ v v' w, IsB w v (notL (andL a b n)) → IsB w v' (nandL a b n) → Calls Tryd.prog 13 #[v, v'] w fun e w' => e = .returned (.bool true) ∧ Ext w w' := fun v v' w h h' => by
    have := beq_any v v' _ _ w h h'
    rwa [decide_eq_true (not_and a b n)] at this
  have e2 : ∀ v v' l w, IsB w v l → IsB w v' l → Calls Tryd.prog 13 #[v, v'] w fun e w' => e = .returned (.bool true) ∧ Ext w w' := fun v v' l w h h' => by
    have := beq_any v v' _ _ w h h'
    rwa [decide_eq_true rfl] at this
  have ka := fun v w h => all_any v a w h
  have kn := fun v w h ht => any_any v a w h ht
  have kc := fun v w h => count_any v a w h
  rw [← hn] at ka kn kc
  have HS := Lib.hid hs
  have HS' := Lib.hid hs'
  clear hs hs' hn hm hc hc'
  generalize cnt a n = kk at *
  generalize andL a b n = X at *
  generalize nandL a b n = Y at *
  have E := Ext.refl w
  go_enter Tryd.func3, Tryd.ntmps3
  go_wp2_with fail
  refine (cp _ (HS.out.ext E)).mono ?_
  rintro e w35 ⟨p, rfl, hq, x⟩
  have PA := hq.bs.now
  have Fp := PA.is.flat
  clear hq
  have z1 := x.size
  replace E := E.trans x
  clear x
  go_wp2_with fail
  refine (cq _ (HS'.out.ext E)).mono ?_
  rintro e w37 ⟨q, rfl, hq, x⟩
  have PB := hq.bs.now
  have Fq := PB.is.flat
  clear hq
  have z2 := x.size
  replace E := E.trans x
  replace PA := PA.ext x
  clear x
  have TB5 : True := trivial
  have TB6 : True := trivial
  have TG5 : True := trivial
  have TG7 : True := trivial
  go_wp2_with (first | (clear TB5; refine allocsB rfl rfl ?_; intro B5 w5 bB5 cB5 XB5 LB5 RB5; have z3 := XB5.size; replace E := E.trans XB5; replace PA := PA.ext XB5; replace PB := PB.ext XB5) | (clear TB6; refine allocsB rfl rfl ?_; intro B6 w6 bB6 cB6 XB6 LB6 RB6; have z4 := XB6.size; replace E := E.trans XB6; replace PA := PA.ext XB6; replace PB := PB.ext XB6; replace LB5 := LB5.ext XB6; replace RB5 := RB5.ext XB6) | (clear TG5; have hRl := (RB5).lt (Nat.zero_lt_succ _); refine storesB (B := B5) rfl rfl rfl (v := p) rfl RB5 Fp ?_; clear LB5; intro s5 G5 LB5 RQ; have z6 := G5.size; replace E := grown_ext E G5 (by omega); replace PA := PA.grown G5 (by first | omega | (dsimp only [New]; omega)); replace PB := PB.grown G5 (by first | omega | (dsimp only [New]; omega)); replace LB6 := LB6.grown G5 (by omega); replace RB6 := RB6.grown G5 (by omega); clear RB5; have RB5 := RQ; clear RQ hRl; clear RB5) | (clear TG7; have hRl := (RB6).lt (Nat.zero_lt_succ _); refine storesB (B := B6) rfl rfl rfl (v := q) rfl RB6 Fq ?_; clear LB6; intro s7 G7 LB6 RQ; have z8 := G7.size; replace E := grown_ext E G7 (by omega); replace PA := PA.grown G7 (by first | omega | (dsimp only [New]; omega)); replace PB := PB.grown G7 (by first | omega | (dsimp only [New]; omega)); replace LB5 := LB5.grown G7 (by omega); clear RB6; have RB6 := RQ; clear RQ hRl; clear RB6))
  apply joinK4 (F := fun (wJ4 : World) (B7 : Nat) (o1 : Value) (o2 : Value) (x1 : Value) => s7.heap.size ≤ wJ4.heap.size ∧ (s7.heap.size ≤ B7 ∧ B7 < wJ4.heap.size) ∧ Ext w wJ4 ∧ Lay 2 wJ4 B5 p ∧ Lay 2 wJ4 B6 q ∧ Lay 8 wJ4 B7 x1 ∧ BitS wJ4 p a (fun i => i < wJ4.heap.size) ∧ BitS wJ4 q b (fun i => i < wJ4.heap.size) ∧ VecS wJ4 x1 (VD.bits X) (fun i => i < wJ4.heap.size))
  case h =>
    intro J
    try simp only [Act.put, List.setIfInBounds_toArray, List.set_cons_zero, List.set_cons_succ]
    have hq9 : s7.heap.size ≤ s7.drew.heap.size := Nat.le_refl _
    have z10 := (Ext.refl s7).drew.size
    replace E := E.trans (Ext.refl s7).drew
    replace PA := PA.ext (Ext.refl s7).drew
    replace PB := PB.ext (Ext.refl s7).drew
    replace LB5 := LB5.ext (Ext.refl s7).drew
    replace LB6 := LB6.ext (Ext.refl s7).drew
    refine wp_region_held_drew (S := (fun w' => Lay 2 w' B5 p ∧ Lay 2 w' B6 q)) (by kernel_rfl) ⟨LB5, LB6⟩ (fun hHeld => ?_)
    refine wpAnyH_take (i := 0) (oi := { dst := some 39, op := Go.Op.load 26 (Go.Operand.tmp 5), type := 26, pos := "law.go:89", after := #[], guard := none }) (v := p) rfl (by kernel_rfl) (by kernel_rfl) (by kernel_rfl) (fun _ _ _ h => h) (yieldB (by rfl) rfl rfl fun w' hx => hx.1) hHeld ?_
    try simp only [Act.put, List.setIfInBounds_toArray, List.set_cons_zero, List.set_cons_succ]
    refine wpAnyH_take (i := 2) (oi := { dst := some 41, op := Go.Op.load 26 (Go.Operand.tmp 6), type := 26, pos := "law.go:89", after := #[], guard := none }) (v := q) rfl (by kernel_rfl) (by kernel_rfl) (by kernel_rfl) (fun _ _ _ h => h) (yieldB (by rfl) rfl rfl fun w' hx => hx.2) hHeld ?_
    try simp only [Act.put, List.setIfInBounds_toArray, List.set_cons_zero, List.set_cons_succ]
    refine wpAnyH_ready (rs := [1, 8]) (by kernel_rfl) (by simp) ?_
    refine AllReadyH.cons (o := { dst := some 40, op := Go.Op.call { callee := Go.Callee.value (Go.Operand.func 7), args := #[Go.Operand.tmp 39], argTypes := #[26] }, type := 34, pos := "law.go:89", after := #[{ on := 0, ground := Go.Ground.data }], guard := none }) rfl (fun K hK => ?_) (AllReadyH.cons (o := { dst := some 7, op := Go.Op.alloc 34, type := 0, pos := "law.go:89", after := #[], guard := none }) rfl (fun K hK => ?_) (AllReadyH.nil))
    · go_simp
      refine (VecS.bits_of p a _ PA.is).mono ?_
      rintro e w40 ⟨o1, rfl, hq, x⟩
      have V1 := hq _ PA
      clear hq
      have z13 := x.size
      replace E := E.trans x
      replace PA := PA.ext x
      replace PB := PB.ext x
      replace LB5 := LB5.ext x
      replace LB6 := LB6.ext x
      clear x
      clear hHeld
      have hHeld := And.intro LB5 (LB6)
      refine hK.out _ _ hHeld (fun _ => ?_)
      clear hK K
      try simp only [Act.put, List.setIfInBounds_toArray, List.set_cons_zero, List.set_cons_succ]
      refine wpAnyH_ready (rs := [3, 8]) (by kernel_rfl) (by simp) ?_
      refine AllReadyH.cons (o := { dst := some 42, op := Go.Op.call { callee := Go.Callee.value (Go.Operand.func 7), args := #[Go.Operand.tmp 41], argTypes := #[26] }, type := 34, pos := "law.go:89", after := #[{ on := 2, ground := Go.Ground.data }, { on := 1, ground := Go.Ground.chain }], guard := none }) rfl (fun K hK => ?_) (AllReadyH.cons (o := { dst := some 7, op := Go.Op.alloc 34, type := 0, pos := "law.go:89", after := #[], guard := none }) rfl (fun K hK => ?_) (AllReadyH.nil))
      · go_simp
        refine (VecS.bits_of q b _ PB.is).mono ?_
        rintro e w42 ⟨o2, rfl, hq, x⟩
        have V2 := hq _ PB
        clear hq
        have z14 := x.size
        replace E := E.trans x
        replace PA := PA.ext x
        replace PB := PB.ext x
        replace LB5 := LB5.ext x
        replace LB6 := LB6.ext x
        replace V1 := V1.ext x
        clear x
        clear hHeld
        have hHeld := And.intro LB5 (LB6)
        refine hK.out _ _ hHeld (fun _ => ?_)
        clear hK K
        try simp only [Act.put, List.setIfInBounds_toArray, List.set_cons_zero, List.set_cons_succ]
        refine wpAnyH_ready (rs := [4, 8]) (by kernel_rfl) (by simp) ?_
        refine AllReadyH.cons (o := { dst := some 43, op := Go.Op.call { callee := Go.Callee.value (Go.Operand.func 6), args := #[Go.Operand.const (Go.Value.int Go.IntKind.i64 21), Go.Operand.tmp 40, Go.Operand.tmp 42], argTypes := #[3, 34, 34] }, type := 36, pos := "law.go:89", after := #[{ on := 1, ground := Go.Ground.data }, { on := 3, ground := Go.Ground.data }, { on := 3, ground := Go.Ground.chain }], guard := none }) rfl (fun K hK => ?_) (AllReadyH.cons (o := { dst := some 7, op := Go.Op.alloc 34, type := 0, pos := "law.go:89", after := #[], guard := none }) rfl (fun K hK => ?_) (AllReadyH.nil))
        · go_simp
          refine (c21 _ _ _ V1.is V2.is).mono ?_
          rintro e w43 ⟨x1, rfl, hq, x⟩
          clear V1 V2
          have NX := hq.now
          have Fx1 := NX.is.flat
          clear hq
          have z15 := x.size
          replace E := E.trans x
          replace PA := PA.ext x
          replace PB := PB.ext x
          replace LB5 := LB5.ext x
          replace LB6 := LB6.ext x
          clear x
          clear hHeld
          have hHeld := And.intro LB5 (LB6)
          refine hK.out _ _ hHeld (fun _ => ?_)
          clear hK K
          try simp only [Act.put, List.setIfInBounds_toArray, List.set_cons_zero, List.set_cons_succ]
          refine wpAnyH_take (i := 5) (oi := { dst := some 38, op := Go.Op.move (Go.Operand.tmp 43), type := 36, pos := "law.go:89", after := #[{ on := 4, ground := Go.Ground.data }], guard := none }) (v := ?v16) rfl (by kernel_rfl) (by kernel_rfl) (by kernel_rfl) (fun _ _ _ h => h) (Or.inl ⟨by rfl, ?hy16⟩) hHeld ?rest16
          case hy16 => (intro w hSw; (try dsimp only at hSw); go_simp; (first | done | with_reducible rfl))
          try simp only [Act.put, List.setIfInBounds_toArray, List.set_cons_zero, List.set_cons_succ]
          refine wpAnyH_take (i := 6) (oi := { dst := some 44, op := Go.Op.extract (Go.Operand.tmp 38) 0, type := 34, pos := "law.go:89", after := #[{ on := 5, ground := Go.Ground.data }], guard := none }) (v := ?v17) rfl (by kernel_rfl) (by kernel_rfl) (by kernel_rfl) (fun _ _ _ h => h) (Or.inl ⟨by rfl, ?hy17⟩) hHeld ?rest17
          case hy17 => (intro w hSw; (try dsimp only at hSw); go_simp; (first | done | with_reducible rfl))
          try simp only [Act.put, List.setIfInBounds_toArray, List.set_cons_zero, List.set_cons_succ]
          refine wpAnyH_take (i := 7) (oi := { dst := some 45, op := Go.Op.extract (Go.Operand.tmp 38) 1, type := 35, pos := "law.go:89", after := #[{ on := 5, ground := Go.Ground.data }, { on := 9, ground := Go.Ground.gcOnly Go.Departure.lateStores }], guard := none }) (v := ?v18) rfl (by kernel_rfl) (by kernel_rfl) (by kernel_rfl) (fun _ _ _ h => h) (Or.inl ⟨by rfl, ?hy18⟩) hHeld ?rest18
          case hy18 => (intro w hSw; (try dsimp only at hSw); go_simp; (first | done | with_reducible rfl))
          try simp only [Act.put, List.setIfInBounds_toArray, List.set_cons_zero, List.set_cons_succ]
          refine wpAnyH_ready (rs := [8]) (by kernel_rfl) (by simp) ?_
          refine AllReadyH.cons (o := { dst := some 7, op := Go.Op.alloc 34, type := 0, pos := "law.go:89", after := #[], guard := none }) rfl (fun K hK => ?_) (AllReadyH.nil)
          rw [if_pos (by rfl)]
          refine allocV rfl ?_
          intro B7 w7 bB7 cB7 XB7 LB7 RB7
          have z19 := XB7.size
          replace E := E.trans XB7
          replace PA := PA.ext XB7
          replace PB := PB.ext XB7
          replace LB5 := LB5.ext XB7
          replace LB6 := LB6.ext XB7
          replace NX := NX.ext XB7
          clear hHeld
          have hHeld := And.intro LB5 (LB6)
          refine hK.out _ _ hHeld (fun _ => ?_)
          clear hK K
          try simp only [Act.put, List.setIfInBounds_toArray, List.set_cons_zero, List.set_cons_succ]
          refine wpAnyH_ready (rs := [9]) (by kernel_rfl) (by simp) ?_
          refine AllReadyH.cons (o := { dst := none, op := Go.Op.store 34 (Go.Operand.tmp 7) (Go.Operand.tmp 44), type := 0, pos := "law.go:89", after := #[{ on := 8, ground := Go.Ground.data }, { on := 6, ground := Go.Ground.data }, { on := 4, ground := Go.Ground.chain }, { on := 0, ground := Go.Ground.phase }, { on := 1, ground := Go.Ground.phase }, { on := 2, ground := Go.Ground.phase }, { on := 3, ground := Go.Ground.phase }, { on := 4, ground := Go.Ground.phase }, { on := 5, ground := Go.Ground.phase }, { on := 6, ground := Go.Ground.phase }, { on := 7, ground := Go.Ground.textOnly Go.Departure.lateStores }, { on := 8, ground := Go.Ground.phase }], guard := none }) rfl (fun K hK => ?_) (AllReadyH.nil)
          rw [if_pos (by rfl)]
          have hRl := (RB7).lt (Nat.zero_lt_succ _)
          refine storeV (by rfl) (by rfl) (v := x1) (by rfl) RB7 Fx1 ?_
          clear LB7
          intro s20 G20 LB7 RQ
          have z21 := G20.size
          replace E := grown_ext E G20 (by omega)
          replace PA := PA.grown G20 (by first | omega | (dsimp only [New]; omega))
          replace PB := PB.grown G20 (by first | omega | (dsimp only [New]; omega))
          replace LB5 := LB5.grown G20 (by omega)
          replace LB6 := LB6.grown G20 (by omega)
          replace NX := NX.grown G20 (by first | omega | (dsimp only [New]; omega))
          clear RB7
          have RB7 := RQ
          clear RQ hRl G20
          clear hHeld
          have hHeld := And.intro LB5 (LB6)
          refine hK.out _ _ hHeld (fun _ => ?_)
          clear hK K
          try simp only [Act.put]
          refine wpAnyH_take (i := 10) (oi := { dst := some 8, op := Go.Op.assign (Go.Operand.tmp 45), type := 35, pos := "law.go:89", after := #[{ on := 7, ground := Go.Ground.data }, { on := 9, ground := Go.Ground.chain }, { on := 0, ground := Go.Ground.phase }, { on := 1, ground := Go.Ground.phase }, { on := 2, ground := Go.Ground.phase }, { on := 3, ground := Go.Ground.phase }, { on := 4, ground := Go.Ground.phase }, { on := 5, ground := Go.Ground.phase }, { on := 6, ground := Go.Ground.phase }, { on := 7, ground := Go.Ground.phase }, { on := 8, ground := Go.Ground.phase }, { on := 9, ground := Go.Ground.phase }], guard := none }) (v := ?v22) rfl (by kernel_rfl) (by kernel_rfl) (by kernel_rfl) (fun _ _ _ h => h) (Or.inl ⟨by rfl, ?hy22⟩) hHeld ?rest22
          case hy22 => (intro w hSw; (try dsimp only at hSw); go_simp; (first | done | with_reducible rfl))
          try simp only [Act.put, List.setIfInBounds_toArray, List.set_cons_zero, List.set_cons_succ]
          refine wpAnyH_done (by kernel_rfl) ?_ _
          refine J s20 B7 o1 o2 x1 ?_
          exact ⟨by omega, ⟨by omega, by omega⟩, E, LB5, LB6, LB7, PA.mono (fun _ hi _ => hi), PB.mono (fun _ hi _ => hi), NX.mono (fun _ hi _ => hi)⟩
        · rw [if_pos (by rfl)]
          refine allocV rfl ?_
          intro B7 w7 bB7 cB7 XB7 LB7 RB7
          have z23 := XB7.size
          replace E := E.trans XB7
          replace PA := PA.ext XB7
          replace PB := PB.ext XB7
          replace LB5 := LB5.ext XB7
          replace LB6 := LB6.ext XB7
          replace V1 := V1.ext XB7
          replace V2 := V2.ext XB7
          clear hHeld
          have hHeld := And.intro LB5 (LB6)
          refine hK.out _ _ hHeld (fun _ => ?_)
          clear hK K
          try simp only [Act.put, List.setIfInBounds_toArray, List.set_cons_zero, List.set_cons_succ]
          refine wpAnyH_ready (rs := [4]) (by kernel_rfl) (by simp) ?_
          refine AllReadyH.cons (o := { dst := some 43, op := Go.Op.call { callee := Go.Callee.value (Go.Operand.func 6), args := #[Go.Operand.const (Go.Value.int Go.IntKind.i64 21), Go.Operand.tmp 40, Go.Operand.tmp 42], argTypes := #[3, 34, 34] }, type := 36, pos := "law.go:89", after := #[{ on := 1, ground := Go.Ground.data }, { on := 3, ground := Go.Ground.data }, { on := 3, ground := Go.Ground.chain }], guard := none }) rfl (fun K hK => ?_) (AllReadyH.nil)
          go_simp
          refine (c21 _ _ _ V1.is V2.is).mono ?_
          rintro e w43 ⟨x1, rfl, hq, x⟩
          clear V1 V2
          have NX := hq.now
          have Fx1 := NX.is.flat
          clear hq
          have z24 := x.size
          replace E := E.trans x
          replace PA := PA.ext x
          replace PB := PB.ext x
          replace LB5 := LB5.ext x
          replace LB6 := LB6.ext x
          replace LB7 := LB7.ext x
          replace RB7 := RB7.ext x
          clear x
          clear hHeld
          have hHeld := And.intro LB5 (LB6)
          refine hK.out _ _ hHeld (fun _ => ?_)
          clear hK K
          try simp only [Act.put, List.setIfInBounds_toArray, List.set_cons_zero, List.set_cons_succ]
          refine wpAnyH_take (i := 5) (oi := { dst := some 38, op := Go.Op.move (Go.Operand.tmp 43), type := 36, pos := "law.go:89", after := #[{ on := 4, ground := Go.Ground.data }], guard := none }) (v := ?v25) rfl (by kernel_rfl) (by kernel_rfl) (by kernel_rfl) (fun _ _ _ h => h) (Or.inl ⟨by rfl, ?hy25⟩) hHeld ?rest25
          case hy25 => (intro w hSw; (try dsimp only at hSw); go_simp; (first | done | with_reducible rfl))
          try simp only [Act.put, List.setIfInBounds_toArray, List.set_cons_zero, List.set_cons_succ]
          refine wpAnyH_take (i := 6) (oi := { dst := some 44, op := Go.Op.extract (Go.Operand.tmp 38) 0, type := 34, pos := "law.go:89", after := #[{ on := 5, ground := Go.Ground.data }], guard := none }) (v := ?v26) rfl (by kernel_rfl) (by kernel_rfl) (by kernel_rfl) (fun _ _ _ h => h) (Or.inl ⟨by rfl, ?hy26⟩) hHeld ?rest26
          case hy26 => (intro w hSw; (try dsimp only at hSw); go_simp; (first | done | with_reducible rfl))
          try simp only [Act.put, List.setIfInBounds_toArray, List.set_cons_zero, List.set_cons_succ]
          refine wpAnyH_take (i := 7) (oi := { dst := some 45, op := Go.Op.extract (Go.Operand.tmp 38) 1, type := 35, pos := "law.go:89", after := #[{ on := 5, ground := Go.Ground.data }, { on := 9, ground := Go.Ground.gcOnly Go.Departure.lateStores }], guard := none }) (v := ?v27) rfl (by kernel_rfl) (by kernel_rfl) (by kernel_rfl) (fun _ _ _ h => h) (Or.inl ⟨by rfl, ?hy27⟩) hHeld ?rest27
          case hy27 => (intro w hSw; (try dsimp only at hSw); go_simp; (first | done | with_reducible rfl))
          try simp only [Act.put, List.setIfInBounds_toArray, List.set_cons_zero, List.set_cons_succ]
          refine wpAnyH_ready (rs := [9]) (by kernel_rfl) (by simp) ?_
          refine AllReadyH.cons (o := { dst := none, op := Go.Op.store 34 (Go.Operand.tmp 7) (Go.Operand.tmp 44), type := 0, pos := "law.go:89", after := #[{ on := 8, ground := Go.Ground.data }, { on := 6, ground := Go.Ground.data }, { on := 4, ground := Go.Ground.chain }, { on := 0, ground := Go.Ground.phase }, { on := 1, ground := Go.Ground.phase }, { on := 2, ground := Go.Ground.phase }, { on := 3, ground := Go.Ground.phase }, { on := 4, ground := Go.Ground.phase }, { on := 5, ground := Go.Ground.phase }, { on := 6, ground := Go.Ground.phase }, { on := 7, ground := Go.Ground.textOnly Go.Departure.lateStores }, { on := 8, ground := Go.Ground.phase }], guard := none }) rfl (fun K hK => ?_) (AllReadyH.nil)
          rw [if_pos (by rfl)]
          have hRl := (RB7).lt (Nat.zero_lt_succ _)
          refine storeV (by rfl) (by rfl) (v := x1) (by rfl) RB7 Fx1 ?_
          clear LB7
          intro s28 G28 LB7 RQ
          have z29 := G28.size
          replace E := grown_ext E G28 (by omega)
          replace PA := PA.grown G28 (by first | omega | (dsimp only [New]; omega))
          replace PB := PB.grown G28 (by first | omega | (dsimp only [New]; omega))
          replace LB5 := LB5.grown G28 (by omega)
          replace LB6 := LB6.grown G28 (by omega)
          replace NX := NX.grown G28 (by first | omega | (dsimp only [New]; omega))
          clear RB7
          have RB7 := RQ
          clear RQ hRl G28
          clear hHeld
          have hHeld := And.intro LB5 (LB6)
          refine hK.out _ _ hHeld (fun _ => ?_)
          clear hK K
          try simp only [Act.put]
          refine wpAnyH_take (i := 10) (oi := { dst := some 8, op := Go.Op.assign (Go.Operand.tmp 45), type := 35, pos := "law.go:89", after := #[{ on := 7, ground := Go.Ground.data }, { on := 9, ground := Go.Ground.chain }, { on := 0, ground := Go.Ground.phase }, { on := 1, ground := Go.Ground.phase }, { on := 2, ground := Go.Ground.phase }, { on := 3, ground := Go.Ground.phase }, { on := 4, ground := Go.Ground.phase }, { on := 5, ground := Go.Ground.phase }, { on := 6, ground := Go.Ground.phase }, { on := 7, ground := Go.Ground.phase }, { on := 8, ground := Go.Ground.phase }, { on := 9, ground := Go.Ground.phase }], guard := none }) (v := ?v30) rfl (by kernel_rfl) (by kernel_rfl) (by kernel_rfl) (fun _ _ _ h => h) (Or.inl ⟨by rfl, ?hy30⟩) hHeld ?rest30
          case hy30 => (intro w hSw; (try dsimp only at hSw); go_simp; (first | done | with_reducible rfl))
          try simp only [Act.put, List.setIfInBounds_toArray, List.set_cons_zero, List.set_cons_succ]
          refine wpAnyH_done (by kernel_rfl) ?_ _
          refine J s28 B7 o1 o2 x1 ?_
          exact ⟨by omega, ⟨by omega, by omega⟩, E, LB5, LB6, LB7, PA.mono (fun _ hi _ => hi), PB.mono (fun _ hi _ => hi), NX.mono (fun _ hi _ => hi)⟩
      · rw [if_pos (by rfl)]
        refine allocV rfl ?_
        intro B7 w7 bB7 cB7 XB7 LB7 RB7
        have z31 := XB7.size
        replace E := E.trans XB7
        replace PA := PA.ext XB7
        replace PB := PB.ext XB7
        replace LB5 := LB5.ext XB7
        replace LB6 := LB6.ext XB7
        replace V1 := V1.ext XB7
        clear hHeld
        have hHeld := And.intro LB5 (LB6)
        refine hK.out _ _ hHeld (fun _ => ?_)
        clear hK K
        try simp only [Act.put, List.setIfInBounds_toArray, List.set_cons_zero, List.set_cons_succ]
        refine wpAnyH_ready (rs := [3]) (by kernel_rfl) (by simp) ?_
        refine AllReadyH.cons (o := { dst := some 42, op := Go.Op.call { callee := Go.Callee.value (Go.Operand.func 7), args := #[Go.Operand.tmp 41], argTypes := #[26] }, type := 34, pos := "law.go:89", after := #[{ on := 2, ground := Go.Ground.data }, { on := 1, ground := Go.Ground.chain }], guard := none }) rfl (fun K hK => ?_) (AllReadyH.nil)
        go_simp
        refine (VecS.bits_of q b _ PB.is).mono ?_
        rintro e w42 ⟨o2, rfl, hq, x⟩
        have V2 := hq _ PB
        clear hq
        have z32 := x.size
        replace E := E.trans x
        replace PA := PA.ext x
        replace PB := PB.ext x
        replace LB5 := LB5.ext x
        replace LB6 := LB6.ext x
        replace V1 := V1.ext x
        replace LB7 := LB7.ext x
        replace RB7 := RB7.ext x
        clear x
        clear hHeld
        have hHeld := And.intro LB5 (LB6)
        refine hK.out _ _ hHeld (fun _ => ?_)
        clear hK K
        try simp only [Act.put, List.setIfInBounds_toArray, List.set_cons_zero, List.set_cons_succ]
        refine wpAnyH_ready (rs := [4]) (by kernel_rfl) (by simp) ?_
        refine AllReadyH.cons (o := { dst := some 43, op := Go.Op.call { callee := Go.Callee.value (Go.Operand.func 6), args := #[Go.Operand.const (Go.Value.int Go.IntKind.i64 21), Go.Operand.tmp 40, Go.Operand.tmp 42], argTypes := #[3, 34, 34] }, type := 36, pos := "law.go:89", after := #[{ on := 1, ground := Go.Ground.data }, { on := 3, ground := Go.Ground.data }, { on := 3, ground := Go.Ground.chain }], guard := none }) rfl (fun K hK => ?_) (AllReadyH.nil)
        go_simp
        refine (c21 _ _ _ V1.is V2.is).mono ?_
        rintro e w43 ⟨x1, rfl, hq, x⟩
        clear V1 V2
        have NX := hq.now
        have Fx1 := NX.is.flat
        clear hq
        have z33 := x.size
        replace E := E.trans x
        replace PA := PA.ext x
        replace PB := PB.ext x
        replace LB5 := LB5.ext x
        replace LB6 := LB6.ext x
        replace LB7 := LB7.ext x
        replace RB7 := RB7.ext x
        clear x
        clear hHeld
        have hHeld := And.intro LB5 (LB6)
        refine hK.out _ _ hHeld (fun _ => ?_)
        clear hK K
        try simp only [Act.put, List.setIfInBounds_toArray, List.set_cons_zero, List.set_cons_succ]
        refine wpAnyH_take (i := 5) (oi := { dst := some 38, op := Go.Op.move (Go.Operand.tmp 43), type := 36, pos := "law.go:89", after := #[{ on := 4, ground := Go.Ground.data }], guard := none }) (v := ?v34) rfl (by kernel_rfl) (by kernel_rfl) (by kernel_rfl) (fun _ _ _ h => h) (Or.inl ⟨by rfl, ?hy34⟩) hHeld ?rest34
        case hy34 => (intro w hSw; (try dsimp only at hSw); go_simp; (first | done | with_reducible rfl))
        try simp only [Act.put, List.setIfInBounds_toArray, List.set_cons_zero, List.set_cons_succ]
        refine wpAnyH_take (i := 6) (oi := { dst := some 44, op := Go.Op.extract (Go.Operand.tmp 38) 0, type := 34, pos := "law.go:89", after := #[{ on := 5, ground := Go.Ground.data }], guard := none }) (v := ?v35) rfl (by kernel_rfl) (by kernel_rfl) (by kernel_rfl) (fun _ _ _ h => h) (Or.inl ⟨by rfl, ?hy35⟩) hHeld ?rest35
        case hy35 => (intro w hSw; (try dsimp only at hSw); go_simp; (first | done | with_reducible rfl))
        try simp only [Act.put, List.setIfInBounds_toArray, List.set_cons_zero, List.set_cons_succ]
        refine wpAnyH_take (i := 7) (oi := { dst := some 45, op := Go.Op.extract (Go.Operand.tmp 38) 1, type := 35, pos := "law.go:89", after := #[{ on := 5, ground := Go.Ground.data }, { on := 9, ground := Go.Ground.gcOnly Go.Departure.lateStores }], guard := none }) (v := ?v36) rfl (by kernel_rfl) (by kernel_rfl) (by kernel_rfl) (fun _ _ _ h => h) (Or.inl ⟨by rfl, ?hy36⟩) hHeld ?rest36
        case hy36 => (intro w hSw; (try dsimp only at hSw); go_simp; (first | done | with_reducible rfl))
        try simp only [Act.put, List.setIfInBounds_toArray, List.set_cons_zero, List.set_cons_succ]
        refine wpAnyH_ready (rs := [9]) (by kernel_rfl) (by simp) ?_
        refine AllReadyH.cons (o := { dst := none, op := Go.Op.store 34 (Go.Operand.tmp 7) (Go.Operand.tmp 44), type := 0, pos := "law.go:89", after := #[{ on := 8, ground := Go.Ground.data }, { on := 6, ground := Go.Ground.data }, { on := 4, ground := Go.Ground.chain }, { on := 0, ground := Go.Ground.phase }, { on := 1, ground := Go.Ground.phase }, { on := 2, ground := Go.Ground.phase }, { on := 3, ground := Go.Ground.phase }, { on := 4, ground := Go.Ground.phase }, { on := 5, ground := Go.Ground.phase }, { on := 6, ground := Go.Ground.phase }, { on := 7, ground := Go.Ground.textOnly Go.Departure.lateStores }, { on := 8, ground := Go.Ground.phase }], guard := none }) rfl (fun K hK => ?_) (AllReadyH.nil)
        rw [if_pos (by rfl)]
        have hRl := (RB7).lt (Nat.zero_lt_succ _)
        refine storeV (by rfl) (by rfl) (v := x1) (by rfl) RB7 Fx1 ?_
        clear LB7
        intro s37 G37 LB7 RQ
        have z38 := G37.size
        replace E := grown_ext E G37 (by omega)
        replace PA := PA.grown G37 (by first | omega | (dsimp only [New]; omega))
        replace PB := PB.grown G37 (by first | omega | (dsimp only [New]; omega))
        replace LB5 := LB5.grown G37 (by omega)
        replace LB6 := LB6.grown G37 (by omega)
        replace NX := NX.grown G37 (by first | omega | (dsimp only [New]; omega))
        clear RB7
        have RB7 := RQ
        clear RQ hRl G37
        clear hHeld
        have hHeld := And.intro LB5 (LB6)
        refine hK.out _ _ hHeld (fun _ => ?_)
        clear hK K
        try simp only [Act.put]
        refine wpAnyH_take (i := 10) (oi := { dst := some 8, op := Go.Op.assign (Go.Operand.tmp 45), type := 35, pos := "law.go:89", after := #[{ on := 7, ground := Go.Ground.data }, { on := 9, ground := Go.Ground.chain }, { on := 0, ground := Go.Ground.phase }, { on := 1, ground := Go.Ground.phase }, { on := 2, ground := Go.Ground.phase }, { on := 3, ground := Go.Ground.phase }, { on := 4, ground := Go.Ground.phase }, { on := 5, ground := Go.Ground.phase }, { on := 6, ground := Go.Ground.phase }, { on := 7, ground := Go.Ground.phase }, { on := 8, ground := Go.Ground.phase }, { on := 9, ground := Go.Ground.phase }], guard := none }) (v := ?v39) rfl (by kernel_rfl) (by kernel_rfl) (by kernel_rfl) (fun _ _ _ h => h) (Or.inl ⟨by rfl, ?hy39⟩) hHeld ?rest39
        case hy39 => (intro w hSw; (try dsimp only at hSw); go_simp; (first | done | with_reducible rfl))
        try simp only [Act.put, List.setIfInBounds_toArray, List.set_cons_zero, List.set_cons_succ]
        refine wpAnyH_done (by kernel_rfl) ?_ _
        refine J s37 B7 o1 o2 x1 ?_
        exact ⟨by omega, ⟨by omega, by omega⟩, E, LB5, LB6, LB7, PA.mono (fun _ hi _ => hi), PB.mono (fun _ hi _ => hi), NX.mono (fun _ hi _ => hi)⟩
    · rw [if_pos (by rfl)]
      refine allocV rfl ?_
      intro B7 w7 bB7 cB7 XB7 LB7 RB7
      have z40 := XB7.size
      replace E := E.trans XB7
      replace PA := PA.ext XB7
      replace PB := PB.ext XB7
      replace LB5 := LB5.ext XB7
      replace LB6 := LB6.ext XB7
      clear hHeld
      have hHeld := And.intro LB5 (LB6)
      refine hK.out _ _ hHeld (fun _ => ?_)
      clear hK K
      try simp only [Act.put, List.setIfInBounds_toArray, List.set_cons_zero, List.set_cons_succ]
      refine wpAnyH_ready (rs := [1]) (by kernel_rfl) (by simp) ?_
      refine AllReadyH.cons (o := { dst := some 40, op := Go.Op.call { callee := Go.Callee.value (Go.Operand.func 7), args := #[Go.Operand.tmp 39], argTypes := #[26] }, type := 34, pos := "law.go:89", after := #[{ on := 0, ground := Go.Ground.data }], guard := none }) rfl (fun K hK => ?_) (AllReadyH.nil)
      go_simp
      refine (VecS.bits_of p a _ PA.is).mono ?_
      rintro e w40 ⟨o1, rfl, hq, x⟩
      have V1 := hq _ PA
      clear hq
      have z41 := x.size
      replace E := E.trans x
      replace PA := PA.ext x
      replace PB := PB.ext x
      replace LB5 := LB5.ext x
      replace LB6 := LB6.ext x
      replace LB7 := LB7.ext x
      replace RB7 := RB7.ext x
      clear x
      clear hHeld
      have hHeld := And.intro LB5 (LB6)
      refine hK.out _ _ hHeld (fun _ => ?_)
      clear hK K
      try simp only [Act.put, List.setIfInBounds_toArray, List.set_cons_zero, List.set_cons_succ]
      refine wpAnyH_ready (rs := [3]) (by kernel_rfl) (by simp) ?_
      refine AllReadyH.cons (o := { dst := some 42, op := Go.Op.call { callee := Go.Callee.value (Go.Operand.func 7), args := #[Go.Operand.tmp 41], argTypes := #[26] }, type := 34, pos := "law.go:89", after := #[{ on := 2, ground := Go.Ground.data }, { on := 1, ground := Go.Ground.chain }], guard := none }) rfl (fun K hK => ?_) (AllReadyH.nil)
      go_simp
      refine (VecS.bits_of q b _ PB.is).mono ?_
      rintro e w42 ⟨o2, rfl, hq, x⟩
      have V2 := hq _ PB
      clear hq
      have z42 := x.size
      replace E := E.trans x
      replace PA := PA.ext x
      replace PB := PB.ext x
      replace LB5 := LB5.ext x
      replace LB6 := LB6.ext x
      replace LB7 := LB7.ext x
      replace RB7 := RB7.ext x
      replace V1 := V1.ext x
      clear x
      clear hHeld
      have hHeld := And.intro LB5 (LB6)
      refine hK.out _ _ hHeld (fun _ => ?_)
      clear hK K
      try simp only [Act.put, List.setIfInBounds_toArray, List.set_cons_zero, List.set_cons_succ]
      refine wpAnyH_ready (rs := [4]) (by kernel_rfl) (by simp) ?_
      refine AllReadyH.cons (o := { dst := some 43, op := Go.Op.call { callee := Go.Callee.value (Go.Operand.func 6), args := #[Go.Operand.const (Go.Value.int Go.IntKind.i64 21), Go.Operand.tmp 40, Go.Operand.tmp 42], argTypes := #[3, 34, 34] }, type := 36, pos := "law.go:89", after := #[{ on := 1, ground := Go.Ground.data }, { on := 3, ground := Go.Ground.data }, { on := 3, ground := Go.Ground.chain }], guard := none }) rfl (fun K hK => ?_) (AllReadyH.nil)
      go_simp
      refine (c21 _ _ _ V1.is V2.is).mono ?_
      rintro e w43 ⟨x1, rfl, hq, x⟩
      clear V1 V2
      have NX := hq.now
      have Fx1 := NX.is.flat
      clear hq
      have z43 := x.size
      replace E := E.trans x
      replace PA := PA.ext x
      replace PB := PB.ext x
      replace LB5 := LB5.ext x
      replace LB6 := LB6.ext x
      replace LB7 := LB7.ext x
      replace RB7 := RB7.ext x
      clear x
      clear hHeld
      have hHeld := And.intro LB5 (LB6)
      refine hK.out _ _ hHeld (fun _ => ?_)
      clear hK K
      try simp only [Act.put, List.setIfInBounds_toArray, List.set_cons_zero, List.set_cons_succ]
      refine wpAnyH_take (i := 5) (oi := { dst := some 38, op := Go.Op.move (Go.Operand.tmp 43), type := 36, pos := "law.go:89", after := #[{ on := 4, ground := Go.Ground.data }], guard := none }) (v := ?v44) rfl (by kernel_rfl) (by kernel_rfl) (by kernel_rfl) (fun _ _ _ h => h) (Or.inl ⟨by rfl, ?hy44⟩) hHeld ?rest44
      case hy44 => (intro w hSw; (try dsimp only at hSw); go_simp; (first | done | with_reducible rfl))
      try simp only [Act.put, List.setIfInBounds_toArray, List.set_cons_zero, List.set_cons_succ]
      refine wpAnyH_take (i := 6) (oi := { dst := some 44, op := Go.Op.extract (Go.Operand.tmp 38) 0, type := 34, pos := "law.go:89", after := #[{ on := 5, ground := Go.Ground.data }], guard := none }) (v := ?v45) rfl (by kernel_rfl) (by kernel_rfl) (by kernel_rfl) (fun _ _ _ h => h) (Or.inl ⟨by rfl, ?hy45⟩) hHeld ?rest45
      case hy45 => (intro w hSw; (try dsimp only at hSw); go_simp; (first | done | with_reducible rfl))
      try simp only [Act.put, List.setIfInBounds_toArray, List.set_cons_zero, List.set_cons_succ]
      refine wpAnyH_take (i := 7) (oi := { dst := some 45, op := Go.Op.extract (Go.Operand.tmp 38) 1, type := 35, pos := "law.go:89", after := #[{ on := 5, ground := Go.Ground.data }, { on := 9, ground := Go.Ground.gcOnly Go.Departure.lateStores }], guard := none }) (v := ?v46) rfl (by kernel_rfl) (by kernel_rfl) (by kernel_rfl) (fun _ _ _ h => h) (Or.inl ⟨by rfl, ?hy46⟩) hHeld ?rest46
      case hy46 => (intro w hSw; (try dsimp only at hSw); go_simp; (first | done | with_reducible rfl))
      try simp only [Act.put, List.setIfInBounds_toArray, List.set_cons_zero, List.set_cons_succ]
      refine wpAnyH_ready (rs := [9]) (by kernel_rfl) (by simp) ?_
      refine AllReadyH.cons (o := { dst := none, op := Go.Op.store 34 (Go.Operand.tmp 7) (Go.Operand.tmp 44), type := 0, pos := "law.go:89", after := #[{ on := 8, ground := Go.Ground.data }, { on := 6, ground := Go.Ground.data }, { on := 4, ground := Go.Ground.chain }, { on := 0, ground := Go.Ground.phase }, { on := 1, ground := Go.Ground.phase }, { on := 2, ground := Go.Ground.phase }, { on := 3, ground := Go.Ground.phase }, { on := 4, ground := Go.Ground.phase }, { on := 5, ground := Go.Ground.phase }, { on := 6, ground := Go.Ground.phase }, { on := 7, ground := Go.Ground.textOnly Go.Departure.lateStores }, { on := 8, ground := Go.Ground.phase }], guard := none }) rfl (fun K hK => ?_) (AllReadyH.nil)
      rw [if_pos (by rfl)]
      have hRl := (RB7).lt (Nat.zero_lt_succ _)
      refine storeV (by rfl) (by rfl) (v := x1) (by rfl) RB7 Fx1 ?_
      clear LB7
      intro s47 G47 LB7 RQ
      have z48 := G47.size
      replace E := grown_ext E G47 (by omega)
      replace PA := PA.grown G47 (by first | omega | (dsimp only [New]; omega))
      replace PB := PB.grown G47 (by first | omega | (dsimp only [New]; omega))
      replace LB5 := LB5.grown G47 (by omega)
      replace LB6 := LB6.grown G47 (by omega)
      replace NX := NX.grown G47 (by first | omega | (dsimp only [New]; omega))
      clear RB7
      have RB7 := RQ
      clear RQ hRl G47
      clear hHeld
      have hHeld := And.intro LB5 (LB6)
      refine hK.out _ _ hHeld (fun _ => ?_)
      clear hK K
      try simp only [Act.put]
      refine wpAnyH_take (i := 10) (oi := { dst := some 8, op := Go.Op.assign (Go.Operand.tmp 45), type := 35, pos := "law.go:89", after := #[{ on := 7, ground := Go.Ground.data }, { on := 9, ground := Go.Ground.chain }, { on := 0, ground := Go.Ground.phase }, { on := 1, ground := Go.Ground.phase }, { on := 2, ground := Go.Ground.phase }, { on := 3, ground := Go.Ground.phase }, { on := 4, ground := Go.Ground.phase }, { on := 5, ground := Go.Ground.phase }, { on := 6, ground := Go.Ground.phase }, { on := 7, ground := Go.Ground.phase }, { on := 8, ground := Go.Ground.phase }, { on := 9, ground := Go.Ground.phase }], guard := none }) (v := ?v49) rfl (by kernel_rfl) (by kernel_rfl) (by kernel_rfl) (fun _ _ _ h => h) (Or.inl ⟨by rfl, ?hy49⟩) hHeld ?rest49
      case hy49 => (intro w hSw; (try dsimp only at hSw); go_simp; (first | done | with_reducible rfl))
      try simp only [Act.put, List.setIfInBounds_toArray, List.set_cons_zero, List.set_cons_succ]
      refine wpAnyH_done (by kernel_rfl) ?_ _
      refine J s47 B7 o1 o2 x1 ?_
      exact ⟨by omega, ⟨by omega, by omega⟩, E, LB5, LB6, LB7, PA.mono (fun _ hi _ => hi), PB.mono (fun _ hi _ => hi), NX.mono (fun _ hi _ => hi)⟩
  case t =>
    intro wJ4 B7 o1 o2 x1 hJ
    clear E PA PB LB5 LB6
    obtain ⟨z50, ⟨bB7, cB7⟩, E, LB5, LB6, LB7, PA, PB, NX⟩ := hJ
    try dsimp only
    go_wp2_with fail
    apply joinK4 (F := fun (wJ5 : World) (B9 : Nat) (o3 : Value) (o4 : Value) (x2 : Value) => wJ4.heap.size ≤ wJ5.heap.size ∧ (wJ4.heap.size ≤ B9 ∧ B9 < wJ5.heap.size) ∧ Ext w wJ5 ∧ Lay 2 wJ5 B5 p ∧ Lay 2 wJ5 B6 q ∧ Lay 8 wJ5 B7 x1 ∧ Lay 8 wJ5 B9 x2 ∧ BitS wJ5 p a (fun i => i < wJ5.heap.size) ∧ BitS wJ5 q b (fun i => i < wJ5.heap.size) ∧ VecS wJ5 x1 (VD.bits X) (fun i => i < wJ5.heap.size) ∧ VecS wJ5 x2 (VD.bits Y) (fun i => i < wJ5.heap.size))
    case h =>
      intro J
      try simp only [Act.put, List.setIfInBounds_toArray, List.set_cons_zero, List.set_cons_succ]
      have hq51 : wJ4.heap.size ≤ wJ4.drew.heap.size := Nat.le_refl _
      have z52 := (Ext.refl wJ4).drew.size
      replace E := E.trans (Ext.refl wJ4).drew
      replace LB5 := LB5.ext (Ext.refl wJ4).drew
      replace LB6 := LB6.ext (Ext.refl wJ4).drew
      replace LB7 := LB7.ext (Ext.refl wJ4).drew
      replace PA := PA.ext (Ext.refl wJ4).drew
      replace PB := PB.ext (Ext.refl wJ4).drew
      replace NX := NX.ext (Ext.refl wJ4).drew
      refine wp_region_held_drew (S := (fun w' => Lay 2 w' B5 p ∧ Lay 2 w' B6 q)) (by kernel_rfl) ⟨LB5, LB6⟩ (fun hHeld => ?_)
      refine wpAnyH_take (i := 0) (oi := { dst := some 47, op := Go.Op.load 26 (Go.Operand.tmp 5), type := 26, pos := "law.go:90", after := #[], guard := none }) (v := p) rfl (by kernel_rfl) (by kernel_rfl) (by kernel_rfl) (fun _ _ _ h => h) (yieldB (by rfl) rfl rfl fun w' hx => hx.1) hHeld ?_
      try simp only [Act.put, List.setIfInBounds_toArray, List.set_cons_zero, List.set_cons_succ]
      refine wpAnyH_take (i := 2) (oi := { dst := some 49, op := Go.Op.load 26 (Go.Operand.tmp 6), type := 26, pos := "law.go:90", after := #[], guard := none }) (v := q) rfl (by kernel_rfl) (by kernel_rfl) (by kernel_rfl) (fun _ _ _ h => h) (yieldB (by rfl) rfl rfl fun w' hx => hx.2) hHeld ?_
      try simp only [Act.put, List.setIfInBounds_toArray, List.set_cons_zero, List.set_cons_succ]
      refine wpAnyH_ready (rs := [1, 8]) (by kernel_rfl) (by simp) ?_
      refine AllReadyH.cons (o := { dst := some 48, op := Go.Op.call { callee := Go.Callee.value (Go.Operand.func 7), args := #[Go.Operand.tmp 47], argTypes := #[26] }, type := 34, pos := "law.go:90", after := #[{ on := 0, ground := Go.Ground.data }], guard := none }) rfl (fun K hK => ?_) (AllReadyH.cons (o := { dst := some 9, op := Go.Op.alloc 34, type := 0, pos := "law.go:90", after := #[], guard := none }) rfl (fun K hK => ?_) (AllReadyH.nil))
      · go_simp
        refine (VecS.bits_of p a _ PA.is).mono ?_
        rintro e w48 ⟨o3, rfl, hq, x⟩
        have V1 := hq _ PA
        clear hq
        have z55 := x.size
        replace E := E.trans x
        replace LB5 := LB5.ext x
        replace LB6 := LB6.ext x
        replace LB7 := LB7.ext x
        replace PA := PA.ext x
        replace PB := PB.ext x
        replace NX := NX.ext x
        clear x
        clear hHeld
        have hHeld := And.intro LB5 (LB6)
        refine hK.out _ _ hHeld (fun _ => ?_)
        clear hK K
        try simp only [Act.put, List.setIfInBounds_toArray, List.set_cons_zero, List.set_cons_succ]
        refine wpAnyH_ready (rs := [3, 8]) (by kernel_rfl) (by simp) ?_
        refine AllReadyH.cons (o := { dst := some 50, op := Go.Op.call { callee := Go.Callee.value (Go.Operand.func 7), args := #[Go.Operand.tmp 49], argTypes := #[26] }, type := 34, pos := "law.go:90", after := #[{ on := 2, ground := Go.Ground.data }, { on := 1, ground := Go.Ground.chain }], guard := none }) rfl (fun K hK => ?_) (AllReadyH.cons (o := { dst := some 9, op := Go.Op.alloc 34, type := 0, pos := "law.go:90", after := #[], guard := none }) rfl (fun K hK => ?_) (AllReadyH.nil))
        · go_simp
          refine (VecS.bits_of q b _ PB.is).mono ?_
          rintro e w50 ⟨o4, rfl, hq, x⟩
          have V2 := hq _ PB
          clear hq
          have z56 := x.size
          replace E := E.trans x
          replace LB5 := LB5.ext x
          replace LB6 := LB6.ext x
          replace LB7 := LB7.ext x
          replace PA := PA.ext x
          replace PB := PB.ext x
          replace NX := NX.ext x
          replace V1 := V1.ext x
          clear x
          clear hHeld
          have hHeld := And.intro LB5 (LB6)
          refine hK.out _ _ hHeld (fun _ => ?_)
          clear hK K
          try simp only [Act.put, List.setIfInBounds_toArray, List.set_cons_zero, List.set_cons_succ]
          refine wpAnyH_ready (rs := [4, 8]) (by kernel_rfl) (by simp) ?_
          refine AllReadyH.cons (o := { dst := some 51, op := Go.Op.call { callee := Go.Callee.value (Go.Operand.func 6), args := #[Go.Operand.const (Go.Value.int Go.IntKind.i64 23), Go.Operand.tmp 48, Go.Operand.tmp 50], argTypes := #[3, 34, 34] }, type := 36, pos := "law.go:90", after := #[{ on := 1, ground := Go.Ground.data }, { on := 3, ground := Go.Ground.data }, { on := 3, ground := Go.Ground.chain }], guard := none }) rfl (fun K hK => ?_) (AllReadyH.cons (o := { dst := some 9, op := Go.Op.alloc 34, type := 0, pos := "law.go:90", after := #[], guard := none }) rfl (fun K hK => ?_) (AllReadyH.nil))
          · go_simp
            refine (c23 _ _ _ V1.is V2.is).mono ?_
            rintro e w51 ⟨x2, rfl, hq, x⟩
            clear V1 V2
            have NY := hq.now
            have Fx2 := NY.is.flat
            clear hq
            have z57 := x.size
            replace E := E.trans x
            replace LB5 := LB5.ext x
            replace LB6 := LB6.ext x
            replace LB7 := LB7.ext x
            replace PA := PA.ext x
            replace PB := PB.ext x
            replace NX := NX.ext x
            clear x
            clear hHeld
            have hHeld := And.intro LB5 (LB6)
            refine hK.out _ _ hHeld (fun _ => ?_)
            clear hK K
            try simp only [Act.put, List.setIfInBounds_toArray, List.set_cons_zero, List.set_cons_succ]
            refine wpAnyH_take (i := 5) (oi := { dst := some 46, op := Go.Op.move (Go.Operand.tmp 51), type := 36, pos := "law.go:90", after := #[{ on := 4, ground := Go.Ground.data }], guard := none }) (v := ?v58) rfl (by kernel_rfl) (by kernel_rfl) (by kernel_rfl) (fun _ _ _ h => h) (Or.inl ⟨by rfl, ?hy58⟩) hHeld ?rest58
            case hy58 => (intro w hSw; (try dsimp only at hSw); go_simp; (first | done | with_reducible rfl))
            try simp only [Act.put, List.setIfInBounds_toArray, List.set_cons_zero, List.set_cons_succ]
            refine wpAnyH_take (i := 6) (oi := { dst := some 52, op := Go.Op.extract (Go.Operand.tmp 46) 0, type := 34, pos := "law.go:90", after := #[{ on := 5, ground := Go.Ground.data }], guard := none }) (v := ?v59) rfl (by kernel_rfl) (by kernel_rfl) (by kernel_rfl) (fun _ _ _ h => h) (Or.inl ⟨by rfl, ?hy59⟩) hHeld ?rest59
            case hy59 => (intro w hSw; (try dsimp only at hSw); go_simp; (first | done | with_reducible rfl))
            try simp only [Act.put, List.setIfInBounds_toArray, List.set_cons_zero, List.set_cons_succ]
            refine wpAnyH_take (i := 7) (oi := { dst := some 53, op := Go.Op.extract (Go.Operand.tmp 46) 1, type := 35, pos := "law.go:90", after := #[{ on := 5, ground := Go.Ground.data }, { on := 9, ground := Go.Ground.gcOnly Go.Departure.lateStores }], guard := none }) (v := ?v60) rfl (by kernel_rfl) (by kernel_rfl) (by kernel_rfl) (fun _ _ _ h => h) (Or.inl ⟨by rfl, ?hy60⟩) hHeld ?rest60
            case hy60 => (intro w hSw; (try dsimp only at hSw); go_simp; (first | done | with_reducible rfl))
            try simp only [Act.put, List.setIfInBounds_toArray, List.set_cons_zero, List.set_cons_succ]
            refine wpAnyH_ready (rs := [8]) (by kernel_rfl) (by simp) ?_
            refine AllReadyH.cons (o := { dst := some 9, op := Go.Op.alloc 34, type := 0, pos := "law.go:90", after := #[], guard := none }) rfl (fun K hK => ?_) (AllReadyH.nil)
            rw [if_pos (by rfl)]
            refine allocV rfl ?_
            intro B9 w9 bB9 cB9 XB9 LB9 RB9
            have z61 := XB9.size
            replace E := E.trans XB9
            replace LB5 := LB5.ext XB9
            replace LB6 := LB6.ext XB9
            replace LB7 := LB7.ext XB9
            replace PA := PA.ext XB9
            replace PB := PB.ext XB9
            replace NX := NX.ext XB9
            replace NY := NY.ext XB9
            clear hHeld
            have hHeld := And.intro LB5 (LB6)
            refine hK.out _ _ hHeld (fun _ => ?_)
            clear hK K
            try simp only [Act.put, List.setIfInBounds_toArray, List.set_cons_zero, List.set_cons_succ]
            refine wpAnyH_ready (rs := [9]) (by kernel_rfl) (by simp) ?_
            refine AllReadyH.cons (o := { dst := none, op := Go.Op.store 34 (Go.Operand.tmp 9) (Go.Operand.tmp 52), type := 0, pos := "law.go:90", after := #[{ on := 8, ground := Go.Ground.data }, { on := 6, ground := Go.Ground.data }, { on := 4, ground := Go.Ground.chain }, { on := 0, ground := Go.Ground.phase }, { on := 1, ground := Go.Ground.phase }, { on := 2, ground := Go.Ground.phase }, { on := 3, ground := Go.Ground.phase }, { on := 4, ground := Go.Ground.phase }, { on := 5, ground := Go.Ground.phase }, { on := 6, ground := Go.Ground.phase }, { on := 7, ground := Go.Ground.textOnly Go.Departure.lateStores }, { on := 8, ground := Go.Ground.phase }], guard := none }) rfl (fun K hK => ?_) (AllReadyH.nil)
            rw [if_pos (by rfl)]
            have hRl := (RB9).lt (Nat.zero_lt_succ _)
            refine storeV (by rfl) (by rfl) (v := x2) (by rfl) RB9 Fx2 ?_
            clear LB9
            intro s62 G62 LB9 RQ
            have z63 := G62.size
            replace E := grown_ext E G62 (by omega)
            replace LB5 := LB5.grown G62 (by omega)
            replace LB6 := LB6.grown G62 (by omega)
            replace LB7 := LB7.grown G62 (by omega)
            replace PA := PA.grown G62 (by first | omega | (dsimp only [New]; omega))
            replace PB := PB.grown G62 (by first | omega | (dsimp only [New]; omega))
            replace NX := NX.grown G62 (by first | omega | (dsimp only [New]; omega))
            replace NY := NY.grown G62 (by first | omega | (dsimp only [New]; omega))
            clear RB9
            have RB9 := RQ
            clear RQ hRl G62
            clear hHeld
            have hHeld := And.intro LB5 (LB6)
            refine hK.out _ _ hHeld (fun _ => ?_)
            clear hK K
            try simp only [Act.put]
            refine wpAnyH_take (i := 10) (oi := { dst := some 10, op := Go.Op.assign (Go.Operand.tmp 53), type := 35, pos := "law.go:90", after := #[{ on := 7, ground := Go.Ground.data }, { on := 9, ground := Go.Ground.chain }, { on := 0, ground := Go.Ground.phase }, { on := 1, ground := Go.Ground.phase }, { on := 2, ground := Go.Ground.phase }, { on := 3, ground := Go.Ground.phase }, { on := 4, ground := Go.Ground.phase }, { on := 5, ground := Go.Ground.phase }, { on := 6, ground := Go.Ground.phase }, { on := 7, ground := Go.Ground.phase }, { on := 8, ground := Go.Ground.phase }, { on := 9, ground := Go.Ground.phase }], guard := none }) (v := ?v64) rfl (by kernel_rfl) (by kernel_rfl) (by kernel_rfl) (fun _ _ _ h => h) (Or.inl ⟨by rfl, ?hy64⟩) hHeld ?rest64
            case hy64 => (intro w hSw; (try dsimp only at hSw); go_simp; (first | done | with_reducible rfl))
            try simp only [Act.put, List.setIfInBounds_toArray, List.set_cons_zero, List.set_cons_succ]
            refine wpAnyH_done (by kernel_rfl) ?_ _
            refine J s62 B9 o3 o4 x2 ?_
            exact ⟨by omega, ⟨by omega, by omega⟩, E, LB5, LB6, LB7, LB9, PA.mono (fun _ hi _ => hi), PB.mono (fun _ hi _ => hi), NX.mono (fun _ hi _ => hi), NY.mono (fun _ hi _ => hi)⟩
          · rw [if_pos (by rfl)]
            refine allocV rfl ?_
            intro B9 w9 bB9 cB9 XB9 LB9 RB9
            have z65 := XB9.size
            replace E := E.trans XB9
            replace LB5 := LB5.ext XB9
            replace LB6 := LB6.ext XB9
            replace LB7 := LB7.ext XB9
            replace PA := PA.ext XB9
            replace PB := PB.ext XB9
            replace NX := NX.ext XB9
            replace V1 := V1.ext XB9
            replace V2 := V2.ext XB9
            clear hHeld
            have hHeld := And.intro LB5 (LB6)
            refine hK.out _ _ hHeld (fun _ => ?_)
            clear hK K
            try simp only [Act.put, List.setIfInBounds_toArray, List.set_cons_zero, List.set_cons_succ]
            refine wpAnyH_ready (rs := [4]) (by kernel_rfl) (by simp) ?_
            refine AllReadyH.cons (o := { dst := some 51, op := Go.Op.call { callee := Go.Callee.value (Go.Operand.func 6), args := #[Go.Operand.const (Go.Value.int Go.IntKind.i64 23), Go.Operand.tmp 48, Go.Operand.tmp 50], argTypes := #[3, 34, 34] }, type := 36, pos := "law.go:90", after := #[{ on := 1, ground := Go.Ground.data }, { on := 3, ground := Go.Ground.data }, { on := 3, ground := Go.Ground.chain }], guard := none }) rfl (fun K hK => ?_) (AllReadyH.nil)
            go_simp
            refine (c23 _ _ _ V1.is V2.is).mono ?_
            rintro e w51 ⟨x2, rfl, hq, x⟩
            clear V1 V2
            have NY := hq.now
            have Fx2 := NY.is.flat
            clear hq
            have z66 := x.size
            replace E := E.trans x
            replace LB5 := LB5.ext x
            replace LB6 := LB6.ext x
            replace LB7 := LB7.ext x
            replace PA := PA.ext x
            replace PB := PB.ext x
            replace NX := NX.ext x
            replace LB9 := LB9.ext x
            replace RB9 := RB9.ext x
            clear x
            clear hHeld
            have hHeld := And.intro LB5 (LB6)
            refine hK.out _ _ hHeld (fun _ => ?_)
            clear hK K
            try simp only [Act.put, List.setIfInBounds_toArray, List.set_cons_zero, List.set_cons_succ]
            refine wpAnyH_take (i := 5) (oi := { dst := some 46, op := Go.Op.move (Go.Operand.tmp 51), type := 36, pos := "law.go:90", after := #[{ on := 4, ground := Go.Ground.data }], guard := none }) (v := ?v67) rfl (by kernel_rfl) (by kernel_rfl) (by kernel_rfl) (fun _ _ _ h => h) (Or.inl ⟨by rfl, ?hy67⟩) hHeld ?rest67
            case hy67 => (intro w hSw; (try dsimp only at hSw); go_simp; (first | done | with_reducible rfl))
            try simp only [Act.put, List.setIfInBounds_toArray, List.set_cons_zero, List.set_cons_succ]
            refine wpAnyH_take (i := 6) (oi := { dst := some 52, op := Go.Op.extract (Go.Operand.tmp 46) 0, type := 34, pos := "law.go:90", after := #[{ on := 5, ground := Go.Ground.data }], guard := none }) (v := ?v68) rfl (by kernel_rfl) (by kernel_rfl) (by kernel_rfl) (fun _ _ _ h => h) (Or.inl ⟨by rfl, ?hy68⟩) hHeld ?rest68
            case hy68 => (intro w hSw; (try dsimp only at hSw); go_simp; (first | done | with_reducible rfl))
            try simp only [Act.put, List.setIfInBounds_toArray, List.set_cons_zero, List.set_cons_succ]
            refine wpAnyH_take (i := 7) (oi := { dst := some 53, op := Go.Op.extract (Go.Operand.tmp 46) 1, type := 35, pos := "law.go:90", after := #[{ on := 5, ground := Go.Ground.data }, { on := 9, ground := Go.Ground.gcOnly Go.Departure.lateStores }], guard := none }) (v := ?v69) rfl (by kernel_rfl) (by kernel_rfl) (by kernel_rfl) (fun _ _ _ h => h) (Or.inl ⟨by rfl, ?hy69⟩) hHeld ?rest69
            case hy69 => (intro w hSw; (try dsimp only at hSw); go_simp; (first | done | with_reducible rfl))
            try simp only [Act.put, List.setIfInBounds_toArray, List.set_cons_zero, List.set_cons_succ]
            refine wpAnyH_ready (rs := [9]) (by kernel_rfl) (by simp) ?_
            refine AllReadyH.cons (o := { dst := none, op := Go.Op.store 34 (Go.Operand.tmp 9) (Go.Operand.tmp 52), type := 0, pos := "law.go:90", after := #[{ on := 8, ground := Go.Ground.data }, { on := 6, ground := Go.Ground.data }, { on := 4, ground := Go.Ground.chain }, { on := 0, ground := Go.Ground.phase }, { on := 1, ground := Go.Ground.phase }, { on := 2, ground := Go.Ground.phase }, { on := 3, ground := Go.Ground.phase }, { on := 4, ground := Go.Ground.phase }, { on := 5, ground := Go.Ground.phase }, { on := 6, ground := Go.Ground.phase }, { on := 7, ground := Go.Ground.textOnly Go.Departure.lateStores }, { on := 8, ground := Go.Ground.phase }], guard := none }) rfl (fun K hK => ?_) (AllReadyH.nil)
            rw [if_pos (by rfl)]
            have hRl := (RB9).lt (Nat.zero_lt_succ _)
            refine storeV (by rfl) (by rfl) (v := x2) (by rfl) RB9 Fx2 ?_
            clear LB9
            intro s70 G70 LB9 RQ
            have z71 := G70.size
            replace E := grown_ext E G70 (by omega)
            replace LB5 := LB5.grown G70 (by omega)
            replace LB6 := LB6.grown G70 (by omega)
            replace LB7 := LB7.grown G70 (by omega)
            replace PA := PA.grown G70 (by first | omega | (dsimp only [New]; omega))
            replace PB := PB.grown G70 (by first | omega | (dsimp only [New]; omega))
            replace NX := NX.grown G70 (by first | omega | (dsimp only [New]; omega))
            replace NY := NY.grown G70 (by first | omega | (dsimp only [New]; omega))
            clear RB9
            have RB9 := RQ
            clear RQ hRl G70
            clear hHeld
            have hHeld := And.intro LB5 (LB6)
            refine hK.out _ _ hHeld (fun _ => ?_)
            clear hK K
            try simp only [Act.put]
            refine wpAnyH_take (i := 10) (oi := { dst := some 10, op := Go.Op.assign (Go.Operand.tmp 53), type := 35, pos := "law.go:90", after := #[{ on := 7, ground := Go.Ground.data }, { on := 9, ground := Go.Ground.chain }, { on := 0, ground := Go.Ground.phase }, { on := 1, ground := Go.Ground.phase }, { on := 2, ground := Go.Ground.phase }, { on := 3, ground := Go.Ground.phase }, { on := 4, ground := Go.Ground.phase }, { on := 5, ground := Go.Ground.phase }, { on := 6, ground := Go.Ground.phase }, { on := 7, ground := Go.Ground.phase }, { on := 8, ground := Go.Ground.phase }, { on := 9, ground := Go.Ground.phase }], guard := none }) (v := ?v72) rfl (by kernel_rfl) (by kernel_rfl) (by kernel_rfl) (fun _ _ _ h => h) (Or.inl ⟨by rfl, ?hy72⟩) hHeld ?rest72
            case hy72 => (intro w hSw; (try dsimp only at hSw); go_simp; (first | done | with_reducible rfl))
            try simp only [Act.put, List.setIfInBounds_toArray, List.set_cons_zero, List.set_cons_succ]
            refine wpAnyH_done (by kernel_rfl) ?_ _
            refine J s70 B9 o3 o4 x2 ?_
            exact ⟨by omega, ⟨by omega, by omega⟩, E, LB5, LB6, LB7, LB9, PA.mono (fun _ hi _ => hi), PB.mono (fun _ hi _ => hi), NX.mono (fun _ hi _ => hi), NY.mono (fun _ hi _ => hi)⟩
        · rw [if_pos (by rfl)]
          refine allocV rfl ?_
          intro B9 w9 bB9 cB9 XB9 LB9 RB9
          have z73 := XB9.size
          replace E := E.trans XB9
          replace LB5 := LB5.ext XB9
          replace LB6 := LB6.ext XB9
          replace LB7 := LB7.ext XB9
          replace PA := PA.ext XB9
          replace PB := PB.ext XB9
          replace NX := NX.ext XB9
          replace V1 := V1.ext XB9
          clear hHeld
          have hHeld := And.intro LB5 (LB6)
          refine hK.out _ _ hHeld (fun _ => ?_)
          clear hK K
          try simp only [Act.put, List.setIfInBounds_toArray, List.set_cons_zero, List.set_cons_succ]
          refine wpAnyH_ready (rs := [3]) (by kernel_rfl) (by simp) ?_
          refine AllReadyH.cons (o := { dst := some 50, op := Go.Op.call { callee := Go.Callee.value (Go.Operand.func 7), args := #[Go.Operand.tmp 49], argTypes := #[26] }, type := 34, pos := "law.go:90", after := #[{ on := 2, ground := Go.Ground.data }, { on := 1, ground := Go.Ground.chain }], guard := none }) rfl (fun K hK => ?_) (AllReadyH.nil)
          go_simp
          refine (VecS.bits_of q b _ PB.is).mono ?_
          rintro e w50 ⟨o4, rfl, hq, x⟩
          have V2 := hq _ PB
          clear hq
          have z74 := x.size
          replace E := E.trans x
          replace LB5 := LB5.ext x
          replace LB6 := LB6.ext x
          replace LB7 := LB7.ext x
          replace PA := PA.ext x
          replace PB := PB.ext x
          replace NX := NX.ext x
          replace V1 := V1.ext x
          replace LB9 := LB9.ext x
          replace RB9 := RB9.ext x
          clear x
          clear hHeld
          have hHeld := And.intro LB5 (LB6)
          refine hK.out _ _ hHeld (fun _ => ?_)
          clear hK K
          try simp only [Act.put, List.setIfInBounds_toArray, List.set_cons_zero, List.set_cons_succ]
          refine wpAnyH_ready (rs := [4]) (by kernel_rfl) (by simp) ?_
          refine AllReadyH.cons (o := { dst := some 51, op := Go.Op.call { callee := Go.Callee.value (Go.Operand.func 6), args := #[Go.Operand.const (Go.Value.int Go.IntKind.i64 23), Go.Operand.tmp 48, Go.Operand.tmp 50], argTypes := #[3, 34, 34] }, type := 36, pos := "law.go:90", after := #[{ on := 1, ground := Go.Ground.data }, { on := 3, ground := Go.Ground.data }, { on := 3, ground := Go.Ground.chain }], guard := none }) rfl (fun K hK => ?_) (AllReadyH.nil)
          go_simp
          refine (c23 _ _ _ V1.is V2.is).mono ?_
          rintro e w51 ⟨x2, rfl, hq, x⟩
          clear V1 V2
          have NY := hq.now
          have Fx2 := NY.is.flat
          clear hq
          have z75 := x.size
          replace E := E.trans x
          replace LB5 := LB5.ext x
          replace LB6 := LB6.ext x
          replace LB7 := LB7.ext x
          replace PA := PA.ext x
          replace PB := PB.ext x
          replace NX := NX.ext x
          replace LB9 := LB9.ext x
          replace RB9 := RB9.ext x
          clear x
          clear hHeld
          have hHeld := And.intro LB5 (LB6)
          refine hK.out _ _ hHeld (fun _ => ?_)
          clear hK K
          try simp only [Act.put, List.setIfInBounds_toArray, List.set_cons_zero, List.set_cons_succ]
          refine wpAnyH_take (i := 5) (oi := { dst := some 46, op := Go.Op.move (Go.Operand.tmp 51), type := 36, pos := "law.go:90", after := #[{ on := 4, ground := Go.Ground.data }], guard := none }) (v := ?v76) rfl (by kernel_rfl) (by kernel_rfl) (by kernel_rfl) (fun _ _ _ h => h) (Or.inl ⟨by rfl, ?hy76⟩) hHeld ?rest76
          case hy76 => (intro w hSw; (try dsimp only at hSw); go_simp; (first | done | with_reducible rfl))
          try simp only [Act.put, List.setIfInBounds_toArray, List.set_cons_zero, List.set_cons_succ]
          refine wpAnyH_take (i := 6) (oi := { dst := some 52, op := Go.Op.extract (Go.Operand.tmp 46) 0, type := 34, pos := "law.go:90", after := #[{ on := 5, ground := Go.Ground.data }], guard := none }) (v := ?v77) rfl (by kernel_rfl) (by kernel_rfl) (by kernel_rfl) (fun _ _ _ h => h) (Or.inl ⟨by rfl, ?hy77⟩) hHeld ?rest77
          case hy77 => (intro w hSw; (try dsimp only at hSw); go_simp; (first | done | with_reducible rfl))
          try simp only [Act.put, List.setIfInBounds_toArray, List.set_cons_zero, List.set_cons_succ]
          refine wpAnyH_take (i := 7) (oi := { dst := some 53, op := Go.Op.extract (Go.Operand.tmp 46) 1, type := 35, pos := "law.go:90", after := #[{ on := 5, ground := Go.Ground.data }, { on := 9, ground := Go.Ground.gcOnly Go.Departure.lateStores }], guard := none }) (v := ?v78) rfl (by kernel_rfl) (by kernel_rfl) (by kernel_rfl) (fun _ _ _ h => h) (Or.inl ⟨by rfl, ?hy78⟩) hHeld ?rest78
          case hy78 => (intro w hSw; (try dsimp only at hSw); go_simp; (first | done | with_reducible rfl))
          try simp only [Act.put, List.setIfInBounds_toArray, List.set_cons_zero, List.set_cons_succ]
          refine wpAnyH_ready (rs := [9]) (by kernel_rfl) (by simp) ?_
          refine AllReadyH.cons (o := { dst := none, op := Go.Op.store 34 (Go.Operand.tmp 9) (Go.Operand.tmp 52), type := 0, pos := "law.go:90", after := #[{ on := 8, ground := Go.Ground.data }, { on := 6, ground := Go.Ground.data }, { on := 4, ground := Go.Ground.chain }, { on := 0, ground := Go.Ground.phase }, { on := 1, ground := Go.Ground.phase }, { on := 2, ground := Go.Ground.phase }, { on := 3, ground := Go.Ground.phase }, { on := 4, ground := Go.Ground.phase }, { on := 5, ground := Go.Ground.phase }, { on := 6, ground := Go.Ground.phase }, { on := 7, ground := Go.Ground.textOnly Go.Departure.lateStores }, { on := 8, ground := Go.Ground.phase }], guard := none }) rfl (fun K hK => ?_) (AllReadyH.nil)
          rw [if_pos (by rfl)]
          have hRl := (RB9).lt (Nat.zero_lt_succ _)
          refine storeV (by rfl) (by rfl) (v := x2) (by rfl) RB9 Fx2 ?_
          clear LB9
          intro s79 G79 LB9 RQ
          have z80 := G79.size
          replace E := grown_ext E G79 (by omega)
          replace LB5 := LB5.grown G79 (by omega)
          replace LB6 := LB6.grown G79 (by omega)
          replace LB7 := LB7.grown G79 (by omega)
          replace PA := PA.grown G79 (by first | omega | (dsimp only [New]; omega))
          replace PB := PB.grown G79 (by first | omega | (dsimp only [New]; omega))
          replace NX := NX.grown G79 (by first | omega | (dsimp only [New]; omega))
          replace NY := NY.grown G79 (by first | omega | (dsimp only [New]; omega))
          clear RB9
          have RB9 := RQ
          clear RQ hRl G79
          clear hHeld
          have hHeld := And.intro LB5 (LB6)
          refine hK.out _ _ hHeld (fun _ => ?_)
          clear hK K
          try simp only [Act.put]
          refine wpAnyH_take (i := 10) (oi := { dst := some 10, op := Go.Op.assign (Go.Operand.tmp 53), type := 35, pos := "law.go:90", after := #[{ on := 7, ground := Go.Ground.data }, { on := 9, ground := Go.Ground.chain }, { on := 0, ground := Go.Ground.phase }, { on := 1, ground := Go.Ground.phase }, { on := 2, ground := Go.Ground.phase }, { on := 3, ground := Go.Ground.phase }, { on := 4, ground := Go.Ground.phase }, { on := 5, ground := Go.Ground.phase }, { on := 6, ground := Go.Ground.phase }, { on := 7, ground := Go.Ground.phase }, { on := 8, ground := Go.Ground.phase }, { on := 9, ground := Go.Ground.phase }], guard := none }) (v := ?v81) rfl (by kernel_rfl) (by kernel_rfl) (by kernel_rfl) (fun _ _ _ h => h) (Or.inl ⟨by rfl, ?hy81⟩) hHeld ?rest81
          case hy81 => (intro w hSw; (try dsimp only at hSw); go_simp; (first | done | with_reducible rfl))
          try simp only [Act.put, List.setIfInBounds_toArray, List.set_cons_zero, List.set_cons_succ]
          refine wpAnyH_done (by kernel_rfl) ?_ _
          refine J s79 B9 o3 o4 x2 ?_
          exact ⟨by omega, ⟨by omega, by omega⟩, E, LB5, LB6, LB7, LB9, PA.mono (fun _ hi _ => hi), PB.mono (fun _ hi _ => hi), NX.mono (fun _ hi _ => hi), NY.mono (fun _ hi _ => hi)⟩
      · rw [if_pos (by rfl)]
        refine allocV rfl ?_
        intro B9 w9 bB9 cB9 XB9 LB9 RB9
        have z82 := XB9.size
        replace E := E.trans XB9
        replace LB5 := LB5.ext XB9
        replace LB6 := LB6.ext XB9
        replace LB7 := LB7.ext XB9
        replace PA := PA.ext XB9
        replace PB := PB.ext XB9
        replace NX := NX.ext XB9
        clear hHeld
        have hHeld := And.intro LB5 (LB6)
        refine hK.out _ _ hHeld (fun _ => ?_)
        clear hK K
        try simp only [Act.put, List.setIfInBounds_toArray, List.set_cons_zero, List.set_cons_succ]
        refine wpAnyH_ready (rs := [1]) (by kernel_rfl) (by simp) ?_
        refine AllReadyH.cons (o := { dst := some 48, op := Go.Op.call { callee := Go.Callee.value (Go.Operand.func 7), args := #[Go.Operand.tmp 47], argTypes := #[26] }, type := 34, pos := "law.go:90", after := #[{ on := 0, ground := Go.Ground.data }], guard := none }) rfl (fun K hK => ?_) (AllReadyH.nil)
        go_simp
        refine (VecS.bits_of p a _ PA.is).mono ?_
        rintro e w48 ⟨o3, rfl, hq, x⟩
        have V1 := hq _ PA
        clear hq
        have z83 := x.size
        replace E := E.trans x
        replace LB5 := LB5.ext x
        replace LB6 := LB6.ext x
        replace LB7 := LB7.ext x
        replace PA := PA.ext x
        replace PB := PB.ext x
        replace NX := NX.ext x
        replace LB9 := LB9.ext x
        replace RB9 := RB9.ext x
        clear x
        clear hHeld
        have hHeld := And.intro LB5 (LB6)
        refine hK.out _ _ hHeld (fun _ => ?_)
        clear hK K
        try simp only [Act.put, List.setIfInBounds_toArray, List.set_cons_zero, List.set_cons_succ]
        refine wpAnyH_ready (rs := [3]) (by kernel_rfl) (by simp) ?_
        refine AllReadyH.cons (o := { dst := some 50, op := Go.Op.call { callee := Go.Callee.value (Go.Operand.func 7), args := #[Go.Operand.tmp 49], argTypes := #[26] }, type := 34, pos := "law.go:90", after := #[{ on := 2, ground := Go.Ground.data }, { on := 1, ground := Go.Ground.chain }], guard := none }) rfl (fun K hK => ?_) (AllReadyH.nil)
        go_simp
        refine (VecS.bits_of q b _ PB.is).mono ?_
        rintro e w50 ⟨o4, rfl, hq, x⟩
        have V2 := hq _ PB
        clear hq
        have z84 := x.size
        replace E := E.trans x
        replace LB5 := LB5.ext x
        replace LB6 := LB6.ext x
        replace LB7 := LB7.ext x
        replace PA := PA.ext x
        replace PB := PB.ext x
        replace NX := NX.ext x
        replace LB9 := LB9.ext x
        replace RB9 := RB9.ext x
        replace V1 := V1.ext x
        clear x
        clear hHeld
        have hHeld := And.intro LB5 (LB6)
        refine hK.out _ _ hHeld (fun _ => ?_)
        clear hK K
        try simp only [Act.put, List.setIfInBounds_toArray, List.set_cons_zero, List.set_cons_succ]
        refine wpAnyH_ready (rs := [4]) (by kernel_rfl) (by simp) ?_
        refine AllReadyH.cons (o := { dst := some 51, op := Go.Op.call { callee := Go.Callee.value (Go.Operand.func 6), args := #[Go.Operand.const (Go.Value.int Go.IntKind.i64 23), Go.Operand.tmp 48, Go.Operand.tmp 50], argTypes := #[3, 34, 34] }, type := 36, pos := "law.go:90", after := #[{ on := 1, ground := Go.Ground.data }, { on := 3, ground := Go.Ground.data }, { on := 3, ground := Go.Ground.chain }], guard := none }) rfl (fun K hK => ?_) (AllReadyH.nil)
        go_simp
        refine (c23 _ _ _ V1.is V2.is).mono ?_
        rintro e w51 ⟨x2, rfl, hq, x⟩
        clear V1 V2
        have NY := hq.now
        have Fx2 := NY.is.flat
        clear hq
        have z85 := x.size
        replace E := E.trans x
        replace LB5 := LB5.ext x
        replace LB6 := LB6.ext x
        replace LB7 := LB7.ext x
        replace PA := PA.ext x
        replace PB := PB.ext x
        replace NX := NX.ext x
        replace LB9 := LB9.ext x
        replace RB9 := RB9.ext x
        clear x
        clear hHeld
        have hHeld := And.intro LB5 (LB6)
        refine hK.out _ _ hHeld (fun _ => ?_)
        clear hK K
        try simp only [Act.put, List.setIfInBounds_toArray, List.set_cons_zero, List.set_cons_succ]
        refine wpAnyH_take (i := 5) (oi := { dst := some 46, op := Go.Op.move (Go.Operand.tmp 51), type := 36, pos := "law.go:90", after := #[{ on := 4, ground := Go.Ground.data }], guard := none }) (v := ?v86) rfl (by kernel_rfl) (by kernel_rfl) (by kernel_rfl) (fun _ _ _ h => h) (Or.inl ⟨by rfl, ?hy86⟩) hHeld ?rest86
        case hy86 => (intro w hSw; (try dsimp only at hSw); go_simp; (first | done | with_reducible rfl))
        try simp only [Act.put, List.setIfInBounds_toArray, List.set_cons_zero, List.set_cons_succ]
        refine wpAnyH_take (i := 6) (oi := { dst := some 52, op := Go.Op.extract (Go.Operand.tmp 46) 0, type := 34, pos := "law.go:90", after := #[{ on := 5, ground := Go.Ground.data }], guard := none }) (v := ?v87) rfl (by kernel_rfl) (by kernel_rfl) (by kernel_rfl) (fun _ _ _ h => h) (Or.inl ⟨by rfl, ?hy87⟩) hHeld ?rest87
        case hy87 => (intro w hSw; (try dsimp only at hSw); go_simp; (first | done | with_reducible rfl))
        try simp only [Act.put, List.setIfInBounds_toArray, List.set_cons_zero, List.set_cons_succ]
        refine wpAnyH_take (i := 7) (oi := { dst := some 53, op := Go.Op.extract (Go.Operand.tmp 46) 1, type := 35, pos := "law.go:90", after := #[{ on := 5, ground := Go.Ground.data }, { on := 9, ground := Go.Ground.gcOnly Go.Departure.lateStores }], guard := none }) (v := ?v88) rfl (by kernel_rfl) (by kernel_rfl) (by kernel_rfl) (fun _ _ _ h => h) (Or.inl ⟨by rfl, ?hy88⟩) hHeld ?rest88
        case hy88 => (intro w hSw; (try dsimp only at hSw); go_simp; (first | done | with_reducible rfl))
        try simp only [Act.put, List.setIfInBounds_toArray, List.set_cons_zero, List.set_cons_succ]
        refine wpAnyH_ready (rs := [9]) (by kernel_rfl) (by simp) ?_
        refine AllReadyH.cons (o := { dst := none, op := Go.Op.store 34 (Go.Operand.tmp 9) (Go.Operand.tmp 52), type := 0, pos := "law.go:90", after := #[{ on := 8, ground := Go.Ground.data }, { on := 6, ground := Go.Ground.data }, { on := 4, ground := Go.Ground.chain }, { on := 0, ground := Go.Ground.phase }, { on := 1, ground := Go.Ground.phase }, { on := 2, ground := Go.Ground.phase }, { on := 3, ground := Go.Ground.phase }, { on := 4, ground := Go.Ground.phase }, { on := 5, ground := Go.Ground.phase }, { on := 6, ground := Go.Ground.phase }, { on := 7, ground := Go.Ground.textOnly Go.Departure.lateStores }, { on := 8, ground := Go.Ground.phase }], guard := none }) rfl (fun K hK => ?_) (AllReadyH.nil)
        rw [if_pos (by rfl)]
        have hRl := (RB9).lt (Nat.zero_lt_succ _)
        refine storeV (by rfl) (by rfl) (v := x2) (by rfl) RB9 Fx2 ?_
        clear LB9
        intro s89 G89 LB9 RQ
        have z90 := G89.size
        replace E := grown_ext E G89 (by omega)
        replace LB5 := LB5.grown G89 (by omega)
        replace LB6 := LB6.grown G89 (by omega)
        replace LB7 := LB7.grown G89 (by omega)
        replace PA := PA.grown G89 (by first | omega | (dsimp only [New]; omega))
        replace PB := PB.grown G89 (by first | omega | (dsimp only [New]; omega))
        replace NX := NX.grown G89 (by first | omega | (dsimp only [New]; omega))
        replace NY := NY.grown G89 (by first | omega | (dsimp only [New]; omega))
        clear RB9
        have RB9 := RQ
        clear RQ hRl G89
        clear hHeld
        have hHeld := And.intro LB5 (LB6)
        refine hK.out _ _ hHeld (fun _ => ?_)
        clear hK K
        try simp only [Act.put]
        refine wpAnyH_take (i := 10) (oi := { dst := some 10, op := Go.Op.assign (Go.Operand.tmp 53), type := 35, pos := "law.go:90", after := #[{ on := 7, ground := Go.Ground.data }, { on := 9, ground := Go.Ground.chain }, { on := 0, ground := Go.Ground.phase }, { on := 1, ground := Go.Ground.phase }, { on := 2, ground := Go.Ground.phase }, { on := 3, ground := Go.Ground.phase }, { on := 4, ground := Go.Ground.phase }, { on := 5, ground := Go.Ground.phase }, { on := 6, ground := Go.Ground.phase }, { on := 7, ground := Go.Ground.phase }, { on := 8, ground := Go.Ground.phase }, { on := 9, ground := Go.Ground.phase }], guard := none }) (v := ?v91) rfl (by kernel_rfl) (by kernel_rfl) (by kernel_rfl) (fun _ _ _ h => h) (Or.inl ⟨by rfl, ?hy91⟩) hHeld ?rest91
        case hy91 => (intro w hSw; (try dsimp only at hSw); go_simp; (first | done | with_reducible rfl))
        try simp only [Act.put, List.setIfInBounds_toArray, List.set_cons_zero, List.set_cons_succ]
        refine wpAnyH_done (by kernel_rfl) ?_ _
        refine J s89 B9 o3 o4 x2 ?_
        exact ⟨by omega, ⟨by omega, by omega⟩, E, LB5, LB6, LB7, LB9, PA.mono (fun _ hi _ => hi), PB.mono (fun _ hi _ => hi), NX.mono (fun _ hi _ => hi), NY.mono (fun _ hi _ => hi)⟩
    case t =>
      intro wJ5 B9 o3 o4 x2 hJ
      clear E LB5 LB6 LB7 PA PB NX
      obtain ⟨z92, ⟨bB9, cB9⟩, E, LB5, LB6, LB7, LB9, PA, PB, NX, NY⟩ := hJ
      try dsimp only
      go_wp2_with fail
      apply joinK6 (F := fun (wJ6 : World) (B11 : Nat) (n1 : Value) (o5 : Value) (n2 : Value) (o6 : Value) (x3 : Value) => wJ5.heap.size ≤ wJ6.heap.size ∧ (wJ5.heap.size ≤ B11 ∧ B11 < wJ6.heap.size) ∧ Ext w wJ6 ∧ Lay 2 wJ6 B5 p ∧ Lay 2 wJ6 B6 q ∧ Lay 8 wJ6 B7 x1 ∧ Lay 8 wJ6 B9 x2 ∧ Lay 8 wJ6 B11 x3 ∧ BitS wJ6 p a (fun i => i < wJ6.heap.size) ∧ BitS wJ6 q b (fun i => i < wJ6.heap.size) ∧ VecS wJ6 x1 (VD.bits X) (fun i => i < wJ6.heap.size) ∧ VecS wJ6 x2 (VD.bits Y) (fun i => i < wJ6.heap.size) ∧ VecS wJ6 x3 (VD.bits Y) (fun i => i < wJ6.heap.size))
      case h =>
        intro J
        try simp only [Act.put, List.setIfInBounds_toArray, List.set_cons_zero, List.set_cons_succ]
        have hq93 : wJ5.heap.size ≤ wJ5.drew.heap.size := Nat.le_refl _
        have z94 := (Ext.refl wJ5).drew.size
        replace E := E.trans (Ext.refl wJ5).drew
        replace LB5 := LB5.ext (Ext.refl wJ5).drew
        replace LB6 := LB6.ext (Ext.refl wJ5).drew
        replace LB7 := LB7.ext (Ext.refl wJ5).drew
        replace LB9 := LB9.ext (Ext.refl wJ5).drew
        replace PA := PA.ext (Ext.refl wJ5).drew
        replace PB := PB.ext (Ext.refl wJ5).drew
        replace NX := NX.ext (Ext.refl wJ5).drew
        replace NY := NY.ext (Ext.refl wJ5).drew
        refine wp_region_held_drew (S := (fun w' => Lay 2 w' B5 p ∧ Lay 2 w' B6 q)) (by kernel_rfl) ⟨LB5, LB6⟩ (fun hHeld => ?_)
        refine wpAnyH_take (i := 0) (oi := { dst := some 55, op := Go.Op.load 26 (Go.Operand.tmp 5), type := 26, pos := "law.go:91", after := #[], guard := none }) (v := p) rfl (by kernel_rfl) (by kernel_rfl) (by kernel_rfl) (fun _ _ _ h => h) (yieldB (by rfl) rfl rfl fun w' hx => hx.1) hHeld ?_
        try simp only [Act.put, List.setIfInBounds_toArray, List.set_cons_zero, List.set_cons_succ]
        refine wpAnyH_take (i := 3) (oi := { dst := some 58, op := Go.Op.load 26 (Go.Operand.tmp 6), type := 26, pos := "law.go:91", after := #[], guard := none }) (v := q) rfl (by kernel_rfl) (by kernel_rfl) (by kernel_rfl) (fun _ _ _ h => h) (yieldB (by rfl) rfl rfl fun w' hx => hx.2) hHeld ?_
        try simp only [Act.put, List.setIfInBounds_toArray, List.set_cons_zero, List.set_cons_succ]
        refine wpAnyH_ready (rs := [1, 10]) (by kernel_rfl) (by simp) ?_
        refine AllReadyH.cons (o := { dst := some 56, op := Go.Op.call { callee := Go.Callee.value (Go.Operand.func 8), args := #[Go.Operand.tmp 55], argTypes := #[26] }, type := 26, pos := "law.go:91", after := #[{ on := 0, ground := Go.Ground.data }], guard := none }) rfl (fun K hK => ?_) (AllReadyH.cons (o := { dst := some 11, op := Go.Op.alloc 34, type := 0, pos := "law.go:91", after := #[], guard := none }) rfl (fun K hK => ?_) (AllReadyH.nil))
        · go_simp
          refine (not_any p a _ PA.is).mono ?_
          rintro e w56 ⟨n1, rfl, hq, x⟩
          have M1 := hq.bs.now
          have Fn1 := M1.is.flat
          clear hq
          have z97 := x.size
          replace E := E.trans x
          replace LB5 := LB5.ext x
          replace LB6 := LB6.ext x
          replace LB7 := LB7.ext x
          replace LB9 := LB9.ext x
          replace PA := PA.ext x
          replace PB := PB.ext x
          replace NX := NX.ext x
          replace NY := NY.ext x
          clear x
          clear hHeld
          have hHeld := And.intro LB5 (LB6)
          refine hK.out _ _ hHeld (fun _ => ?_)
          clear hK K
          try simp only [Act.put, List.setIfInBounds_toArray, List.set_cons_zero, List.set_cons_succ]
          refine wpAnyH_ready (rs := [2, 10]) (by kernel_rfl) (by simp) ?_
          refine AllReadyH.cons (o := { dst := some 57, op := Go.Op.call { callee := Go.Callee.value (Go.Operand.func 7), args := #[Go.Operand.tmp 56], argTypes := #[26] }, type := 34, pos := "law.go:91", after := #[{ on := 1, ground := Go.Ground.data }, { on := 1, ground := Go.Ground.chain }], guard := none }) rfl (fun K hK => ?_) (AllReadyH.cons (o := { dst := some 11, op := Go.Op.alloc 34, type := 0, pos := "law.go:91", after := #[], guard := none }) rfl (fun K hK => ?_) (AllReadyH.nil))
          · go_simp
            refine (VecS.bits_of n1 (notL a) _ M1.is).mono ?_
            rintro e w57 ⟨o5, rfl, hq, x⟩
            have V1 := hq _ M1
            clear M1
            clear hq
            have z98 := x.size
            replace E := E.trans x
            replace LB5 := LB5.ext x
            replace LB6 := LB6.ext x
            replace LB7 := LB7.ext x
            replace LB9 := LB9.ext x
            replace PA := PA.ext x
            replace PB := PB.ext x
            replace NX := NX.ext x
            replace NY := NY.ext x
            clear x
            clear hHeld
            have hHeld := And.intro LB5 (LB6)
            refine hK.out _ _ hHeld (fun _ => ?_)
            clear hK K
            try simp only [Act.put, List.setIfInBounds_toArray, List.set_cons_zero, List.set_cons_succ]
            refine wpAnyH_ready (rs := [4, 10]) (by kernel_rfl) (by simp) ?_
            refine AllReadyH.cons (o := { dst := some 59, op := Go.Op.call { callee := Go.Callee.value (Go.Operand.func 8), args := #[Go.Operand.tmp 58], argTypes := #[26] }, type := 26, pos := "law.go:91", after := #[{ on := 3, ground := Go.Ground.data }, { on := 2, ground := Go.Ground.chain }], guard := none }) rfl (fun K hK => ?_) (AllReadyH.cons (o := { dst := some 11, op := Go.Op.alloc 34, type := 0, pos := "law.go:91", after := #[], guard := none }) rfl (fun K hK => ?_) (AllReadyH.nil))
            · go_simp
              refine (not_any q b _ PB.is).mono ?_
              rintro e w59 ⟨n2, rfl, hq, x⟩
              have M2 := hq.bs.now
              have Fn2 := M2.is.flat
              clear hq
              have z99 := x.size
              replace E := E.trans x
              replace LB5 := LB5.ext x
              replace LB6 := LB6.ext x
              replace LB7 := LB7.ext x
              replace LB9 := LB9.ext x
              replace PA := PA.ext x
              replace PB := PB.ext x
              replace NX := NX.ext x
              replace NY := NY.ext x
              replace V1 := V1.ext x
              clear x
              clear hHeld
              have hHeld := And.intro LB5 (LB6)
              refine hK.out _ _ hHeld (fun _ => ?_)
              clear hK K
              try simp only [Act.put, List.setIfInBounds_toArray, List.set_cons_zero, List.set_cons_succ]
              refine wpAnyH_ready (rs := [5, 10]) (by kernel_rfl) (by simp) ?_
              refine AllReadyH.cons (o := { dst := some 60, op := Go.Op.call { callee := Go.Callee.value (Go.Operand.func 7), args := #[Go.Operand.tmp 59], argTypes := #[26] }, type := 34, pos := "law.go:91", after := #[{ on := 4, ground := Go.Ground.data }, { on := 4, ground := Go.Ground.chain }], guard := none }) rfl (fun K hK => ?_) (AllReadyH.cons (o := { dst := some 11, op := Go.Op.alloc 34, type := 0, pos := "law.go:91", after := #[], guard := none }) rfl (fun K hK => ?_) (AllReadyH.nil))
              · go_simp
                refine (VecS.bits_of n2 (notL b) _ M2.is).mono ?_
                rintro e w60 ⟨o6, rfl, hq, x⟩
                have V2 := hq _ M2
                clear M2
                clear hq
                have z100 := x.size
                replace E := E.trans x
                replace LB5 := LB5.ext x
                replace LB6 := LB6.ext x
                replace LB7 := LB7.ext x
                replace LB9 := LB9.ext x
                replace PA := PA.ext x
                replace PB := PB.ext x
                replace NX := NX.ext x
                replace NY := NY.ext x
                replace V1 := V1.ext x
                clear x
                clear hHeld
                have hHeld := And.intro LB5 (LB6)
                refine hK.out _ _ hHeld (fun _ => ?_)
                clear hK K
                try simp only [Act.put, List.setIfInBounds_toArray, List.set_cons_zero, List.set_cons_succ]
                refine wpAnyH_ready (rs := [6, 10]) (by kernel_rfl) (by simp) ?_
                refine AllReadyH.cons (o := { dst := some 61, op := Go.Op.call { callee := Go.Callee.value (Go.Operand.func 6), args := #[Go.Operand.const (Go.Value.int Go.IntKind.i64 22), Go.Operand.tmp 57, Go.Operand.tmp 60], argTypes := #[3, 34, 34] }, type := 36, pos := "law.go:91", after := #[{ on := 2, ground := Go.Ground.data }, { on := 5, ground := Go.Ground.data }, { on := 5, ground := Go.Ground.chain }], guard := none }) rfl (fun K hK => ?_) (AllReadyH.cons (o := { dst := some 11, op := Go.Op.alloc 34, type := 0, pos := "law.go:91", after := #[], guard := none }) rfl (fun K hK => ?_) (AllReadyH.nil))
                · go_simp
                  refine (c22 _ _ _ V1.is V2.is).mono ?_
                  rintro e w61 ⟨x3, rfl, hq, x⟩
                  clear V1 V2
                  have NZ := hq.now
                  have Fx3 := NZ.is.flat
                  clear hq
                  have z101 := x.size
                  replace E := E.trans x
                  replace LB5 := LB5.ext x
                  replace LB6 := LB6.ext x
                  replace LB7 := LB7.ext x
                  replace LB9 := LB9.ext x
                  replace PA := PA.ext x
                  replace PB := PB.ext x
                  replace NX := NX.ext x
                  replace NY := NY.ext x
                  clear x
                  clear hHeld
                  have hHeld := And.intro LB5 (LB6)
                  refine hK.out _ _ hHeld (fun _ => ?_)
                  clear hK K
                  try simp only [Act.put, List.setIfInBounds_toArray, List.set_cons_zero, List.set_cons_succ]
                  refine wpAnyH_take (i := 7) (oi := { dst := some 54, op := Go.Op.move (Go.Operand.tmp 61), type := 36, pos := "law.go:91", after := #[{ on := 6, ground := Go.Ground.data }], guard := none }) (v := ?v102) rfl (by kernel_rfl) (by kernel_rfl) (by kernel_rfl) (fun _ _ _ h => h) (Or.inl ⟨by rfl, ?hy102⟩) hHeld ?rest102
                  case hy102 => (intro w hSw; (try dsimp only at hSw); go_simp; (first | done | with_reducible rfl))
                  try simp only [Act.put, List.setIfInBounds_toArray, List.set_cons_zero, List.set_cons_succ]
                  refine wpAnyH_take (i := 8) (oi := { dst := some 62, op := Go.Op.extract (Go.Operand.tmp 54) 0, type := 34, pos := "law.go:91", after := #[{ on := 7, ground := Go.Ground.data }], guard := none }) (v := ?v103) rfl (by kernel_rfl) (by kernel_rfl) (by kernel_rfl) (fun _ _ _ h => h) (Or.inl ⟨by rfl, ?hy103⟩) hHeld ?rest103
                  case hy103 => (intro w hSw; (try dsimp only at hSw); go_simp; (first | done | with_reducible rfl))
                  try simp only [Act.put, List.setIfInBounds_toArray, List.set_cons_zero, List.set_cons_succ]
                  refine wpAnyH_take (i := 9) (oi := { dst := some 63, op := Go.Op.extract (Go.Operand.tmp 54) 1, type := 35, pos := "law.go:91", after := #[{ on := 7, ground := Go.Ground.data }, { on := 11, ground := Go.Ground.gcOnly Go.Departure.lateStores }], guard := none }) (v := ?v104) rfl (by kernel_rfl) (by kernel_rfl) (by kernel_rfl) (fun _ _ _ h => h) (Or.inl ⟨by rfl, ?hy104⟩) hHeld ?rest104
                  case hy104 => (intro w hSw; (try dsimp only at hSw); go_simp; (first | done | with_reducible rfl))
                  try simp only [Act.put, List.setIfInBounds_toArray, List.set_cons_zero, List.set_cons_succ]
                  refine wpAnyH_ready (rs := [10]) (by kernel_rfl) (by simp) ?_
                  refine AllReadyH.cons (o := { dst := some 11, op := Go.Op.alloc 34, type := 0, pos := "law.go:91", after := #[], guard := none }) rfl (fun K hK => ?_) (AllReadyH.nil)
                  rw [if_pos (by rfl)]
                  refine allocV rfl ?_
                  intro B11 w11 bB11 cB11 XB11 LB11 RB11
                  have z105 := XB11.size
                  replace E := E.trans XB11
                  replace LB5 := LB5.ext XB11
                  replace LB6 := LB6.ext XB11
                  replace LB7 := LB7.ext XB11
                  replace LB9 := LB9.ext XB11
                  replace PA := PA.ext XB11
                  replace PB := PB.ext XB11
                  replace NX := NX.ext XB11
                  replace NY := NY.ext XB11
                  replace NZ := NZ.ext XB11
                  clear hHeld
                  have hHeld := And.intro LB5 (LB6)
                  refine hK.out _ _ hHeld (fun _ => ?_)
                  clear hK K
                  try simp only [Act.put, List.setIfInBounds_toArray, List.set_cons_zero, List.set_cons_succ]
                  refine wpAnyH_ready (rs := [11]) (by kernel_rfl) (by simp) ?_
                  refine AllReadyH.cons (o := { dst := none, op := Go.Op.store 34 (Go.Operand.tmp 11) (Go.Operand.tmp 62), type := 0, pos := "law.go:91", after := #[{ on := 10, ground := Go.Ground.data }, { on := 8, ground := Go.Ground.data }, { on := 6, ground := Go.Ground.chain }, { on := 0, ground := Go.Ground.phase }, { on := 1, ground := Go.Ground.phase }, { on := 2, ground := Go.Ground.phase }, { on := 3, ground := Go.Ground.phase }, { on := 4, ground := Go.Ground.phase }, { on := 5, ground := Go.Ground.phase }, { on := 6, ground := Go.Ground.phase }, { on := 7, ground := Go.Ground.phase }, { on := 8, ground := Go.Ground.phase }, { on := 9, ground := Go.Ground.textOnly Go.Departure.lateStores }, { on := 10, ground := Go.Ground.phase }], guard := none }) rfl (fun K hK => ?_) (AllReadyH.nil)
                  rw [if_pos (by rfl)]
                  have hRl := (RB11).lt (Nat.zero_lt_succ _)
                  refine storeV (by rfl) (by rfl) (v := x3) (by rfl) RB11 Fx3 ?_
                  clear LB11
                  intro s106 G106 LB11 RQ
                  have z107 := G106.size
                  replace E := grown_ext E G106 (by omega)
                  replace LB5 := LB5.grown G106 (by omega)
                  replace LB6 := LB6.grown G106 (by omega)
                  replace LB7 := LB7.grown G106 (by omega)
                  replace LB9 := LB9.grown G106 (by omega)
                  replace PA := PA.grown G106 (by first | omega | (dsimp only [New]; omega))
                  replace PB := PB.grown G106 (by first | omega | (dsimp only [New]; omega))
                  replace NX := NX.grown G106 (by first | omega | (dsimp only [New]; omega))
                  replace NY := NY.grown G106 (by first | omega | (dsimp only [New]; omega))
                  replace NZ := NZ.grown G106 (by first | omega | (dsimp only [New]; omega))
                  clear RB11
                  have RB11 := RQ
                  clear RQ hRl G106
                  clear hHeld
                  have hHeld := And.intro LB5 (LB6)
                  refine hK.out _ _ hHeld (fun _ => ?_)
                  clear hK K
                  try simp only [Act.put]
                  refine wpAnyH_take (i := 12) (oi := { dst := some 12, op := Go.Op.assign (Go.Operand.tmp 63), type := 35, pos := "law.go:91", after := #[{ on := 9, ground := Go.Ground.data }, { on := 11, ground := Go.Ground.chain }, { on := 0, ground := Go.Ground.phase }, { on := 1, ground := Go.Ground.phase }, { on := 2, ground := Go.Ground.phase }, { on := 3, ground := Go.Ground.phase }, { on := 4, ground := Go.Ground.phase }, { on := 5, ground := Go.Ground.phase }, { on := 6, ground := Go.Ground.phase }, { on := 7, ground := Go.Ground.phase }, { on := 8, ground := Go.Ground.phase }, { on := 9, ground := Go.Ground.phase }, { on := 10, ground := Go.Ground.phase }, { on := 11, ground := Go.Ground.phase }], guard := none }) (v := ?v108) rfl (by kernel_rfl) (by kernel_rfl) (by kernel_rfl) (fun _ _ _ h => h) (Or.inl ⟨by rfl, ?hy108⟩) hHeld ?rest108
                  case hy108 => (intro w hSw; (try dsimp only at hSw); go_simp; (first | done | with_reducible rfl))
                  try simp only [Act.put, List.setIfInBounds_toArray, List.set_cons_zero, List.set_cons_succ]
                  refine wpAnyH_done (by kernel_rfl) ?_ _
                  refine J s106 B11 n1 o5 n2 o6 x3 ?_
                  exact ⟨by omega, ⟨by omega, by omega⟩, E, LB5, LB6, LB7, LB9, LB11, PA.mono (fun _ hi _ => hi), PB.mono (fun _ hi _ => hi), NX.mono (fun _ hi _ => hi), NY.mono (fun _ hi _ => hi), NZ.mono (fun _ hi _ => hi)⟩
                · rw [if_pos (by rfl)]
                  refine allocV rfl ?_
                  intro B11 w11 bB11 cB11 XB11 LB11 RB11
                  have z109 := XB11.size
                  replace E := E.trans XB11
                  replace LB5 := LB5.ext XB11
                  replace LB6 := LB6.ext XB11
                  replace LB7 := LB7.ext XB11
                  replace LB9 := LB9.ext XB11
                  replace PA := PA.ext XB11
                  replace PB := PB.ext XB11
                  replace NX := NX.ext XB11
                  replace NY := NY.ext XB11
                  replace V1 := V1.ext XB11
                  replace V2 := V2.ext XB11
                  clear hHeld
                  have hHeld := And.intro LB5 (LB6)
                  refine hK.out _ _ hHeld (fun _ => ?_)
                  clear hK K
                  try simp only [Act.put, List.setIfInBounds_toArray, List.set_cons_zero, List.set_cons_succ]
                  refine wpAnyH_ready (rs := [6]) (by kernel_rfl) (by simp) ?_
                  refine AllReadyH.cons (o := { dst := some 61, op := Go.Op.call { callee := Go.Callee.value (Go.Operand.func 6), args := #[Go.Operand.const (Go.Value.int Go.IntKind.i64 22), Go.Operand.tmp 57, Go.Operand.tmp 60], argTypes := #[3, 34, 34] }, type := 36, pos := "law.go:91", after := #[{ on := 2, ground := Go.Ground.data }, { on := 5, ground := Go.Ground.data }, { on := 5, ground := Go.Ground.chain }], guard := none }) rfl (fun K hK => ?_) (AllReadyH.nil)
                  go_simp
                  refine (c22 _ _ _ V1.is V2.is).mono ?_
                  rintro e w61 ⟨x3, rfl, hq, x⟩
                  clear V1 V2
                  have NZ := hq.now
                  have Fx3 := NZ.is.flat
                  clear hq
                  have z110 := x.size
                  replace E := E.trans x
                  replace LB5 := LB5.ext x
                  replace LB6 := LB6.ext x
                  replace LB7 := LB7.ext x
                  replace LB9 := LB9.ext x
                  replace PA := PA.ext x
                  replace PB := PB.ext x
                  replace NX := NX.ext x
                  replace NY := NY.ext x
                  replace LB11 := LB11.ext x
                  replace RB11 := RB11.ext x
                  clear x
                  clear hHeld
                  have hHeld := And.intro LB5 (LB6)
                  refine hK.out _ _ hHeld (fun _ => ?_)
                  clear hK K
                  try simp only [Act.put, List.setIfInBounds_toArray, List.set_cons_zero, List.set_cons_succ]
                  refine wpAnyH_take (i := 7) (oi := { dst := some 54, op := Go.Op.move (Go.Operand.tmp 61), type := 36, pos := "law.go:91", after := #[{ on := 6, ground := Go.Ground.data }], guard := none }) (v := ?v111) rfl (by kernel_rfl) (by kernel_rfl) (by kernel_rfl) (fun _ _ _ h => h) (Or.inl ⟨by rfl, ?hy111⟩) hHeld ?rest111
                  case hy111 => (intro w hSw; (try dsimp only at hSw); go_simp; (first | done | with_reducible rfl))
                  try simp only [Act.put, List.setIfInBounds_toArray, List.set_cons_zero, List.set_cons_succ]
                  refine wpAnyH_take (i := 8) (oi := { dst := some 62, op := Go.Op.extract (Go.Operand.tmp 54) 0, type := 34, pos := "law.go:91", after := #[{ on := 7, ground := Go.Ground.data }], guard := none }) (v := ?v112) rfl (by kernel_rfl) (by kernel_rfl) (by kernel_rfl) (fun _ _ _ h => h) (Or.inl ⟨by rfl, ?hy112⟩) hHeld ?rest112
                  case hy112 => (intro w hSw; (try dsimp only at hSw); go_simp; (first | done | with_reducible rfl))
                  try simp only [Act.put, List.setIfInBounds_toArray, List.set_cons_zero, List.set_cons_succ]
                  refine wpAnyH_take (i := 9) (oi := { dst := some 63, op := Go.Op.extract (Go.Operand.tmp 54) 1, type := 35, pos := "law.go:91", after := #[{ on := 7, ground := Go.Ground.data }, { on := 11, ground := Go.Ground.gcOnly Go.Departure.lateStores }], guard := none }) (v := ?v113) rfl (by kernel_rfl) (by kernel_rfl) (by kernel_rfl) (fun _ _ _ h => h) (Or.inl ⟨by rfl, ?hy113⟩) hHeld ?rest113
                  case hy113 => (intro w hSw; (try dsimp only at hSw); go_simp; (first | done | with_reducible rfl))
                  try simp only [Act.put, List.setIfInBounds_toArray, List.set_cons_zero, List.set_cons_succ]
                  refine wpAnyH_ready (rs := [11]) (by kernel_rfl) (by simp) ?_
                  refine AllReadyH.cons (o := { dst := none, op := Go.Op.store 34 (Go.Operand.tmp 11) (Go.Operand.tmp 62), type := 0, pos := "law.go:91", after := #[{ on := 10, ground := Go.Ground.data }, { on := 8, ground := Go.Ground.data }, { on := 6, ground := Go.Ground.chain }, { on := 0, ground := Go.Ground.phase }, { on := 1, ground := Go.Ground.phase }, { on := 2, ground := Go.Ground.phase }, { on := 3, ground := Go.Ground.phase }, { on := 4, ground := Go.Ground.phase }, { on := 5, ground := Go.Ground.phase }, { on := 6, ground := Go.Ground.phase }, { on := 7, ground := Go.Ground.phase }, { on := 8, ground := Go.Ground.phase }, { on := 9, ground := Go.Ground.textOnly Go.Departure.lateStores }, { on := 10, ground := Go.Ground.phase }], guard := none }) rfl (fun K hK => ?_) (AllReadyH.nil)
                  rw [if_pos (by rfl)]
                  have hRl := (RB11).lt (Nat.zero_lt_succ _)
                  refine storeV (by rfl) (by rfl) (v := x3) (by rfl) RB11 Fx3 ?_
                  clear LB11
                  intro s114 G114 LB11 RQ
                  have z115 := G114.size
                  replace E := grown_ext E G114 (by omega)
                  replace LB5 := LB5.grown G114 (by omega)
                  replace LB6 := LB6.grown G114 (by omega)
                  replace LB7 := LB7.grown G114 (by omega)
                  replace LB9 := LB9.grown G114 (by omega)
                  replace PA := PA.grown G114 (by first | omega | (dsimp only [New]; omega))
                  replace PB := PB.grown G114 (by first | omega | (dsimp only [New]; omega))
                  replace NX := NX.grown G114 (by first | omega | (dsimp only [New]; omega))
                  replace NY := NY.grown G114 (by first | omega | (dsimp only [New]; omega))
                  replace NZ := NZ.grown G114 (by first | omega | (dsimp only [New]; omega))
                  clear RB11
                  have RB11 := RQ
                  clear RQ hRl G114
                  clear hHeld
                  have hHeld := And.intro LB5 (LB6)
                  refine hK.out _ _ hHeld (fun _ => ?_)
                  clear hK K
                  try simp only [Act.put]
                  refine wpAnyH_take (i := 12) (oi := { dst := some 12, op := Go.Op.assign (Go.Operand.tmp 63), type := 35, pos := "law.go:91", after := #[{ on := 9, ground := Go.Ground.data }, { on := 11, ground := Go.Ground.chain }, { on := 0, ground := Go.Ground.phase }, { on := 1, ground := Go.Ground.phase }, { on := 2, ground := Go.Ground.phase }, { on := 3, ground := Go.Ground.phase }, { on := 4, ground := Go.Ground.phase }, { on := 5, ground := Go.Ground.phase }, { on := 6, ground := Go.Ground.phase }, { on := 7, ground := Go.Ground.phase }, { on := 8, ground := Go.Ground.phase }, { on := 9, ground := Go.Ground.phase }, { on := 10, ground := Go.Ground.phase }, { on := 11, ground := Go.Ground.phase }], guard := none }) (v := ?v116) rfl (by kernel_rfl) (by kernel_rfl) (by kernel_rfl) (fun _ _ _ h => h) (Or.inl ⟨by rfl, ?hy116⟩) hHeld ?rest116
                  case hy116 => (intro w hSw; (try dsimp only at hSw); go_simp; (first | done | with_reducible rfl))
                  try simp only [Act.put, List.setIfInBounds_toArray, List.set_cons_zero, List.set_cons_succ]
                  refine wpAnyH_done (by kernel_rfl) ?_ _
                  refine J s114 B11 n1 o5 n2 o6 x3 ?_
                  exact ⟨by omega, ⟨by omega, by omega⟩, E, LB5, LB6, LB7, LB9, LB11, PA.mono (fun _ hi _ => hi), PB.mono (fun _ hi _ => hi), NX.mono (fun _ hi _ => hi), NY.mono (fun _ hi _ => hi), NZ.mono (fun _ hi _ => hi)⟩
              · rw [if_pos (by rfl)]
                refine allocV rfl ?_
                intro B11 w11 bB11 cB11 XB11 LB11 RB11
                have z117 := XB11.size
                replace E := E.trans XB11
                replace LB5 := LB5.ext XB11
                replace LB6 := LB6.ext XB11
                replace LB7 := LB7.ext XB11
                replace LB9 := LB9.ext XB11
                replace PA := PA.ext XB11
                replace PB := PB.ext XB11
                replace NX := NX.ext XB11
                replace NY := NY.ext XB11
                replace V1 := V1.ext XB11
                replace M2 := M2.ext XB11
                clear hHeld
                have hHeld := And.intro LB5 (LB6)
                refine hK.out _ _ hHeld (fun _ => ?_)
                clear hK K
                try simp only [Act.put, List.setIfInBounds_toArray, List.set_cons_zero, List.set_cons_succ]
                refine wpAnyH_ready (rs := [5]) (by kernel_rfl) (by simp) ?_
                refine AllReadyH.cons (o := { dst := some 60, op := Go.Op.call { callee := Go.Callee.value (Go.Operand.func 7), args := #[Go.Operand.tmp 59], argTypes := #[26] }, type := 34, pos := "law.go:91", after := #[{ on := 4, ground := Go.Ground.data }, { on := 4, ground := Go.Ground.chain }], guard := none }) rfl (fun K hK => ?_) (AllReadyH.nil)
                go_simp
                refine (VecS.bits_of n2 (notL b) _ M2.is).mono ?_
                rintro e w60 ⟨o6, rfl, hq, x⟩
                have V2 := hq _ M2
                clear M2
                clear hq
                have z118 := x.size
                replace E := E.trans x
                replace LB5 := LB5.ext x
                replace LB6 := LB6.ext x
                replace LB7 := LB7.ext x
                replace LB9 := LB9.ext x
                replace PA := PA.ext x
                replace PB := PB.ext x
                replace NX := NX.ext x
                replace NY := NY.ext x
                replace V1 := V1.ext x
                replace LB11 := LB11.ext x
                replace RB11 := RB11.ext x
                clear x
                clear hHeld
                have hHeld := And.intro LB5 (LB6)
                refine hK.out _ _ hHeld (fun _ => ?_)
                clear hK K
                try simp only [Act.put, List.setIfInBounds_toArray, List.set_cons_zero, List.set_cons_succ]
                refine wpAnyH_ready (rs := [6]) (by kernel_rfl) (by simp) ?_
                refine AllReadyH.cons (o := { dst := some 61, op := Go.Op.call { callee := Go.Callee.value (Go.Operand.func 6), args := #[Go.Operand.const (Go.Value.int Go.IntKind.i64 22), Go.Operand.tmp 57, Go.Operand.tmp 60], argTypes := #[3, 34, 34] }, type := 36, pos := "law.go:91", after := #[{ on := 2, ground := Go.Ground.data }, { on := 5, ground := Go.Ground.data }, { on := 5, ground := Go.Ground.chain }], guard := none }) rfl (fun K hK => ?_) (AllReadyH.nil)
                go_simp
                refine (c22 _ _ _ V1.is V2.is).mono ?_
                rintro e w61 ⟨x3, rfl, hq, x⟩
                clear V1 V2
                have NZ := hq.now
                have Fx3 := NZ.is.flat
                clear hq
                have z119 := x.size
                replace E := E.trans x
                replace LB5 := LB5.ext x
                replace LB6 := LB6.ext x
                replace LB7 := LB7.ext x
                replace LB9 := LB9.ext x
                replace PA := PA.ext x
                replace PB := PB.ext x
                replace NX := NX.ext x
                replace NY := NY.ext x
                replace LB11 := LB11.ext x
                replace RB11 := RB11.ext x
                clear x
                clear hHeld
                have hHeld := And.intro LB5 (LB6)
                refine hK.out _ _ hHeld (fun _ => ?_)
                clear hK K
                try simp only [Act.put, List.setIfInBounds_toArray, List.set_cons_zero, List.set_cons_succ]
                refine wpAnyH_take (i := 7) (oi := { dst := some 54, op := Go.Op.move (Go.Operand.tmp 61), type := 36, pos := "law.go:91", after := #[{ on := 6, ground := Go.Ground.data }], guard := none }) (v := ?v120) rfl (by kernel_rfl) (by kernel_rfl) (by kernel_rfl) (fun _ _ _ h => h) (Or.inl ⟨by rfl, ?hy120⟩) hHeld ?rest120
                case hy120 => (intro w hSw; (try dsimp only at hSw); go_simp; (first | done | with_reducible rfl))
                try simp only [Act.put, List.setIfInBounds_toArray, List.set_cons_zero, List.set_cons_succ]
                refine wpAnyH_take (i := 8) (oi := { dst := some 62, op := Go.Op.extract (Go.Operand.tmp 54) 0, type := 34, pos := "law.go:91", after := #[{ on := 7, ground := Go.Ground.data }], guard := none }) (v := ?v121) rfl (by kernel_rfl) (by kernel_rfl) (by kernel_rfl) (fun _ _ _ h => h) (Or.inl ⟨by rfl, ?hy121⟩) hHeld ?rest121
                case hy121 => (intro w hSw; (try dsimp only at hSw); go_simp; (first | done | with_reducible rfl))
                try simp only [Act.put, List.setIfInBounds_toArray, List.set_cons_zero, List.set_cons_succ]
                refine wpAnyH_take (i := 9) (oi := { dst := some 63, op := Go.Op.extract (Go.Operand.tmp 54) 1, type := 35, pos := "law.go:91", after := #[{ on := 7, ground := Go.Ground.data }, { on := 11, ground := Go.Ground.gcOnly Go.Departure.lateStores }], guard := none }) (v := ?v122) rfl (by kernel_rfl) (by kernel_rfl) (by kernel_rfl) (fun _ _ _ h => h) (Or.inl ⟨by rfl, ?hy122⟩) hHeld ?rest122
                case hy122 => (intro w hSw; (try dsimp only at hSw); go_simp; (first | done | with_reducible rfl))
                try simp only [Act.put, List.setIfInBounds_toArray, List.set_cons_zero, List.set_cons_succ]
                refine wpAnyH_ready (rs := [11]) (by kernel_rfl) (by simp) ?_
                refine AllReadyH.cons (o := { dst := none, op := Go.Op.store 34 (Go.Operand.tmp 11) (Go.Operand.tmp 62), type := 0, pos := "law.go:91", after := #[{ on := 10, ground := Go.Ground.data }, { on := 8, ground := Go.Ground.data }, { on := 6, ground := Go.Ground.chain }, { on := 0, ground := Go.Ground.phase }, { on := 1, ground := Go.Ground.phase }, { on := 2, ground := Go.Ground.phase }, { on := 3, ground := Go.Ground.phase }, { on := 4, ground := Go.Ground.phase }, { on := 5, ground := Go.Ground.phase }, { on := 6, ground := Go.Ground.phase }, { on := 7, ground := Go.Ground.phase }, { on := 8, ground := Go.Ground.phase }, { on := 9, ground := Go.Ground.textOnly Go.Departure.lateStores }, { on := 10, ground := Go.Ground.phase }], guard := none }) rfl (fun K hK => ?_) (AllReadyH.nil)
                rw [if_pos (by rfl)]
                have hRl := (RB11).lt (Nat.zero_lt_succ _)
                refine storeV (by rfl) (by rfl) (v := x3) (by rfl) RB11 Fx3 ?_
                clear LB11
                intro s123 G123 LB11 RQ
                have z124 := G123.size
                replace E := grown_ext E G123 (by omega)
                replace LB5 := LB5.grown G123 (by omega)
                replace LB6 := LB6.grown G123 (by omega)
                replace LB7 := LB7.grown G123 (by omega)
                replace LB9 := LB9.grown G123 (by omega)
                replace PA := PA.grown G123 (by first | omega | (dsimp only [New]; omega))
                replace PB := PB.grown G123 (by first | omega | (dsimp only [New]; omega))
                replace NX := NX.grown G123 (by first | omega | (dsimp only [New]; omega))
                replace NY := NY.grown G123 (by first | omega | (dsimp only [New]; omega))
                replace NZ := NZ.grown G123 (by first | omega | (dsimp only [New]; omega))
                clear RB11
                have RB11 := RQ
                clear RQ hRl G123
                clear hHeld
                have hHeld := And.intro LB5 (LB6)
                refine hK.out _ _ hHeld (fun _ => ?_)
                clear hK K
                try simp only [Act.put]
                refine wpAnyH_take (i := 12) (oi := { dst := some 12, op := Go.Op.assign (Go.Operand.tmp 63), type := 35, pos := "law.go:91", after := #[{ on := 9, ground := Go.Ground.data }, { on := 11, ground := Go.Ground.chain }, { on := 0, ground := Go.Ground.phase }, { on := 1, ground := Go.Ground.phase }, { on := 2, ground := Go.Ground.phase }, { on := 3, ground := Go.Ground.phase }, { on := 4, ground := Go.Ground.phase }, { on := 5, ground := Go.Ground.phase }, { on := 6, ground := Go.Ground.phase }, { on := 7, ground := Go.Ground.phase }, { on := 8, ground := Go.Ground.phase }, { on := 9, ground := Go.Ground.phase }, { on := 10, ground := Go.Ground.phase }, { on := 11, ground := Go.Ground.phase }], guard := none }) (v := ?v125) rfl (by kernel_rfl) (by kernel_rfl) (by kernel_rfl) (fun _ _ _ h => h) (Or.inl ⟨by rfl, ?hy125⟩) hHeld ?rest125
                case hy125 => (intro w hSw; (try dsimp only at hSw); go_simp; (first | done | with_reducible rfl))
                try simp only [Act.put, List.setIfInBounds_toArray, List.set_cons_zero, List.set_cons_succ]
                refine wpAnyH_done (by kernel_rfl) ?_ _
                refine J s123 B11 n1 o5 n2 o6 x3 ?_
                exact ⟨by omega, ⟨by omega, by omega⟩, E, LB5, LB6, LB7, LB9, LB11, PA.mono (fun _ hi _ => hi), PB.mono (fun _ hi _ => hi), NX.mono (fun _ hi _ => hi), NY.mono (fun _ hi _ => hi), NZ.mono (fun _ hi _ => hi)⟩
            · rw [if_pos (by rfl)]
              refine allocV rfl ?_
              intro B11 w11 bB11 cB11 XB11 LB11 RB11
              have z126 := XB11.size
              replace E := E.trans XB11
              replace LB5 := LB5.ext XB11
              replace LB6 := LB6.ext XB11
              replace LB7 := LB7.ext XB11
              replace LB9 := LB9.ext XB11
              replace PA := PA.ext XB11
              replace PB := PB.ext XB11
              replace NX := NX.ext XB11
              replace NY := NY.ext XB11
              replace V1 := V1.ext XB11
              clear hHeld
              have hHeld := And.intro LB5 (LB6)
              refine hK.out _ _ hHeld (fun _ => ?_)
              clear hK K
              try simp only [Act.put, List.setIfInBounds_toArray, List.set_cons_zero, List.set_cons_succ]
              refine wpAnyH_ready (rs := [4]) (by kernel_rfl) (by simp) ?_
              refine AllReadyH.cons (o := { dst := some 59, op := Go.Op.call { callee := Go.Callee.value (Go.Operand.func 8), args := #[Go.Operand.tmp 58], argTypes := #[26] }, type := 26, pos := "law.go:91", after := #[{ on := 3, ground := Go.Ground.data }, { on := 2, ground := Go.Ground.chain }], guard := none }) rfl (fun K hK => ?_) (AllReadyH.nil)
              go_simp
              refine (not_any q b _ PB.is).mono ?_
              rintro e w59 ⟨n2, rfl, hq, x⟩
              have M2 := hq.bs.now
              have Fn2 := M2.is.flat
              clear hq
              have z127 := x.size
              replace E := E.trans x
              replace LB5 := LB5.ext x
              replace LB6 := LB6.ext x
              replace LB7 := LB7.ext x
              replace LB9 := LB9.ext x
              replace PA := PA.ext x
              replace PB := PB.ext x
              replace NX := NX.ext x
              replace NY := NY.ext x
              replace V1 := V1.ext x
              replace LB11 := LB11.ext x
              replace RB11 := RB11.ext x
              clear x
              clear hHeld
              have hHeld := And.intro LB5 (LB6)
              refine hK.out _ _ hHeld (fun _ => ?_)
              clear hK K
              try simp only [Act.put, List.setIfInBounds_toArray, List.set_cons_zero, List.set_cons_succ]
              refine wpAnyH_ready (rs := [5]) (by kernel_rfl) (by simp) ?_
              refine AllReadyH.cons (o := { dst := some 60, op := Go.Op.call { callee := Go.Callee.value (Go.Operand.func 7), args := #[Go.Operand.tmp 59], argTypes := #[26] }, type := 34, pos := "law.go:91", after := #[{ on := 4, ground := Go.Ground.data }, { on := 4, ground := Go.Ground.chain }], guard := none }) rfl (fun K hK => ?_) (AllReadyH.nil)
              go_simp
              refine (VecS.bits_of n2 (notL b) _ M2.is).mono ?_
              rintro e w60 ⟨o6, rfl, hq, x⟩
              have V2 := hq _ M2
              clear M2
              clear hq
              have z128 := x.size
              replace E := E.trans x
              replace LB5 := LB5.ext x
              replace LB6 := LB6.ext x
              replace LB7 := LB7.ext x
              replace LB9 := LB9.ext x
              replace PA := PA.ext x
              replace PB := PB.ext x
              replace NX := NX.ext x
              replace NY := NY.ext x
              replace V1 := V1.ext x
              replace LB11 := LB11.ext x
              replace RB11 := RB11.ext x
              clear x
              clear hHeld
              have hHeld := And.intro LB5 (LB6)
              refine hK.out _ _ hHeld (fun _ => ?_)
              clear hK K
              try simp only [Act.put, List.setIfInBounds_toArray, List.set_cons_zero, List.set_cons_succ]
              refine wpAnyH_ready (rs := [6]) (by kernel_rfl) (by simp) ?_
              refine AllReadyH.cons (o := { dst := some 61, op := Go.Op.call { callee := Go.Callee.value (Go.Operand.func 6), args := #[Go.Operand.const (Go.Value.int Go.IntKind.i64 22), Go.Operand.tmp 57, Go.Operand.tmp 60], argTypes := #[3, 34, 34] }, type := 36, pos := "law.go:91", after := #[{ on := 2, ground := Go.Ground.data }, { on := 5, ground := Go.Ground.data }, { on := 5, ground := Go.Ground.chain }], guard := none }) rfl (fun K hK => ?_) (AllReadyH.nil)
              go_simp
              refine (c22 _ _ _ V1.is V2.is).mono ?_
              rintro e w61 ⟨x3, rfl, hq, x⟩
              clear V1 V2
              have NZ := hq.now
              have Fx3 := NZ.is.flat
              clear hq
              have z129 := x.size
              replace E := E.trans x
              replace LB5 := LB5.ext x
              replace LB6 := LB6.ext x
              replace LB7 := LB7.ext x
              replace LB9 := LB9.ext x
              replace PA := PA.ext x
              replace PB := PB.ext x
              replace NX := NX.ext x
              replace NY := NY.ext x
              replace LB11 := LB11.ext x
              replace RB11 := RB11.ext x
              clear x
              clear hHeld
              have hHeld := And.intro LB5 (LB6)
              refine hK.out _ _ hHeld (fun _ => ?_)
              clear hK K
              try simp only [Act.put, List.setIfInBounds_toArray, List.set_cons_zero, List.set_cons_succ]
              refine wpAnyH_take (i := 7) (oi := { dst := some 54, op := Go.Op.move (Go.Operand.tmp 61), type := 36, pos := "law.go:91", after := #[{ on := 6, ground := Go.Ground.data }], guard := none }) (v := ?v130) rfl (by kernel_rfl) (by kernel_rfl) (by kernel_rfl) (fun _ _ _ h => h) (Or.inl ⟨by rfl, ?hy130⟩) hHeld ?rest130
              case hy130 => (intro w hSw; (try dsimp only at hSw); go_simp; (first | done | with_reducible rfl))
              try simp only [Act.put, List.setIfInBounds_toArray, List.set_cons_zero, List.set_cons_succ]
              refine wpAnyH_take (i := 8) (oi := { dst := some 62, op := Go.Op.extract (Go.Operand.tmp 54) 0, type := 34, pos := "law.go:91", after := #[{ on := 7, ground := Go.Ground.data }], guard := none }) (v := ?v131) rfl (by kernel_rfl) (by kernel_rfl) (by kernel_rfl) (fun _ _ _ h => h) (Or.inl ⟨by rfl, ?hy131⟩) hHeld ?rest131
              case hy131 => (intro w hSw; (try dsimp only at hSw); go_simp; (first | done | with_reducible rfl))
              try simp only [Act.put, List.setIfInBounds_toArray, List.set_cons_zero, List.set_cons_succ]
              refine wpAnyH_take (i := 9) (oi := { dst := some 63, op := Go.Op.extract (Go.Operand.tmp 54) 1, type := 35, pos := "law.go:91", after := #[{ on := 7, ground := Go.Ground.data }, { on := 11, ground := Go.Ground.gcOnly Go.Departure.lateStores }], guard := none }) (v := ?v132) rfl (by kernel_rfl) (by kernel_rfl) (by kernel_rfl) (fun _ _ _ h => h) (Or.inl ⟨by rfl, ?hy132⟩) hHeld ?rest132
              case hy132 => (intro w hSw; (try dsimp only at hSw); go_simp; (first | done | with_reducible rfl))
              try simp only [Act.put, List.setIfInBounds_toArray, List.set_cons_zero, List.set_cons_succ]
              refine wpAnyH_ready (rs := [11]) (by kernel_rfl) (by simp) ?_
              refine AllReadyH.cons (o := { dst := none, op := Go.Op.store 34 (Go.Operand.tmp 11) (Go.Operand.tmp 62), type := 0, pos := "law.go:91", after := #[{ on := 10, ground := Go.Ground.data }, { on := 8, ground := Go.Ground.data }, { on := 6, ground := Go.Ground.chain }, { on := 0, ground := Go.Ground.phase }, { on := 1, ground := Go.Ground.phase }, { on := 2, ground := Go.Ground.phase }, { on := 3, ground := Go.Ground.phase }, { on := 4, ground := Go.Ground.phase }, { on := 5, ground := Go.Ground.phase }, { on := 6, ground := Go.Ground.phase }, { on := 7, ground := Go.Ground.phase }, { on := 8, ground := Go.Ground.phase }, { on := 9, ground := Go.Ground.textOnly Go.Departure.lateStores }, { on := 10, ground := Go.Ground.phase }], guard := none }) rfl (fun K hK => ?_) (AllReadyH.nil)
              rw [if_pos (by rfl)]
              have hRl := (RB11).lt (Nat.zero_lt_succ _)
              refine storeV (by rfl) (by rfl) (v := x3) (by rfl) RB11 Fx3 ?_
              clear LB11
              intro s133 G133 LB11 RQ
              have z134 := G133.size
              replace E := grown_ext E G133 (by omega)
              replace LB5 := LB5.grown G133 (by omega)
              replace LB6 := LB6.grown G133 (by omega)
              replace LB7 := LB7.grown G133 (by omega)
              replace LB9 := LB9.grown G133 (by omega)
              replace PA := PA.grown G133 (by first | omega | (dsimp only [New]; omega))
              replace PB := PB.grown G133 (by first | omega | (dsimp only [New]; omega))
              replace NX := NX.grown G133 (by first | omega | (dsimp only [New]; omega))
              replace NY := NY.grown G133 (by first | omega | (dsimp only [New]; omega))
              replace NZ := NZ.grown G133 (by first | omega | (dsimp only [New]; omega))
              clear RB11
              have RB11 := RQ
              clear RQ hRl G133
              clear hHeld
              have hHeld := And.intro LB5 (LB6)
              refine hK.out _ _ hHeld (fun _ => ?_)
              clear hK K
              try simp only [Act.put]
              refine wpAnyH_take (i := 12) (oi := { dst := some 12, op := Go.Op.assign (Go.Operand.tmp 63), type := 35, pos := "law.go:91", after := #[{ on := 9, ground := Go.Ground.data }, { on := 11, ground := Go.Ground.chain }, { on := 0, ground := Go.Ground.phase }, { on := 1, ground := Go.Ground.phase }, { on := 2, ground := Go.Ground.phase }, { on := 3, ground := Go.Ground.phase }, { on := 4, ground := Go.Ground.phase }, { on := 5, ground := Go.Ground.phase }, { on := 6, ground := Go.Ground.phase }, { on := 7, ground := Go.Ground.phase }, { on := 8, ground := Go.Ground.phase }, { on := 9, ground := Go.Ground.phase }, { on := 10, ground := Go.Ground.phase }, { on := 11, ground := Go.Ground.phase }], guard := none }) (v := ?v135) rfl (by kernel_rfl) (by kernel_rfl) (by kernel_rfl) (fun _ _ _ h => h) (Or.inl ⟨by rfl, ?hy135⟩) hHeld ?rest135
              case hy135 => (intro w hSw; (try dsimp only at hSw); go_simp; (first | done | with_reducible rfl))
              try simp only [Act.put, List.setIfInBounds_toArray, List.set_cons_zero, List.set_cons_succ]
              refine wpAnyH_done (by kernel_rfl) ?_ _
              refine J s133 B11 n1 o5 n2 o6 x3 ?_
              exact ⟨by omega, ⟨by omega, by omega⟩, E, LB5, LB6, LB7, LB9, LB11, PA.mono (fun _ hi _ => hi), PB.mono (fun _ hi _ => hi), NX.mono (fun _ hi _ => hi), NY.mono (fun _ hi _ => hi), NZ.mono (fun _ hi _ => hi)⟩
          · rw [if_pos (by rfl)]
            refine allocV rfl ?_
            intro B11 w11 bB11 cB11 XB11 LB11 RB11
            have z136 := XB11.size
            replace E := E.trans XB11
            replace LB5 := LB5.ext XB11
            replace LB6 := LB6.ext XB11
            replace LB7 := LB7.ext XB11
            replace LB9 := LB9.ext XB11
            replace PA := PA.ext XB11
            replace PB := PB.ext XB11
            replace NX := NX.ext XB11
            replace NY := NY.ext XB11
            replace M1 := M1.ext XB11
            clear hHeld
            have hHeld := And.intro LB5 (LB6)
            refine hK.out _ _ hHeld (fun _ => ?_)
            clear hK K
            try simp only [Act.put, List.setIfInBounds_toArray, List.set_cons_zero, List.set_cons_succ]
            refine wpAnyH_ready (rs := [2]) (by kernel_rfl) (by simp) ?_
            refine AllReadyH.cons (o := { dst := some 57, op := Go.Op.call { callee := Go.Callee.value (Go.Operand.func 7), args := #[Go.Operand.tmp 56], argTypes := #[26] }, type := 34, pos := "law.go:91", after := #[{ on := 1, ground := Go.Ground.data }, { on := 1, ground := Go.Ground.chain }], guard := none }) rfl (fun K hK => ?_) (AllReadyH.nil)
            go_simp
            refine (VecS.bits_of n1 (notL a) _ M1.is).mono ?_
            rintro e w57 ⟨o5, rfl, hq, x⟩
            have V1 := hq _ M1
            clear M1
            clear hq
            have z137 := x.size
            replace E := E.trans x
            replace LB5 := LB5.ext x
            replace LB6 := LB6.ext x
            replace LB7 := LB7.ext x
            replace LB9 := LB9.ext x
            replace PA := PA.ext x
            replace PB := PB.ext x
            replace NX := NX.ext x
            replace NY := NY.ext x
            replace LB11 := LB11.ext x
            replace RB11 := RB11.ext x
            clear x
            clear hHeld
            have hHeld := And.intro LB5 (LB6)
            refine hK.out _ _ hHeld (fun _ => ?_)
            clear hK K
            try simp only [Act.put, List.setIfInBounds_toArray, List.set_cons_zero, List.set_cons_succ]
            refine wpAnyH_ready (rs := [4]) (by kernel_rfl) (by simp) ?_
            refine AllReadyH.cons (o := { dst := some 59, op := Go.Op.call { callee := Go.Callee.value (Go.Operand.func 8), args := #[Go.Operand.tmp 58], argTypes := #[26] }, type := 26, pos := "law.go:91", after := #[{ on := 3, ground := Go.Ground.data }, { on := 2, ground := Go.Ground.chain }], guard := none }) rfl (fun K hK => ?_) (AllReadyH.nil)
            go_simp
            refine (not_any q b _ PB.is).mono ?_
            rintro e w59 ⟨n2, rfl, hq, x⟩
            have M2 := hq.bs.now
            have Fn2 := M2.is.flat
            clear hq
            have z138 := x.size
            replace E := E.trans x
            replace LB5 := LB5.ext x
            replace LB6 := LB6.ext x
            replace LB7 := LB7.ext x
            replace LB9 := LB9.ext x
            replace PA := PA.ext x
            replace PB := PB.ext x
            replace NX := NX.ext x
            replace NY := NY.ext x
            replace LB11 := LB11.ext x
            replace RB11 := RB11.ext x
            replace V1 := V1.ext x
            clear x
            clear hHeld
            have hHeld := And.intro LB5 (LB6)
            refine hK.out _ _ hHeld (fun _ => ?_)
            clear hK K
            try simp only [Act.put, List.setIfInBounds_toArray, List.set_cons_zero, List.set_cons_succ]
            refine wpAnyH_ready (rs := [5]) (by kernel_rfl) (by simp) ?_
            refine AllReadyH.cons (o := { dst := some 60, op := Go.Op.call { callee := Go.Callee.value (Go.Operand.func 7), args := #[Go.Operand.tmp 59], argTypes := #[26] }, type := 34, pos := "law.go:91", after := #[{ on := 4, ground := Go.Ground.data }, { on := 4, ground := Go.Ground.chain }], guard := none }) rfl (fun K hK => ?_) (AllReadyH.nil)
            go_simp
            refine (VecS.bits_of n2 (notL b) _ M2.is).mono ?_
            rintro e w60 ⟨o6, rfl, hq, x⟩
            have V2 := hq _ M2
            clear M2
            clear hq
            have z139 := x.size
            replace E := E.trans x
            replace LB5 := LB5.ext x
            replace LB6 := LB6.ext x
            replace LB7 := LB7.ext x
            replace LB9 := LB9.ext x
            replace PA := PA.ext x
            replace PB := PB.ext x
            replace NX := NX.ext x
            replace NY := NY.ext x
            replace LB11 := LB11.ext x
            replace RB11 := RB11.ext x
            replace V1 := V1.ext x
            clear x
            clear hHeld
            have hHeld := And.intro LB5 (LB6)
            refine hK.out _ _ hHeld (fun _ => ?_)
            clear hK K
            try simp only [Act.put, List.setIfInBounds_toArray, List.set_cons_zero, List.set_cons_succ]
            refine wpAnyH_ready (rs := [6]) (by kernel_rfl) (by simp) ?_
            refine AllReadyH.cons (o := { dst := some 61, op := Go.Op.call { callee := Go.Callee.value (Go.Operand.func 6), args := #[Go.Operand.const (Go.Value.int Go.IntKind.i64 22), Go.Operand.tmp 57, Go.Operand.tmp 60], argTypes := #[3, 34, 34] }, type := 36, pos := "law.go:91", after := #[{ on := 2, ground := Go.Ground.data }, { on := 5, ground := Go.Ground.data }, { on := 5, ground := Go.Ground.chain }], guard := none }) rfl (fun K hK => ?_) (AllReadyH.nil)
            go_simp
            refine (c22 _ _ _ V1.is V2.is).mono ?_
            rintro e w61 ⟨x3, rfl, hq, x⟩
            clear V1 V2
            have NZ := hq.now
            have Fx3 := NZ.is.flat
            clear hq
            have z140 := x.size
            replace E := E.trans x
            replace LB5 := LB5.ext x
            replace LB6 := LB6.ext x
            replace LB7 := LB7.ext x
            replace LB9 := LB9.ext x
            replace PA := PA.ext x
            replace PB := PB.ext x
            replace NX := NX.ext x
            replace NY := NY.ext x
            replace LB11 := LB11.ext x
            replace RB11 := RB11.ext x
            clear x
            clear hHeld
            have hHeld := And.intro LB5 (LB6)
            refine hK.out _ _ hHeld (fun _ => ?_)
            clear hK K
            try simp only [Act.put, List.setIfInBounds_toArray, List.set_cons_zero, List.set_cons_succ]
            refine wpAnyH_take (i := 7) (oi := { dst := some 54, op := Go.Op.move (Go.Operand.tmp 61), type := 36, pos := "law.go:91", after := #[{ on := 6, ground := Go.Ground.data }], guard := none }) (v := ?v141) rfl (by kernel_rfl) (by kernel_rfl) (by kernel_rfl) (fun _ _ _ h => h) (Or.inl ⟨by rfl, ?hy141⟩) hHeld ?rest141
            case hy141 => (intro w hSw; (try dsimp only at hSw); go_simp; (first | done | with_reducible rfl))
            try simp only [Act.put, List.setIfInBounds_toArray, List.set_cons_zero, List.set_cons_succ]
            refine wpAnyH_take (i := 8) (oi := { dst := some 62, op := Go.Op.extract (Go.Operand.tmp 54) 0, type := 34, pos := "law.go:91", after := #[{ on := 7, ground := Go.Ground.data }], guard := none }) (v := ?v142) rfl (by kernel_rfl) (by kernel_rfl) (by kernel_rfl) (fun _ _ _ h => h) (Or.inl ⟨by rfl, ?hy142⟩) hHeld ?rest142
            case hy142 => (intro w hSw; (try dsimp only at hSw); go_simp; (first | done | with_reducible rfl))
            try simp only [Act.put, List.setIfInBounds_toArray, List.set_cons_zero, List.set_cons_succ]
            refine wpAnyH_take (i := 9) (oi := { dst := some 63, op := Go.Op.extract (Go.Operand.tmp 54) 1, type := 35, pos := "law.go:91", after := #[{ on := 7, ground := Go.Ground.data }, { on := 11, ground := Go.Ground.gcOnly Go.Departure.lateStores }], guard := none }) (v := ?v143) rfl (by kernel_rfl) (by kernel_rfl) (by kernel_rfl) (fun _ _ _ h => h) (Or.inl ⟨by rfl, ?hy143⟩) hHeld ?rest143
            case hy143 => (intro w hSw; (try dsimp only at hSw); go_simp; (first | done | with_reducible rfl))
            try simp only [Act.put, List.setIfInBounds_toArray, List.set_cons_zero, List.set_cons_succ]
            refine wpAnyH_ready (rs := [11]) (by kernel_rfl) (by simp) ?_
            refine AllReadyH.cons (o := { dst := none, op := Go.Op.store 34 (Go.Operand.tmp 11) (Go.Operand.tmp 62), type := 0, pos := "law.go:91", after := #[{ on := 10, ground := Go.Ground.data }, { on := 8, ground := Go.Ground.data }, { on := 6, ground := Go.Ground.chain }, { on := 0, ground := Go.Ground.phase }, { on := 1, ground := Go.Ground.phase }, { on := 2, ground := Go.Ground.phase }, { on := 3, ground := Go.Ground.phase }, { on := 4, ground := Go.Ground.phase }, { on := 5, ground := Go.Ground.phase }, { on := 6, ground := Go.Ground.phase }, { on := 7, ground := Go.Ground.phase }, { on := 8, ground := Go.Ground.phase }, { on := 9, ground := Go.Ground.textOnly Go.Departure.lateStores }, { on := 10, ground := Go.Ground.phase }], guard := none }) rfl (fun K hK => ?_) (AllReadyH.nil)
            rw [if_pos (by rfl)]
            have hRl := (RB11).lt (Nat.zero_lt_succ _)
            refine storeV (by rfl) (by rfl) (v := x3) (by rfl) RB11 Fx3 ?_
            clear LB11
            intro s144 G144 LB11 RQ
            have z145 := G144.size
            replace E := grown_ext E G144 (by omega)
            replace LB5 := LB5.grown G144 (by omega)
            replace LB6 := LB6.grown G144 (by omega)
            replace LB7 := LB7.grown G144 (by omega)
            replace LB9 := LB9.grown G144 (by omega)
            replace PA := PA.grown G144 (by first | omega | (dsimp only [New]; omega))
            replace PB := PB.grown G144 (by first | omega | (dsimp only [New]; omega))
            replace NX := NX.grown G144 (by first | omega | (dsimp only [New]; omega))
            replace NY := NY.grown G144 (by first | omega | (dsimp only [New]; omega))
            replace NZ := NZ.grown G144 (by first | omega | (dsimp only [New]; omega))
            clear RB11
            have RB11 := RQ
            clear RQ hRl G144
            clear hHeld
            have hHeld := And.intro LB5 (LB6)
            refine hK.out _ _ hHeld (fun _ => ?_)
            clear hK K
            try simp only [Act.put]
            refine wpAnyH_take (i := 12) (oi := { dst := some 12, op := Go.Op.assign (Go.Operand.tmp 63), type := 35, pos := "law.go:91", after := #[{ on := 9, ground := Go.Ground.data }, { on := 11, ground := Go.Ground.chain }, { on := 0, ground := Go.Ground.phase }, { on := 1, ground := Go.Ground.phase }, { on := 2, ground := Go.Ground.phase }, { on := 3, ground := Go.Ground.phase }, { on := 4, ground := Go.Ground.phase }, { on := 5, ground := Go.Ground.phase }, { on := 6, ground := Go.Ground.phase }, { on := 7, ground := Go.Ground.phase }, { on := 8, ground := Go.Ground.phase }, { on := 9, ground := Go.Ground.phase }, { on := 10, ground := Go.Ground.phase }, { on := 11, ground := Go.Ground.phase }], guard := none }) (v := ?v146) rfl (by kernel_rfl) (by kernel_rfl) (by kernel_rfl) (fun _ _ _ h => h) (Or.inl ⟨by rfl, ?hy146⟩) hHeld ?rest146
            case hy146 => (intro w hSw; (try dsimp only at hSw); go_simp; (first | done | with_reducible rfl))
            try simp only [Act.put, List.setIfInBounds_toArray, List.set_cons_zero, List.set_cons_succ]
            refine wpAnyH_done (by kernel_rfl) ?_ _
            refine J s144 B11 n1 o5 n2 o6 x3 ?_
            exact ⟨by omega, ⟨by omega, by omega⟩, E, LB5, LB6, LB7, LB9, LB11, PA.mono (fun _ hi _ => hi), PB.mono (fun _ hi _ => hi), NX.mono (fun _ hi _ => hi), NY.mono (fun _ hi _ => hi), NZ.mono (fun _ hi _ => hi)⟩
        · rw [if_pos (by rfl)]
          refine allocV rfl ?_
          intro B11 w11 bB11 cB11 XB11 LB11 RB11
          have z147 := XB11.size
          replace E := E.trans XB11
          replace LB5 := LB5.ext XB11
          replace LB6 := LB6.ext XB11
          replace LB7 := LB7.ext XB11
          replace LB9 := LB9.ext XB11
          replace PA := PA.ext XB11
          replace PB := PB.ext XB11
          replace NX := NX.ext XB11
          replace NY := NY.ext XB11
          clear hHeld
          have hHeld := And.intro LB5 (LB6)
          refine hK.out _ _ hHeld (fun _ => ?_)
          clear hK K
          try simp only [Act.put, List.setIfInBounds_toArray, List.set_cons_zero, List.set_cons_succ]
          refine wpAnyH_ready (rs := [1]) (by kernel_rfl) (by simp) ?_
          refine AllReadyH.cons (o := { dst := some 56, op := Go.Op.call { callee := Go.Callee.value (Go.Operand.func 8), args := #[Go.Operand.tmp 55], argTypes := #[26] }, type := 26, pos := "law.go:91", after := #[{ on := 0, ground := Go.Ground.data }], guard := none }) rfl (fun K hK => ?_) (AllReadyH.nil)
          go_simp
          refine (not_any p a _ PA.is).mono ?_
          rintro e w56 ⟨n1, rfl, hq, x⟩
          have M1 := hq.bs.now
          have Fn1 := M1.is.flat
          clear hq
          have z148 := x.size
          replace E := E.trans x
          replace LB5 := LB5.ext x
          replace LB6 := LB6.ext x
          replace LB7 := LB7.ext x
          replace LB9 := LB9.ext x
          replace PA := PA.ext x
          replace PB := PB.ext x
          replace NX := NX.ext x
          replace NY := NY.ext x
          replace LB11 := LB11.ext x
          replace RB11 := RB11.ext x
          clear x
          clear hHeld
          have hHeld := And.intro LB5 (LB6)
          refine hK.out _ _ hHeld (fun _ => ?_)
          clear hK K
          try simp only [Act.put, List.setIfInBounds_toArray, List.set_cons_zero, List.set_cons_succ]
          refine wpAnyH_ready (rs := [2]) (by kernel_rfl) (by simp) ?_
          refine AllReadyH.cons (o := { dst := some 57, op := Go.Op.call { callee := Go.Callee.value (Go.Operand.func 7), args := #[Go.Operand.tmp 56], argTypes := #[26] }, type := 34, pos := "law.go:91", after := #[{ on := 1, ground := Go.Ground.data }, { on := 1, ground := Go.Ground.chain }], guard := none }) rfl (fun K hK => ?_) (AllReadyH.nil)
          go_simp
          refine (VecS.bits_of n1 (notL a) _ M1.is).mono ?_
          rintro e w57 ⟨o5, rfl, hq, x⟩
          have V1 := hq _ M1
          clear M1
          clear hq
          have z149 := x.size
          replace E := E.trans x
          replace LB5 := LB5.ext x
          replace LB6 := LB6.ext x
          replace LB7 := LB7.ext x
          replace LB9 := LB9.ext x
          replace PA := PA.ext x
          replace PB := PB.ext x
          replace NX := NX.ext x
          replace NY := NY.ext x
          replace LB11 := LB11.ext x
          replace RB11 := RB11.ext x
          clear x
          clear hHeld
          have hHeld := And.intro LB5 (LB6)
          refine hK.out _ _ hHeld (fun _ => ?_)
          clear hK K
          try simp only [Act.put, List.setIfInBounds_toArray, List.set_cons_zero, List.set_cons_succ]
          refine wpAnyH_ready (rs := [4]) (by kernel_rfl) (by simp) ?_
          refine AllReadyH.cons (o := { dst := some 59, op := Go.Op.call { callee := Go.Callee.value (Go.Operand.func 8), args := #[Go.Operand.tmp 58], argTypes := #[26] }, type := 26, pos := "law.go:91", after := #[{ on := 3, ground := Go.Ground.data }, { on := 2, ground := Go.Ground.chain }], guard := none }) rfl (fun K hK => ?_) (AllReadyH.nil)
          go_simp
          refine (not_any q b _ PB.is).mono ?_
          rintro e w59 ⟨n2, rfl, hq, x⟩
          have M2 := hq.bs.now
          have Fn2 := M2.is.flat
          clear hq
          have z150 := x.size
          replace E := E.trans x
          replace LB5 := LB5.ext x
          replace LB6 := LB6.ext x
          replace LB7 := LB7.ext x
          replace LB9 := LB9.ext x
          replace PA := PA.ext x
          replace PB := PB.ext x
          replace NX := NX.ext x
          replace NY := NY.ext x
          replace LB11 := LB11.ext x
          replace RB11 := RB11.ext x
          replace V1 := V1.ext x
          clear x
          clear hHeld
          have hHeld := And.intro LB5 (LB6)
          refine hK.out _ _ hHeld (fun _ => ?_)
          clear hK K
          try simp only [Act.put, List.setIfInBounds_toArray, List.set_cons_zero, List.set_cons_succ]
          refine wpAnyH_ready (rs := [5]) (by kernel_rfl) (by simp) ?_
          refine AllReadyH.cons (o := { dst := some 60, op := Go.Op.call { callee := Go.Callee.value (Go.Operand.func 7), args := #[Go.Operand.tmp 59], argTypes := #[26] }, type := 34, pos := "law.go:91", after := #[{ on := 4, ground := Go.Ground.data }, { on := 4, ground := Go.Ground.chain }], guard := none }) rfl (fun K hK => ?_) (AllReadyH.nil)
          go_simp
          refine (VecS.bits_of n2 (notL b) _ M2.is).mono ?_
          rintro e w60 ⟨o6, rfl, hq, x⟩
          have V2 := hq _ M2
          clear M2
          clear hq
          have z151 := x.size
          replace E := E.trans x
          replace LB5 := LB5.ext x
          replace LB6 := LB6.ext x
          replace LB7 := LB7.ext x
          replace LB9 := LB9.ext x
          replace PA := PA.ext x
          replace PB := PB.ext x
          replace NX := NX.ext x
          replace NY := NY.ext x
          replace LB11 := LB11.ext x
          replace RB11 := RB11.ext x
          replace V1 := V1.ext x
          clear x
          clear hHeld
          have hHeld := And.intro LB5 (LB6)
          refine hK.out _ _ hHeld (fun _ => ?_)
          clear hK K
          try simp only [Act.put, List.setIfInBounds_toArray, List.set_cons_zero, List.set_cons_succ]
          refine wpAnyH_ready (rs := [6]) (by kernel_rfl) (by simp) ?_
          refine AllReadyH.cons (o := { dst := some 61, op := Go.Op.call { callee := Go.Callee.value (Go.Operand.func 6), args := #[Go.Operand.const (Go.Value.int Go.IntKind.i64 22), Go.Operand.tmp 57, Go.Operand.tmp 60], argTypes := #[3, 34, 34] }, type := 36, pos := "law.go:91", after := #[{ on := 2, ground := Go.Ground.data }, { on := 5, ground := Go.Ground.data }, { on := 5, ground := Go.Ground.chain }], guard := none }) rfl (fun K hK => ?_) (AllReadyH.nil)
          go_simp
          refine (c22 _ _ _ V1.is V2.is).mono ?_
          rintro e w61 ⟨x3, rfl, hq, x⟩
          clear V1 V2
          have NZ := hq.now
          have Fx3 := NZ.is.flat
          clear hq
          have z152 := x.size
          replace E := E.trans x
          replace LB5 := LB5.ext x
          replace LB6 := LB6.ext x
          replace LB7 := LB7.ext x
          replace LB9 := LB9.ext x
          replace PA := PA.ext x
          replace PB := PB.ext x
          replace NX := NX.ext x
          replace NY := NY.ext x
          replace LB11 := LB11.ext x
          replace RB11 := RB11.ext x
          clear x
          clear hHeld
          have hHeld := And.intro LB5 (LB6)
          refine hK.out _ _ hHeld (fun _ => ?_)
          clear hK K
          try simp only [Act.put, List.setIfInBounds_toArray, List.set_cons_zero, List.set_cons_succ]
          refine wpAnyH_take (i := 7) (oi := { dst := some 54, op := Go.Op.move (Go.Operand.tmp 61), type := 36, pos := "law.go:91", after := #[{ on := 6, ground := Go.Ground.data }], guard := none }) (v := ?v153) rfl (by kernel_rfl) (by kernel_rfl) (by kernel_rfl) (fun _ _ _ h => h) (Or.inl ⟨by rfl, ?hy153⟩) hHeld ?rest153
          case hy153 => (intro w hSw; (try dsimp only at hSw); go_simp; (first | done | with_reducible rfl))
          try simp only [Act.put, List.setIfInBounds_toArray, List.set_cons_zero, List.set_cons_succ]
          refine wpAnyH_take (i := 8) (oi := { dst := some 62, op := Go.Op.extract (Go.Operand.tmp 54) 0, type := 34, pos := "law.go:91", after := #[{ on := 7, ground := Go.Ground.data }], guard := none }) (v := ?v154) rfl (by kernel_rfl) (by kernel_rfl) (by kernel_rfl) (fun _ _ _ h => h) (Or.inl ⟨by rfl, ?hy154⟩) hHeld ?rest154
          case hy154 => (intro w hSw; (try dsimp only at hSw); go_simp; (first | done | with_reducible rfl))
          try simp only [Act.put, List.setIfInBounds_toArray, List.set_cons_zero, List.set_cons_succ]
          refine wpAnyH_take (i := 9) (oi := { dst := some 63, op := Go.Op.extract (Go.Operand.tmp 54) 1, type := 35, pos := "law.go:91", after := #[{ on := 7, ground := Go.Ground.data }, { on := 11, ground := Go.Ground.gcOnly Go.Departure.lateStores }], guard := none }) (v := ?v155) rfl (by kernel_rfl) (by kernel_rfl) (by kernel_rfl) (fun _ _ _ h => h) (Or.inl ⟨by rfl, ?hy155⟩) hHeld ?rest155
          case hy155 => (intro w hSw; (try dsimp only at hSw); go_simp; (first | done | with_reducible rfl))
          try simp only [Act.put, List.setIfInBounds_toArray, List.set_cons_zero, List.set_cons_succ]
          refine wpAnyH_ready (rs := [11]) (by kernel_rfl) (by simp) ?_
          refine AllReadyH.cons (o := { dst := none, op := Go.Op.store 34 (Go.Operand.tmp 11) (Go.Operand.tmp 62), type := 0, pos := "law.go:91", after := #[{ on := 10, ground := Go.Ground.data }, { on := 8, ground := Go.Ground.data }, { on := 6, ground := Go.Ground.chain }, { on := 0, ground := Go.Ground.phase }, { on := 1, ground := Go.Ground.phase }, { on := 2, ground := Go.Ground.phase }, { on := 3, ground := Go.Ground.phase }, { on := 4, ground := Go.Ground.phase }, { on := 5, ground := Go.Ground.phase }, { on := 6, ground := Go.Ground.phase }, { on := 7, ground := Go.Ground.phase }, { on := 8, ground := Go.Ground.phase }, { on := 9, ground := Go.Ground.textOnly Go.Departure.lateStores }, { on := 10, ground := Go.Ground.phase }], guard := none }) rfl (fun K hK => ?_) (AllReadyH.nil)
          rw [if_pos (by rfl)]
          have hRl := (RB11).lt (Nat.zero_lt_succ _)
          refine storeV (by rfl) (by rfl) (v := x3) (by rfl) RB11 Fx3 ?_
          clear LB11
          intro s156 G156 LB11 RQ
          have z157 := G156.size
          replace E := grown_ext E G156 (by omega)
          replace LB5 := LB5.grown G156 (by omega)
          replace LB6 := LB6.grown G156 (by omega)
          replace LB7 := LB7.grown G156 (by omega)
          replace LB9 := LB9.grown G156 (by omega)
          replace PA := PA.grown G156 (by first | omega | (dsimp only [New]; omega))
          replace PB := PB.grown G156 (by first | omega | (dsimp only [New]; omega))
          replace NX := NX.grown G156 (by first | omega | (dsimp only [New]; omega))
          replace NY := NY.grown G156 (by first | omega | (dsimp only [New]; omega))
          replace NZ := NZ.grown G156 (by first | omega | (dsimp only [New]; omega))
          clear RB11
          have RB11 := RQ
          clear RQ hRl G156
          clear hHeld
          have hHeld := And.intro LB5 (LB6)
          refine hK.out _ _ hHeld (fun _ => ?_)
          clear hK K
          try simp only [Act.put]
          refine wpAnyH_take (i := 12) (oi := { dst := some 12, op := Go.Op.assign (Go.Operand.tmp 63), type := 35, pos := "law.go:91", after := #[{ on := 9, ground := Go.Ground.data }, { on := 11, ground := Go.Ground.chain }, { on := 0, ground := Go.Ground.phase }, { on := 1, ground := Go.Ground.phase }, { on := 2, ground := Go.Ground.phase }, { on := 3, ground := Go.Ground.phase }, { on := 4, ground := Go.Ground.phase }, { on := 5, ground := Go.Ground.phase }, { on := 6, ground := Go.Ground.phase }, { on := 7, ground := Go.Ground.phase }, { on := 8, ground := Go.Ground.phase }, { on := 9, ground := Go.Ground.phase }, { on := 10, ground := Go.Ground.phase }, { on := 11, ground := Go.Ground.phase }], guard := none }) (v := ?v158) rfl (by kernel_rfl) (by kernel_rfl) (by kernel_rfl) (fun _ _ _ h => h) (Or.inl ⟨by rfl, ?hy158⟩) hHeld ?rest158
          case hy158 => (intro w hSw; (try dsimp only at hSw); go_simp; (first | done | with_reducible rfl))
          try simp only [Act.put, List.setIfInBounds_toArray, List.set_cons_zero, List.set_cons_succ]
          refine wpAnyH_done (by kernel_rfl) ?_ _
          refine J s156 B11 n1 o5 n2 o6 x3 ?_
          exact ⟨by omega, ⟨by omega, by omega⟩, E, LB5, LB6, LB7, LB9, LB11, PA.mono (fun _ hi _ => hi), PB.mono (fun _ hi _ => hi), NX.mono (fun _ hi _ => hi), NY.mono (fun _ hi _ => hi), NZ.mono (fun _ hi _ => hi)⟩
      case t =>
        intro wJ6 B11 n1 o5 n2 o6 x3 hJ
        clear E LB5 LB6 LB7 LB9 PA PB NX NY
        obtain ⟨z159, ⟨bB11, cB11⟩, E, LB5, LB6, LB7, LB9, LB11, PA, PB, NX, NY, NZ⟩ := hJ
        try dsimp only
        go_wp2_with fail
        apply joinK6 (F := fun (wJ7 : World) (B13 : Nat) (n3 : Value) (o7 : Value) (n4 : Value) (o8 : Value) (x4 : Value) => wJ6.heap.size ≤ wJ7.heap.size ∧ (wJ6.heap.size ≤ B13 ∧ B13 < wJ7.heap.size) ∧ Ext w wJ7 ∧ Lay 2 wJ7 B5 p ∧ Lay 8 wJ7 B7 x1 ∧ Lay 8 wJ7 B9 x2 ∧ Lay 8 wJ7 B11 x3 ∧ Lay 8 wJ7 B13 x4 ∧ BitS wJ7 p a (fun i => i < wJ7.heap.size) ∧ BitS wJ7 q b (fun i => i < wJ7.heap.size) ∧ VecS wJ7 x1 (VD.bits X) (fun i => i < wJ7.heap.size) ∧ VecS wJ7 x2 (VD.bits Y) (fun i => i < wJ7.heap.size) ∧ VecS wJ7 x3 (VD.bits Y) (fun i => i < wJ7.heap.size) ∧ VecS wJ7 x4 (VD.bits X) (fun i => i < wJ7.heap.size))
        case h =>
          intro J
          try simp only [Act.put, List.setIfInBounds_toArray, List.set_cons_zero, List.set_cons_succ]
          have hq160 : wJ6.heap.size ≤ wJ6.drew.heap.size := Nat.le_refl _
          have z161 := (Ext.refl wJ6).drew.size
          replace E := E.trans (Ext.refl wJ6).drew
          replace LB5 := LB5.ext (Ext.refl wJ6).drew
          replace LB6 := LB6.ext (Ext.refl wJ6).drew
          replace LB7 := LB7.ext (Ext.refl wJ6).drew
          replace LB9 := LB9.ext (Ext.refl wJ6).drew
          replace LB11 := LB11.ext (Ext.refl wJ6).drew
          replace PA := PA.ext (Ext.refl wJ6).drew
          replace PB := PB.ext (Ext.refl wJ6).drew
          replace NX := NX.ext (Ext.refl wJ6).drew
          replace NY := NY.ext (Ext.refl wJ6).drew
          replace NZ := NZ.ext (Ext.refl wJ6).drew
          refine wp_region_held_drew (S := (fun w' => Lay 2 w' B5 p ∧ Lay 2 w' B6 q)) (by kernel_rfl) ⟨LB5, LB6⟩ (fun hHeld => ?_)
          refine wpAnyH_take (i := 0) (oi := { dst := some 65, op := Go.Op.load 26 (Go.Operand.tmp 5), type := 26, pos := "law.go:92", after := #[], guard := none }) (v := p) rfl (by kernel_rfl) (by kernel_rfl) (by kernel_rfl) (fun _ _ _ h => h) (yieldB (by rfl) rfl rfl fun w' hx => hx.1) hHeld ?_
          try simp only [Act.put, List.setIfInBounds_toArray, List.set_cons_zero, List.set_cons_succ]
          refine wpAnyH_take (i := 3) (oi := { dst := some 68, op := Go.Op.load 26 (Go.Operand.tmp 6), type := 26, pos := "law.go:92", after := #[], guard := none }) (v := q) rfl (by kernel_rfl) (by kernel_rfl) (by kernel_rfl) (fun _ _ _ h => h) (yieldB (by rfl) rfl rfl fun w' hx => hx.2) hHeld ?_
          try simp only [Act.put, List.setIfInBounds_toArray, List.set_cons_zero, List.set_cons_succ]
          refine wpAnyH_ready (rs := [1, 10]) (by kernel_rfl) (by simp) ?_
          refine AllReadyH.cons (o := { dst := some 66, op := Go.Op.call { callee := Go.Callee.value (Go.Operand.func 8), args := #[Go.Operand.tmp 65], argTypes := #[26] }, type := 26, pos := "law.go:92", after := #[{ on := 0, ground := Go.Ground.data }], guard := none }) rfl (fun K hK => ?_) (AllReadyH.cons (o := { dst := some 13, op := Go.Op.alloc 34, type := 0, pos := "law.go:92", after := #[], guard := none }) rfl (fun K hK => ?_) (AllReadyH.nil))
          · go_simp
            refine (not_any p a _ PA.is).mono ?_
            rintro e w66 ⟨n3, rfl, hq, x⟩
            have M1 := hq.bs.now
            have Fn3 := M1.is.flat
            clear hq
            have z164 := x.size
            replace E := E.trans x
            replace LB5 := LB5.ext x
            replace LB6 := LB6.ext x
            replace LB7 := LB7.ext x
            replace LB9 := LB9.ext x
            replace LB11 := LB11.ext x
            replace PA := PA.ext x
            replace PB := PB.ext x
            replace NX := NX.ext x
            replace NY := NY.ext x
            replace NZ := NZ.ext x
            clear x
            clear hHeld
            have hHeld := And.intro LB5 (LB6)
            refine hK.out _ _ hHeld (fun _ => ?_)
            clear hK K
            try simp only [Act.put, List.setIfInBounds_toArray, List.set_cons_zero, List.set_cons_succ]
            refine wpAnyH_ready (rs := [2, 10]) (by kernel_rfl) (by simp) ?_
            refine AllReadyH.cons (o := { dst := some 67, op := Go.Op.call { callee := Go.Callee.value (Go.Operand.func 7), args := #[Go.Operand.tmp 66], argTypes := #[26] }, type := 34, pos := "law.go:92", after := #[{ on := 1, ground := Go.Ground.data }, { on := 1, ground := Go.Ground.chain }], guard := none }) rfl (fun K hK => ?_) (AllReadyH.cons (o := { dst := some 13, op := Go.Op.alloc 34, type := 0, pos := "law.go:92", after := #[], guard := none }) rfl (fun K hK => ?_) (AllReadyH.nil))
            · go_simp
              refine (VecS.bits_of n3 (notL a) _ M1.is).mono ?_
              rintro e w67 ⟨o7, rfl, hq, x⟩
              have V1 := hq _ M1
              clear M1
              clear hq
              have z165 := x.size
              replace E := E.trans x
              replace LB5 := LB5.ext x
              replace LB6 := LB6.ext x
              replace LB7 := LB7.ext x
              replace LB9 := LB9.ext x
              replace LB11 := LB11.ext x
              replace PA := PA.ext x
              replace PB := PB.ext x
              replace NX := NX.ext x
              replace NY := NY.ext x
              replace NZ := NZ.ext x
              clear x
              clear hHeld
              have hHeld := And.intro LB5 (LB6)
              refine hK.out _ _ hHeld (fun _ => ?_)
              clear hK K
              try simp only [Act.put, List.setIfInBounds_toArray, List.set_cons_zero, List.set_cons_succ]
              refine wpAnyH_ready (rs := [4, 10]) (by kernel_rfl) (by simp) ?_
              refine AllReadyH.cons (o := { dst := some 69, op := Go.Op.call { callee := Go.Callee.value (Go.Operand.func 8), args := #[Go.Operand.tmp 68], argTypes := #[26] }, type := 26, pos := "law.go:92", after := #[{ on := 3, ground := Go.Ground.data }, { on := 2, ground := Go.Ground.chain }], guard := none }) rfl (fun K hK => ?_) (AllReadyH.cons (o := { dst := some 13, op := Go.Op.alloc 34, type := 0, pos := "law.go:92", after := #[], guard := none }) rfl (fun K hK => ?_) (AllReadyH.nil))
              · go_simp
                refine (not_any q b _ PB.is).mono ?_
                rintro e w69 ⟨n4, rfl, hq, x⟩
                have M2 := hq.bs.now
                have Fn4 := M2.is.flat
                clear hq
                have z166 := x.size
                replace E := E.trans x
                replace LB5 := LB5.ext x
                replace LB6 := LB6.ext x
                replace LB7 := LB7.ext x
                replace LB9 := LB9.ext x
                replace LB11 := LB11.ext x
                replace PA := PA.ext x
                replace PB := PB.ext x
                replace NX := NX.ext x
                replace NY := NY.ext x
                replace NZ := NZ.ext x
                replace V1 := V1.ext x
                clear x
                clear hHeld
                have hHeld := And.intro LB5 (LB6)
                refine hK.out _ _ hHeld (fun _ => ?_)
                clear hK K
                try simp only [Act.put, List.setIfInBounds_toArray, List.set_cons_zero, List.set_cons_succ]
                refine wpAnyH_ready (rs := [5, 10]) (by kernel_rfl) (by simp) ?_
                refine AllReadyH.cons (o := { dst := some 70, op := Go.Op.call { callee := Go.Callee.value (Go.Operand.func 7), args := #[Go.Operand.tmp 69], argTypes := #[26] }, type := 34, pos := "law.go:92", after := #[{ on := 4, ground := Go.Ground.data }, { on := 4, ground := Go.Ground.chain }], guard := none }) rfl (fun K hK => ?_) (AllReadyH.cons (o := { dst := some 13, op := Go.Op.alloc 34, type := 0, pos := "law.go:92", after := #[], guard := none }) rfl (fun K hK => ?_) (AllReadyH.nil))
                · go_simp
                  refine (VecS.bits_of n4 (notL b) _ M2.is).mono ?_
                  rintro e w70 ⟨o8, rfl, hq, x⟩
                  have V2 := hq _ M2
                  clear M2
                  clear hq
                  have z167 := x.size
                  replace E := E.trans x
                  replace LB5 := LB5.ext x
                  replace LB6 := LB6.ext x
                  replace LB7 := LB7.ext x
                  replace LB9 := LB9.ext x
                  replace LB11 := LB11.ext x
                  replace PA := PA.ext x
                  replace PB := PB.ext x
                  replace NX := NX.ext x
                  replace NY := NY.ext x
                  replace NZ := NZ.ext x
                  replace V1 := V1.ext x
                  clear x
                  clear hHeld
                  have hHeld := And.intro LB5 (LB6)
                  refine hK.out _ _ hHeld (fun _ => ?_)
                  clear hK K
                  try simp only [Act.put, List.setIfInBounds_toArray, List.set_cons_zero, List.set_cons_succ]
                  refine wpAnyH_ready (rs := [6, 10]) (by kernel_rfl) (by simp) ?_
                  refine AllReadyH.cons (o := { dst := some 71, op := Go.Op.call { callee := Go.Callee.value (Go.Operand.func 6), args := #[Go.Operand.const (Go.Value.int Go.IntKind.i64 24), Go.Operand.tmp 67, Go.Operand.tmp 70], argTypes := #[3, 34, 34] }, type := 36, pos := "law.go:92", after := #[{ on := 2, ground := Go.Ground.data }, { on := 5, ground := Go.Ground.data }, { on := 5, ground := Go.Ground.chain }], guard := none }) rfl (fun K hK => ?_) (AllReadyH.cons (o := { dst := some 13, op := Go.Op.alloc 34, type := 0, pos := "law.go:92", after := #[], guard := none }) rfl (fun K hK => ?_) (AllReadyH.nil))
                  · go_simp
                    refine (c24 _ _ _ V1.is V2.is).mono ?_
                    rintro e w71 ⟨x4, rfl, hq, x⟩
                    clear V1 V2
                    have NW := hq.now
                    have Fx4 := NW.is.flat
                    clear hq
                    have z168 := x.size
                    replace E := E.trans x
                    replace LB5 := LB5.ext x
                    replace LB6 := LB6.ext x
                    replace LB7 := LB7.ext x
                    replace LB9 := LB9.ext x
                    replace LB11 := LB11.ext x
                    replace PA := PA.ext x
                    replace PB := PB.ext x
                    replace NX := NX.ext x
                    replace NY := NY.ext x
                    replace NZ := NZ.ext x
                    clear x
                    clear hHeld
                    have hHeld := And.intro LB5 (LB6)
                    refine hK.out _ _ hHeld (fun _ => ?_)
                    clear hK K
                    try simp only [Act.put, List.setIfInBounds_toArray, List.set_cons_zero, List.set_cons_succ]
                    refine wpAnyH_take (i := 7) (oi := { dst := some 64, op := Go.Op.move (Go.Operand.tmp 71), type := 36, pos := "law.go:92", after := #[{ on := 6, ground := Go.Ground.data }], guard := none }) (v := ?v169) rfl (by kernel_rfl) (by kernel_rfl) (by kernel_rfl) (fun _ _ _ h => h) (Or.inl ⟨by rfl, ?hy169⟩) hHeld ?rest169
                    case hy169 => (intro w hSw; (try dsimp only at hSw); go_simp; (first | done | with_reducible rfl))
                    try simp only [Act.put, List.setIfInBounds_toArray, List.set_cons_zero, List.set_cons_succ]
                    refine wpAnyH_take (i := 8) (oi := { dst := some 72, op := Go.Op.extract (Go.Operand.tmp 64) 0, type := 34, pos := "law.go:92", after := #[{ on := 7, ground := Go.Ground.data }], guard := none }) (v := ?v170) rfl (by kernel_rfl) (by kernel_rfl) (by kernel_rfl) (fun _ _ _ h => h) (Or.inl ⟨by rfl, ?hy170⟩) hHeld ?rest170
                    case hy170 => (intro w hSw; (try dsimp only at hSw); go_simp; (first | done | with_reducible rfl))
                    try simp only [Act.put, List.setIfInBounds_toArray, List.set_cons_zero, List.set_cons_succ]
                    refine wpAnyH_take (i := 9) (oi := { dst := some 73, op := Go.Op.extract (Go.Operand.tmp 64) 1, type := 35, pos := "law.go:92", after := #[{ on := 7, ground := Go.Ground.data }, { on := 11, ground := Go.Ground.gcOnly Go.Departure.lateStores }], guard := none }) (v := ?v171) rfl (by kernel_rfl) (by kernel_rfl) (by kernel_rfl) (fun _ _ _ h => h) (Or.inl ⟨by rfl, ?hy171⟩) hHeld ?rest171
                    case hy171 => (intro w hSw; (try dsimp only at hSw); go_simp; (first | done | with_reducible rfl))
                    try simp only [Act.put, List.setIfInBounds_toArray, List.set_cons_zero, List.set_cons_succ]
                    refine wpAnyH_ready (rs := [10]) (by kernel_rfl) (by simp) ?_
                    refine AllReadyH.cons (o := { dst := some 13, op := Go.Op.alloc 34, type := 0, pos := "law.go:92", after := #[], guard := none }) rfl (fun K hK => ?_) (AllReadyH.nil)
                    rw [if_pos (by rfl)]
                    refine allocV rfl ?_
                    intro B13 w13 bB13 cB13 XB13 LB13 RB13
                    have z172 := XB13.size
                    replace E := E.trans XB13
                    replace LB5 := LB5.ext XB13
                    replace LB6 := LB6.ext XB13
                    replace LB7 := LB7.ext XB13
                    replace LB9 := LB9.ext XB13
                    replace LB11 := LB11.ext XB13
                    replace PA := PA.ext XB13
                    replace PB := PB.ext XB13
                    replace NX := NX.ext XB13
                    replace NY := NY.ext XB13
                    replace NZ := NZ.ext XB13
                    replace NW := NW.ext XB13
                    clear hHeld
                    have hHeld := And.intro LB5 (LB6)
                    refine hK.out _ _ hHeld (fun _ => ?_)
                    clear hK K
                    try simp only [Act.put, List.setIfInBounds_toArray, List.set_cons_zero, List.set_cons_succ]
                    refine wpAnyH_ready (rs := [11]) (by kernel_rfl) (by simp) ?_
                    refine AllReadyH.cons (o := { dst := none, op := Go.Op.store 34 (Go.Operand.tmp 13) (Go.Operand.tmp 72), type := 0, pos := "law.go:92", after := #[{ on := 10, ground := Go.Ground.data }, { on := 8, ground := Go.Ground.data }, { on := 6, ground := Go.Ground.chain }, { on := 0, ground := Go.Ground.phase }, { on := 1, ground := Go.Ground.phase }, { on := 2, ground := Go.Ground.phase }, { on := 3, ground := Go.Ground.phase }, { on := 4, ground := Go.Ground.phase }, { on := 5, ground := Go.Ground.phase }, { on := 6, ground := Go.Ground.phase }, { on := 7, ground := Go.Ground.phase }, { on := 8, ground := Go.Ground.phase }, { on := 9, ground := Go.Ground.textOnly Go.Departure.lateStores }, { on := 10, ground := Go.Ground.phase }], guard := none }) rfl (fun K hK => ?_) (AllReadyH.nil)
                    rw [if_pos (by rfl)]
                    have hRl := (RB13).lt (Nat.zero_lt_succ _)
                    refine storeV (by rfl) (by rfl) (v := x4) (by rfl) RB13 Fx4 ?_
                    clear LB13
                    intro s173 G173 LB13 RQ
                    have z174 := G173.size
                    replace E := grown_ext E G173 (by omega)
                    replace LB5 := LB5.grown G173 (by omega)
                    replace LB6 := LB6.grown G173 (by omega)
                    replace LB7 := LB7.grown G173 (by omega)
                    replace LB9 := LB9.grown G173 (by omega)
                    replace LB11 := LB11.grown G173 (by omega)
                    replace PA := PA.grown G173 (by first | omega | (dsimp only [New]; omega))
                    replace PB := PB.grown G173 (by first | omega | (dsimp only [New]; omega))
                    replace NX := NX.grown G173 (by first | omega | (dsimp only [New]; omega))
                    replace NY := NY.grown G173 (by first | omega | (dsimp only [New]; omega))
                    replace NZ := NZ.grown G173 (by first | omega | (dsimp only [New]; omega))
                    replace NW := NW.grown G173 (by first | omega | (dsimp only [New]; omega))
                    clear RB13
                    have RB13 := RQ
                    clear RQ hRl G173
                    clear hHeld
                    have hHeld := And.intro LB5 (LB6)
                    refine hK.out _ _ hHeld (fun _ => ?_)
                    clear hK K
                    try simp only [Act.put]
                    refine wpAnyH_take (i := 12) (oi := { dst := some 14, op := Go.Op.assign (Go.Operand.tmp 73), type := 35, pos := "law.go:92", after := #[{ on := 9, ground := Go.Ground.data }, { on := 11, ground := Go.Ground.chain }, { on := 0, ground := Go.Ground.phase }, { on := 1, ground := Go.Ground.phase }, { on := 2, ground := Go.Ground.phase }, { on := 3, ground := Go.Ground.phase }, { on := 4, ground := Go.Ground.phase }, { on := 5, ground := Go.Ground.phase }, { on := 6, ground := Go.Ground.phase }, { on := 7, ground := Go.Ground.phase }, { on := 8, ground := Go.Ground.phase }, { on := 9, ground := Go.Ground.phase }, { on := 10, ground := Go.Ground.phase }, { on := 11, ground := Go.Ground.phase }], guard := none }) (v := ?v175) rfl (by kernel_rfl) (by kernel_rfl) (by kernel_rfl) (fun _ _ _ h => h) (Or.inl ⟨by rfl, ?hy175⟩) hHeld ?rest175
                    case hy175 => (intro w hSw; (try dsimp only at hSw); go_simp; (first | done | with_reducible rfl))
                    try simp only [Act.put, List.setIfInBounds_toArray, List.set_cons_zero, List.set_cons_succ]
                    refine wpAnyH_done (by kernel_rfl) ?_ _
                    refine J s173 B13 n3 o7 n4 o8 x4 ?_
                    exact ⟨by omega, ⟨by omega, by omega⟩, E, LB5, LB7, LB9, LB11, LB13, PA.mono (fun _ hi _ => hi), PB.mono (fun _ hi _ => hi), NX.mono (fun _ hi _ => hi), NY.mono (fun _ hi _ => hi), NZ.mono (fun _ hi _ => hi), NW.mono (fun _ hi _ => hi)⟩
                  · rw [if_pos (by rfl)]
                    refine allocV rfl ?_
                    intro B13 w13 bB13 cB13 XB13 LB13 RB13
                    have z176 := XB13.size
                    replace E := E.trans XB13
                    replace LB5 := LB5.ext XB13
                    replace LB6 := LB6.ext XB13
                    replace LB7 := LB7.ext XB13
                    replace LB9 := LB9.ext XB13
                    replace LB11 := LB11.ext XB13
                    replace PA := PA.ext XB13
                    replace PB := PB.ext XB13
                    replace NX := NX.ext XB13
                    replace NY := NY.ext XB13
                    replace NZ := NZ.ext XB13
                    replace V1 := V1.ext XB13
                    replace V2 := V2.ext XB13
                    clear hHeld
                    have hHeld := And.intro LB5 (LB6)
                    refine hK.out _ _ hHeld (fun _ => ?_)
                    clear hK K
                    try simp only [Act.put, List.setIfInBounds_toArray, List.set_cons_zero, List.set_cons_succ]
                    refine wpAnyH_ready (rs := [6]) (by kernel_rfl) (by simp) ?_
                    refine AllReadyH.cons (o := { dst := some 71, op := Go.Op.call { callee := Go.Callee.value (Go.Operand.func 6), args := #[Go.Operand.const (Go.Value.int Go.IntKind.i64 24), Go.Operand.tmp 67, Go.Operand.tmp 70], argTypes := #[3, 34, 34] }, type := 36, pos := "law.go:92", after := #[{ on := 2, ground := Go.Ground.data }, { on := 5, ground := Go.Ground.data }, { on := 5, ground := Go.Ground.chain }], guard := none }) rfl (fun K hK => ?_) (AllReadyH.nil)
                    go_simp
                    refine (c24 _ _ _ V1.is V2.is).mono ?_
                    rintro e w71 ⟨x4, rfl, hq, x⟩
                    clear V1 V2
                    have NW := hq.now
                    have Fx4 := NW.is.flat
                    clear hq
                    have z177 := x.size
                    replace E := E.trans x
                    replace LB5 := LB5.ext x
                    replace LB6 := LB6.ext x
                    replace LB7 := LB7.ext x
                    replace LB9 := LB9.ext x
                    replace LB11 := LB11.ext x
                    replace PA := PA.ext x
                    replace PB := PB.ext x
                    replace NX := NX.ext x
                    replace NY := NY.ext x
                    replace NZ := NZ.ext x
                    replace LB13 := LB13.ext x
                    replace RB13 := RB13.ext x
                    clear x
                    clear hHeld
                    have hHeld := And.intro LB5 (LB6)
                    refine hK.out _ _ hHeld (fun _ => ?_)
                    clear hK K
                    try simp only [Act.put, List.setIfInBounds_toArray, List.set_cons_zero, List.set_cons_succ]
                    refine wpAnyH_take (i := 7) (oi := { dst := some 64, op := Go.Op.move (Go.Operand.tmp 71), type := 36, pos := "law.go:92", after := #[{ on := 6, ground := Go.Ground.data }], guard := none }) (v := ?v178) rfl (by kernel_rfl) (by kernel_rfl) (by kernel_rfl) (fun _ _ _ h => h) (Or.inl ⟨by rfl, ?hy178⟩) hHeld ?rest178
                    case hy178 => (intro w hSw; (try dsimp only at hSw); go_simp; (first | done | with_reducible rfl))
                    try simp only [Act.put, List.setIfInBounds_toArray, List.set_cons_zero, List.set_cons_succ]
                    refine wpAnyH_take (i := 8) (oi := { dst := some 72, op := Go.Op.extract (Go.Operand.tmp 64) 0, type := 34, pos := "law.go:92", after := #[{ on := 7, ground := Go.Ground.data }], guard := none }) (v := ?v179) rfl (by kernel_rfl) (by kernel_rfl) (by kernel_rfl) (fun _ _ _ h => h) (Or.inl ⟨by rfl, ?hy179⟩) hHeld ?rest179
                    case hy179 => (intro w hSw; (try dsimp only at hSw); go_simp; (first | done | with_reducible rfl))
                    try simp only [Act.put, List.setIfInBounds_toArray, List.set_cons_zero, List.set_cons_succ]
                    refine wpAnyH_take (i := 9) (oi := { dst := some 73, op := Go.Op.extract (Go.Operand.tmp 64) 1, type := 35, pos := "law.go:92", after := #[{ on := 7, ground := Go.Ground.data }, { on := 11, ground := Go.Ground.gcOnly Go.Departure.lateStores }], guard := none }) (v := ?v180) rfl (by kernel_rfl) (by kernel_rfl) (by kernel_rfl) (fun _ _ _ h => h) (Or.inl ⟨by rfl, ?hy180⟩) hHeld ?rest180
                    case hy180 => (intro w hSw; (try dsimp only at hSw); go_simp; (first | done | with_reducible rfl))
                    try simp only [Act.put, List.setIfInBounds_toArray, List.set_cons_zero, List.set_cons_succ]
                    refine wpAnyH_ready (rs := [11]) (by kernel_rfl) (by simp) ?_
                    refine AllReadyH.cons (o := { dst := none, op := Go.Op.store 34 (Go.Operand.tmp 13) (Go.Operand.tmp 72), type := 0, pos := "law.go:92", after := #[{ on := 10, ground := Go.Ground.data }, { on := 8, ground := Go.Ground.data }, { on := 6, ground := Go.Ground.chain }, { on := 0, ground := Go.Ground.phase }, { on := 1, ground := Go.Ground.phase }, { on := 2, ground := Go.Ground.phase }, { on := 3, ground := Go.Ground.phase }, { on := 4, ground := Go.Ground.phase }, { on := 5, ground := Go.Ground.phase }, { on := 6, ground := Go.Ground.phase }, { on := 7, ground := Go.Ground.phase }, { on := 8, ground := Go.Ground.phase }, { on := 9, ground := Go.Ground.textOnly Go.Departure.lateStores }, { on := 10, ground := Go.Ground.phase }], guard := none }) rfl (fun K hK => ?_) (AllReadyH.nil)
                    rw [if_pos (by rfl)]
                    have hRl := (RB13).lt (Nat.zero_lt_succ _)
                    refine storeV (by rfl) (by rfl) (v := x4) (by rfl) RB13 Fx4 ?_
                    clear LB13
                    intro s181 G181 LB13 RQ
                    have z182 := G181.size
                    replace E := grown_ext E G181 (by omega)
                    replace LB5 := LB5.grown G181 (by omega)
                    replace LB6 := LB6.grown G181 (by omega)
                    replace LB7 := LB7.grown G181 (by omega)
                    replace LB9 := LB9.grown G181 (by omega)
                    replace LB11 := LB11.grown G181 (by omega)
                    replace PA := PA.grown G181 (by first | omega | (dsimp only [New]; omega))
                    replace PB := PB.grown G181 (by first | omega | (dsimp only [New]; omega))
                    replace NX := NX.grown G181 (by first | omega | (dsimp only [New]; omega))
                    replace NY := NY.grown G181 (by first | omega | (dsimp only [New]; omega))
                    replace NZ := NZ.grown G181 (by first | omega | (dsimp only [New]; omega))
                    replace NW := NW.grown G181 (by first | omega | (dsimp only [New]; omega))
                    clear RB13
                    have RB13 := RQ
                    clear RQ hRl G181
                    clear hHeld
                    have hHeld := And.intro LB5 (LB6)
                    refine hK.out _ _ hHeld (fun _ => ?_)
                    clear hK K
                    try simp only [Act.put]
                    refine wpAnyH_take (i := 12) (oi := { dst := some 14, op := Go.Op.assign (Go.Operand.tmp 73), type := 35, pos := "law.go:92", after := #[{ on := 9, ground := Go.Ground.data }, { on := 11, ground := Go.Ground.chain }, { on := 0, ground := Go.Ground.phase }, { on := 1, ground := Go.Ground.phase }, { on := 2, ground := Go.Ground.phase }, { on := 3, ground := Go.Ground.phase }, { on := 4, ground := Go.Ground.phase }, { on := 5, ground := Go.Ground.phase }, { on := 6, ground := Go.Ground.phase }, { on := 7, ground := Go.Ground.phase }, { on := 8, ground := Go.Ground.phase }, { on := 9, ground := Go.Ground.phase }, { on := 10, ground := Go.Ground.phase }, { on := 11, ground := Go.Ground.phase }], guard := none }) (v := ?v183) rfl (by kernel_rfl) (by kernel_rfl) (by kernel_rfl) (fun _ _ _ h => h) (Or.inl ⟨by rfl, ?hy183⟩) hHeld ?rest183
                    case hy183 => (intro w hSw; (try dsimp only at hSw); go_simp; (first | done | with_reducible rfl))
                    try simp only [Act.put, List.setIfInBounds_toArray, List.set_cons_zero, List.set_cons_succ]
                    refine wpAnyH_done (by kernel_rfl) ?_ _
                    refine J s181 B13 n3 o7 n4 o8 x4 ?_
                    exact ⟨by omega, ⟨by omega, by omega⟩, E, LB5, LB7, LB9, LB11, LB13, PA.mono (fun _ hi _ => hi), PB.mono (fun _ hi _ => hi), NX.mono (fun _ hi _ => hi), NY.mono (fun _ hi _ => hi), NZ.mono (fun _ hi _ => hi), NW.mono (fun _ hi _ => hi)⟩
                · rw [if_pos (by rfl)]
                  refine allocV rfl ?_
                  intro B13 w13 bB13 cB13 XB13 LB13 RB13
                  have z184 := XB13.size
                  replace E := E.trans XB13
                  replace LB5 := LB5.ext XB13
                  replace LB6 := LB6.ext XB13
                  replace LB7 := LB7.ext XB13
                  replace LB9 := LB9.ext XB13
                  replace LB11 := LB11.ext XB13
                  replace PA := PA.ext XB13
                  replace PB := PB.ext XB13
                  replace NX := NX.ext XB13
                  replace NY := NY.ext XB13
                  replace NZ := NZ.ext XB13
                  replace V1 := V1.ext XB13
                  replace M2 := M2.ext XB13
                  clear hHeld
                  have hHeld := And.intro LB5 (LB6)
                  refine hK.out _ _ hHeld (fun _ => ?_)
                  clear hK K
                  try simp only [Act.put, List.setIfInBounds_toArray, List.set_cons_zero, List.set_cons_succ]
                  refine wpAnyH_ready (rs := [5]) (by kernel_rfl) (by simp) ?_
                  refine AllReadyH.cons (o := { dst := some 70, op := Go.Op.call { callee := Go.Callee.value (Go.Operand.func 7), args := #[Go.Operand.tmp 69], argTypes := #[26] }, type := 34, pos := "law.go:92", after := #[{ on := 4, ground := Go.Ground.data }, { on := 4, ground := Go.Ground.chain }], guard := none }) rfl (fun K hK => ?_) (AllReadyH.nil)
                  go_simp
                  refine (VecS.bits_of n4 (notL b) _ M2.is).mono ?_
                  rintro e w70 ⟨o8, rfl, hq, x⟩
                  have V2 := hq _ M2
                  clear M2
                  clear hq
                  have z185 := x.size
                  replace E := E.trans x
                  replace LB5 := LB5.ext x
                  replace LB6 := LB6.ext x
                  replace LB7 := LB7.ext x
                  replace LB9 := LB9.ext x
                  replace LB11 := LB11.ext x
                  replace PA := PA.ext x
                  replace PB := PB.ext x
                  replace NX := NX.ext x
                  replace NY := NY.ext x
                  replace NZ := NZ.ext x
                  replace V1 := V1.ext x
                  replace LB13 := LB13.ext x
                  replace RB13 := RB13.ext x
                  clear x
                  clear hHeld
                  have hHeld := And.intro LB5 (LB6)
                  refine hK.out _ _ hHeld (fun _ => ?_)
                  clear hK K
                  try simp only [Act.put, List.setIfInBounds_toArray, List.set_cons_zero, List.set_cons_succ]
                  refine wpAnyH_ready (rs := [6]) (by kernel_rfl) (by simp) ?_
                  refine AllReadyH.cons (o := { dst := some 71, op := Go.Op.call { callee := Go.Callee.value (Go.Operand.func 6), args := #[Go.Operand.const (Go.Value.int Go.IntKind.i64 24), Go.Operand.tmp 67, Go.Operand.tmp 70], argTypes := #[3, 34, 34] }, type := 36, pos := "law.go:92", after := #[{ on := 2, ground := Go.Ground.data }, { on := 5, ground := Go.Ground.data }, { on := 5, ground := Go.Ground.chain }], guard := none }) rfl (fun K hK => ?_) (AllReadyH.nil)
                  go_simp
                  refine (c24 _ _ _ V1.is V2.is).mono ?_
                  rintro e w71 ⟨x4, rfl, hq, x⟩
                  clear V1 V2
                  have NW := hq.now
                  have Fx4 := NW.is.flat
                  clear hq
                  have z186 := x.size
                  replace E := E.trans x
                  replace LB5 := LB5.ext x
                  replace LB6 := LB6.ext x
                  replace LB7 := LB7.ext x
                  replace LB9 := LB9.ext x
                  replace LB11 := LB11.ext x
                  replace PA := PA.ext x
                  replace PB := PB.ext x
                  replace NX := NX.ext x
                  replace NY := NY.ext x
                  replace NZ := NZ.ext x
                  replace LB13 := LB13.ext x
                  replace RB13 := RB13.ext x
                  clear x
                  clear hHeld
                  have hHeld := And.intro LB5 (LB6)
                  refine hK.out _ _ hHeld (fun _ => ?_)
                  clear hK K
                  try simp only [Act.put, List.setIfInBounds_toArray, List.set_cons_zero, List.set_cons_succ]
                  refine wpAnyH_take (i := 7) (oi := { dst := some 64, op := Go.Op.move (Go.Operand.tmp 71), type := 36, pos := "law.go:92", after := #[{ on := 6, ground := Go.Ground.data }], guard := none }) (v := ?v187) rfl (by kernel_rfl) (by kernel_rfl) (by kernel_rfl) (fun _ _ _ h => h) (Or.inl ⟨by rfl, ?hy187⟩) hHeld ?rest187
                  case hy187 => (intro w hSw; (try dsimp only at hSw); go_simp; (first | done | with_reducible rfl))
                  try simp only [Act.put, List.setIfInBounds_toArray, List.set_cons_zero, List.set_cons_succ]
                  refine wpAnyH_take (i := 8) (oi := { dst := some 72, op := Go.Op.extract (Go.Operand.tmp 64) 0, type := 34, pos := "law.go:92", after := #[{ on := 7, ground := Go.Ground.data }], guard := none }) (v := ?v188) rfl (by kernel_rfl) (by kernel_rfl) (by kernel_rfl) (fun _ _ _ h => h) (Or.inl ⟨by rfl, ?hy188⟩) hHeld ?rest188
                  case hy188 => (intro w hSw; (try dsimp only at hSw); go_simp; (first | done | with_reducible rfl))
                  try simp only [Act.put, List.setIfInBounds_toArray, List.set_cons_zero, List.set_cons_succ]
                  refine wpAnyH_take (i := 9) (oi := { dst := some 73, op := Go.Op.extract (Go.Operand.tmp 64) 1, type := 35, pos := "law.go:92", after := #[{ on := 7, ground := Go.Ground.data }, { on := 11, ground := Go.Ground.gcOnly Go.Departure.lateStores }], guard := none }) (v := ?v189) rfl (by kernel_rfl) (by kernel_rfl) (by kernel_rfl) (fun _ _ _ h => h) (Or.inl ⟨by rfl, ?hy189⟩) hHeld ?rest189
                  case hy189 => (intro w hSw; (try dsimp only at hSw); go_simp; (first | done | with_reducible rfl))
                  try simp only [Act.put, List.setIfInBounds_toArray, List.set_cons_zero, List.set_cons_succ]
                  refine wpAnyH_ready (rs := [11]) (by kernel_rfl) (by simp) ?_
                  refine AllReadyH.cons (o := { dst := none, op := Go.Op.store 34 (Go.Operand.tmp 13) (Go.Operand.tmp 72), type := 0, pos := "law.go:92", after := #[{ on := 10, ground := Go.Ground.data }, { on := 8, ground := Go.Ground.data }, { on := 6, ground := Go.Ground.chain }, { on := 0, ground := Go.Ground.phase }, { on := 1, ground := Go.Ground.phase }, { on := 2, ground := Go.Ground.phase }, { on := 3, ground := Go.Ground.phase }, { on := 4, ground := Go.Ground.phase }, { on := 5, ground := Go.Ground.phase }, { on := 6, ground := Go.Ground.phase }, { on := 7, ground := Go.Ground.phase }, { on := 8, ground := Go.Ground.phase }, { on := 9, ground := Go.Ground.textOnly Go.Departure.lateStores }, { on := 10, ground := Go.Ground.phase }], guard := none }) rfl (fun K hK => ?_) (AllReadyH.nil)
                  rw [if_pos (by rfl)]
                  have hRl := (RB13).lt (Nat.zero_lt_succ _)
                  refine storeV (by rfl) (by rfl) (v := x4) (by rfl) RB13 Fx4 ?_
                  clear LB13
                  intro s190 G190 LB13 RQ
                  have z191 := G190.size
                  replace E := grown_ext E G190 (by omega)
                  replace LB5 := LB5.grown G190 (by omega)
                  replace LB6 := LB6.grown G190 (by omega)
                  replace LB7 := LB7.grown G190 (by omega)
                  replace LB9 := LB9.grown G190 (by omega)
                  replace LB11 := LB11.grown G190 (by omega)
                  replace PA := PA.grown G190 (by first | omega | (dsimp only [New]; omega))
                  replace PB := PB.grown G190 (by first | omega | (dsimp only [New]; omega))
                  replace NX := NX.grown G190 (by first | omega | (dsimp only [New]; omega))
                  replace NY := NY.grown G190 (by first | omega | (dsimp only [New]; omega))
                  replace NZ := NZ.grown G190 (by first | omega | (dsimp only [New]; omega))
                  replace NW := NW.grown G190 (by first | omega | (dsimp only [New]; omega))
                  clear RB13
                  have RB13 := RQ
                  clear RQ hRl G190
                  clear hHeld
                  have hHeld := And.intro LB5 (LB6)
                  refine hK.out _ _ hHeld (fun _ => ?_)
                  clear hK K
                  try simp only [Act.put]
                  refine wpAnyH_take (i := 12) (oi := { dst := some 14, op := Go.Op.assign (Go.Operand.tmp 73), type := 35, pos := "law.go:92", after := #[{ on := 9, ground := Go.Ground.data }, { on := 11, ground := Go.Ground.chain }, { on := 0, ground := Go.Ground.phase }, { on := 1, ground := Go.Ground.phase }, { on := 2, ground := Go.Ground.phase }, { on := 3, ground := Go.Ground.phase }, { on := 4, ground := Go.Ground.phase }, { on := 5, ground := Go.Ground.phase }, { on := 6, ground := Go.Ground.phase }, { on := 7, ground := Go.Ground.phase }, { on := 8, ground := Go.Ground.phase }, { on := 9, ground := Go.Ground.phase }, { on := 10, ground := Go.Ground.phase }, { on := 11, ground := Go.Ground.phase }], guard := none }) (v := ?v192) rfl (by kernel_rfl) (by kernel_rfl) (by kernel_rfl) (fun _ _ _ h => h) (Or.inl ⟨by rfl, ?hy192⟩) hHeld ?rest192
                  case hy192 => (intro w hSw; (try dsimp only at hSw); go_simp; (first | done | with_reducible rfl))
                  try simp only [Act.put, List.setIfInBounds_toArray, List.set_cons_zero, List.set_cons_succ]
                  refine wpAnyH_done (by kernel_rfl) ?_ _
                  refine J s190 B13 n3 o7 n4 o8 x4 ?_
                  exact ⟨by omega, ⟨by omega, by omega⟩, E, LB5, LB7, LB9, LB11, LB13, PA.mono (fun _ hi _ => hi), PB.mono (fun _ hi _ => hi), NX.mono (fun _ hi _ => hi), NY.mono (fun _ hi _ => hi), NZ.mono (fun _ hi _ => hi), NW.mono (fun _ hi _ => hi)⟩
              · rw [if_pos (by rfl)]
                refine allocV rfl ?_
                intro B13 w13 bB13 cB13 XB13 LB13 RB13
                have z193 := XB13.size
                replace E := E.trans XB13
                replace LB5 := LB5.ext XB13
                replace LB6 := LB6.ext XB13
                replace LB7 := LB7.ext XB13
                replace LB9 := LB9.ext XB13
                replace LB11 := LB11.ext XB13
                replace PA := PA.ext XB13
                replace PB := PB.ext XB13
                replace NX := NX.ext XB13
                replace NY := NY.ext XB13
                replace NZ := NZ.ext XB13
                replace V1 := V1.ext XB13
                clear hHeld
                have hHeld := And.intro LB5 (LB6)
                refine hK.out _ _ hHeld (fun _ => ?_)
                clear hK K
                try simp only [Act.put, List.setIfInBounds_toArray, List.set_cons_zero, List.set_cons_succ]
                refine wpAnyH_ready (rs := [4]) (by kernel_rfl) (by simp) ?_
                refine AllReadyH.cons (o := { dst := some 69, op := Go.Op.call { callee := Go.Callee.value (Go.Operand.func 8), args := #[Go.Operand.tmp 68], argTypes := #[26] }, type := 26, pos := "law.go:92", after := #[{ on := 3, ground := Go.Ground.data }, { on := 2, ground := Go.Ground.chain }], guard := none }) rfl (fun K hK => ?_) (AllReadyH.nil)
                go_simp
                refine (not_any q b _ PB.is).mono ?_
                rintro e w69 ⟨n4, rfl, hq, x⟩
                have M2 := hq.bs.now
                have Fn4 := M2.is.flat
                clear hq
                have z194 := x.size
                replace E := E.trans x
                replace LB5 := LB5.ext x
                replace LB6 := LB6.ext x
                replace LB7 := LB7.ext x
                replace LB9 := LB9.ext x
                replace LB11 := LB11.ext x
                replace PA := PA.ext x
                replace PB := PB.ext x
                replace NX := NX.ext x
                replace NY := NY.ext x
                replace NZ := NZ.ext x
                replace V1 := V1.ext x
                replace LB13 := LB13.ext x
                replace RB13 := RB13.ext x
                clear x
                clear hHeld
                have hHeld := And.intro LB5 (LB6)
                refine hK.out _ _ hHeld (fun _ => ?_)
                clear hK K
                try simp only [Act.put, List.setIfInBounds_toArray, List.set_cons_zero, List.set_cons_succ]
                refine wpAnyH_ready (rs := [5]) (by kernel_rfl) (by simp) ?_
                refine AllReadyH.cons (o := { dst := some 70, op := Go.Op.call { callee := Go.Callee.value (Go.Operand.func 7), args := #[Go.Operand.tmp 69], argTypes := #[26] }, type := 34, pos := "law.go:92", after := #[{ on := 4, ground := Go.Ground.data }, { on := 4, ground := Go.Ground.chain }], guard := none }) rfl (fun K hK => ?_) (AllReadyH.nil)
                go_simp
                refine (VecS.bits_of n4 (notL b) _ M2.is).mono ?_
                rintro e w70 ⟨o8, rfl, hq, x⟩
                have V2 := hq _ M2
                clear M2
                clear hq
                have z195 := x.size
                replace E := E.trans x
                replace LB5 := LB5.ext x
                replace LB6 := LB6.ext x
                replace LB7 := LB7.ext x
                replace LB9 := LB9.ext x
                replace LB11 := LB11.ext x
                replace PA := PA.ext x
                replace PB := PB.ext x
                replace NX := NX.ext x
                replace NY := NY.ext x
                replace NZ := NZ.ext x
                replace V1 := V1.ext x
                replace LB13 := LB13.ext x
                replace RB13 := RB13.ext x
                clear x
                clear hHeld
                have hHeld := And.intro LB5 (LB6)
                refine hK.out _ _ hHeld (fun _ => ?_)
                clear hK K
                try simp only [Act.put, List.setIfInBounds_toArray, List.set_cons_zero, List.set_cons_succ]
                refine wpAnyH_ready (rs := [6]) (by kernel_rfl) (by simp) ?_
                refine AllReadyH.cons (o := { dst := some 71, op := Go.Op.call { callee := Go.Callee.value (Go.Operand.func 6), args := #[Go.Operand.const (Go.Value.int Go.IntKind.i64 24), Go.Operand.tmp 67, Go.Operand.tmp 70], argTypes := #[3, 34, 34] }, type := 36, pos := "law.go:92", after := #[{ on := 2, ground := Go.Ground.data }, { on := 5, ground := Go.Ground.data }, { on := 5, ground := Go.Ground.chain }], guard := none }) rfl (fun K hK => ?_) (AllReadyH.nil)
                go_simp
                refine (c24 _ _ _ V1.is V2.is).mono ?_
                rintro e w71 ⟨x4, rfl, hq, x⟩
                clear V1 V2
                have NW := hq.now
                have Fx4 := NW.is.flat
                clear hq
                have z196 := x.size
                replace E := E.trans x
                replace LB5 := LB5.ext x
                replace LB6 := LB6.ext x
                replace LB7 := LB7.ext x
                replace LB9 := LB9.ext x
                replace LB11 := LB11.ext x
                replace PA := PA.ext x
                replace PB := PB.ext x
                replace NX := NX.ext x
                replace NY := NY.ext x
                replace NZ := NZ.ext x
                replace LB13 := LB13.ext x
                replace RB13 := RB13.ext x
                clear x
                clear hHeld
                have hHeld := And.intro LB5 (LB6)
                refine hK.out _ _ hHeld (fun _ => ?_)
                clear hK K
                try simp only [Act.put, List.setIfInBounds_toArray, List.set_cons_zero, List.set_cons_succ]
                refine wpAnyH_take (i := 7) (oi := { dst := some 64, op := Go.Op.move (Go.Operand.tmp 71), type := 36, pos := "law.go:92", after := #[{ on := 6, ground := Go.Ground.data }], guard := none }) (v := ?v197) rfl (by kernel_rfl) (by kernel_rfl) (by kernel_rfl) (fun _ _ _ h => h) (Or.inl ⟨by rfl, ?hy197⟩) hHeld ?rest197
                case hy197 => (intro w hSw; (try dsimp only at hSw); go_simp; (first | done | with_reducible rfl))
                try simp only [Act.put, List.setIfInBounds_toArray, List.set_cons_zero, List.set_cons_succ]
                refine wpAnyH_take (i := 8) (oi := { dst := some 72, op := Go.Op.extract (Go.Operand.tmp 64) 0, type := 34, pos := "law.go:92", after := #[{ on := 7, ground := Go.Ground.data }], guard := none }) (v := ?v198) rfl (by kernel_rfl) (by kernel_rfl) (by kernel_rfl) (fun _ _ _ h => h) (Or.inl ⟨by rfl, ?hy198⟩) hHeld ?rest198
                case hy198 => (intro w hSw; (try dsimp only at hSw); go_simp; (first | done | with_reducible rfl))
                try simp only [Act.put, List.setIfInBounds_toArray, List.set_cons_zero, List.set_cons_succ]
                refine wpAnyH_take (i := 9) (oi := { dst := some 73, op := Go.Op.extract (Go.Operand.tmp 64) 1, type := 35, pos := "law.go:92", after := #[{ on := 7, ground := Go.Ground.data }, { on := 11, ground := Go.Ground.gcOnly Go.Departure.lateStores }], guard := none }) (v := ?v199) rfl (by kernel_rfl) (by kernel_rfl) (by kernel_rfl) (fun _ _ _ h => h) (Or.inl ⟨by rfl, ?hy199⟩) hHeld ?rest199
                case hy199 => (intro w hSw; (try dsimp only at hSw); go_simp; (first | done | with_reducible rfl))
                try simp only [Act.put, List.setIfInBounds_toArray, List.set_cons_zero, List.set_cons_succ]
                refine wpAnyH_ready (rs := [11]) (by kernel_rfl) (by simp) ?_
                refine AllReadyH.cons (o := { dst := none, op := Go.Op.store 34 (Go.Operand.tmp 13) (Go.Operand.tmp 72), type := 0, pos := "law.go:92", after := #[{ on := 10, ground := Go.Ground.data }, { on := 8, ground := Go.Ground.data }, { on := 6, ground := Go.Ground.chain }, { on := 0, ground := Go.Ground.phase }, { on := 1, ground := Go.Ground.phase }, { on := 2, ground := Go.Ground.phase }, { on := 3, ground := Go.Ground.phase }, { on := 4, ground := Go.Ground.phase }, { on := 5, ground := Go.Ground.phase }, { on := 6, ground := Go.Ground.phase }, { on := 7, ground := Go.Ground.phase }, { on := 8, ground := Go.Ground.phase }, { on := 9, ground := Go.Ground.textOnly Go.Departure.lateStores }, { on := 10, ground := Go.Ground.phase }], guard := none }) rfl (fun K hK => ?_) (AllReadyH.nil)
                rw [if_pos (by rfl)]
                have hRl := (RB13).lt (Nat.zero_lt_succ _)
                refine storeV (by rfl) (by rfl) (v := x4) (by rfl) RB13 Fx4 ?_
                clear LB13
                intro s200 G200 LB13 RQ
                have z201 := G200.size
                replace E := grown_ext E G200 (by omega)
                replace LB5 := LB5.grown G200 (by omega)
                replace LB6 := LB6.grown G200 (by omega)
                replace LB7 := LB7.grown G200 (by omega)
                replace LB9 := LB9.grown G200 (by omega)
                replace LB11 := LB11.grown G200 (by omega)
                replace PA := PA.grown G200 (by first | omega | (dsimp only [New]; omega))
                replace PB := PB.grown G200 (by first | omega | (dsimp only [New]; omega))
                replace NX := NX.grown G200 (by first | omega | (dsimp only [New]; omega))
                replace NY := NY.grown G200 (by first | omega | (dsimp only [New]; omega))
                replace NZ := NZ.grown G200 (by first | omega | (dsimp only [New]; omega))
                replace NW := NW.grown G200 (by first | omega | (dsimp only [New]; omega))
                clear RB13
                have RB13 := RQ
                clear RQ hRl G200
                clear hHeld
                have hHeld := And.intro LB5 (LB6)
                refine hK.out _ _ hHeld (fun _ => ?_)
                clear hK K
                try simp only [Act.put]
                refine wpAnyH_take (i := 12) (oi := { dst := some 14, op := Go.Op.assign (Go.Operand.tmp 73), type := 35, pos := "law.go:92", after := #[{ on := 9, ground := Go.Ground.data }, { on := 11, ground := Go.Ground.chain }, { on := 0, ground := Go.Ground.phase }, { on := 1, ground := Go.Ground.phase }, { on := 2, ground := Go.Ground.phase }, { on := 3, ground := Go.Ground.phase }, { on := 4, ground := Go.Ground.phase }, { on := 5, ground := Go.Ground.phase }, { on := 6, ground := Go.Ground.phase }, { on := 7, ground := Go.Ground.phase }, { on := 8, ground := Go.Ground.phase }, { on := 9, ground := Go.Ground.phase }, { on := 10, ground := Go.Ground.phase }, { on := 11, ground := Go.Ground.phase }], guard := none }) (v := ?v202) rfl (by kernel_rfl) (by kernel_rfl) (by kernel_rfl) (fun _ _ _ h => h) (Or.inl ⟨by rfl, ?hy202⟩) hHeld ?rest202
                case hy202 => (intro w hSw; (try dsimp only at hSw); go_simp; (first | done | with_reducible rfl))
                try simp only [Act.put, List.setIfInBounds_toArray, List.set_cons_zero, List.set_cons_succ]
                refine wpAnyH_done (by kernel_rfl) ?_ _
                refine J s200 B13 n3 o7 n4 o8 x4 ?_
                exact ⟨by omega, ⟨by omega, by omega⟩, E, LB5, LB7, LB9, LB11, LB13, PA.mono (fun _ hi _ => hi), PB.mono (fun _ hi _ => hi), NX.mono (fun _ hi _ => hi), NY.mono (fun _ hi _ => hi), NZ.mono (fun _ hi _ => hi), NW.mono (fun _ hi _ => hi)⟩
            · rw [if_pos (by rfl)]
              refine allocV rfl ?_
              intro B13 w13 bB13 cB13 XB13 LB13 RB13
              have z203 := XB13.size
              replace E := E.trans XB13
              replace LB5 := LB5.ext XB13
              replace LB6 := LB6.ext XB13
              replace LB7 := LB7.ext XB13
              replace LB9 := LB9.ext XB13
              replace LB11 := LB11.ext XB13
              replace PA := PA.ext XB13
              replace PB := PB.ext XB13
              replace NX := NX.ext XB13
              replace NY := NY.ext XB13
              replace NZ := NZ.ext XB13
              replace M1 := M1.ext XB13
              clear hHeld
              have hHeld := And.intro LB5 (LB6)
              refine hK.out _ _ hHeld (fun _ => ?_)
              clear hK K
              try simp only [Act.put, List.setIfInBounds_toArray, List.set_cons_zero, List.set_cons_succ]
              refine wpAnyH_ready (rs := [2]) (by kernel_rfl) (by simp) ?_
              refine AllReadyH.cons (o := { dst := some 67, op := Go.Op.call { callee := Go.Callee.value (Go.Operand.func 7), args := #[Go.Operand.tmp 66], argTypes := #[26] }, type := 34, pos := "law.go:92", after := #[{ on := 1, ground := Go.Ground.data }, { on := 1, ground := Go.Ground.chain }], guard := none }) rfl (fun K hK => ?_) (AllReadyH.nil)
              go_simp
              refine (VecS.bits_of n3 (notL a) _ M1.is).mono ?_
              rintro e w67 ⟨o7, rfl, hq, x⟩
              have V1 := hq _ M1
              clear M1
              clear hq
              have z204 := x.size
              replace E := E.trans x
              replace LB5 := LB5.ext x
              replace LB6 := LB6.ext x
              replace LB7 := LB7.ext x
              replace LB9 := LB9.ext x
              replace LB11 := LB11.ext x
              replace PA := PA.ext x
              replace PB := PB.ext x
              replace NX := NX.ext x
              replace NY := NY.ext x
              replace NZ := NZ.ext x
              replace LB13 := LB13.ext x
              replace RB13 := RB13.ext x
              clear x
              clear hHeld
              have hHeld := And.intro LB5 (LB6)
              refine hK.out _ _ hHeld (fun _ => ?_)
              clear hK K
              try simp only [Act.put, List.setIfInBounds_toArray, List.set_cons_zero, List.set_cons_succ]
              refine wpAnyH_ready (rs := [4]) (by kernel_rfl) (by simp) ?_
              refine AllReadyH.cons (o := { dst := some 69, op := Go.Op.call { callee := Go.Callee.value (Go.Operand.func 8), args := #[Go.Operand.tmp 68], argTypes := #[26] }, type := 26, pos := "law.go:92", after := #[{ on := 3, ground := Go.Ground.data }, { on := 2, ground := Go.Ground.chain }], guard := none }) rfl (fun K hK => ?_) (AllReadyH.nil)
              go_simp
              refine (not_any q b _ PB.is).mono ?_
              rintro e w69 ⟨n4, rfl, hq, x⟩
              have M2 := hq.bs.now
              have Fn4 := M2.is.flat
              clear hq
              have z205 := x.size
              replace E := E.trans x
              replace LB5 := LB5.ext x
              replace LB6 := LB6.ext x
              replace LB7 := LB7.ext x
              replace LB9 := LB9.ext x
              replace LB11 := LB11.ext x
              replace PA := PA.ext x
              replace PB := PB.ext x
              replace NX := NX.ext x
              replace NY := NY.ext x
              replace NZ := NZ.ext x
              replace LB13 := LB13.ext x
              replace RB13 := RB13.ext x
              replace V1 := V1.ext x
              clear x
              clear hHeld
              have hHeld := And.intro LB5 (LB6)
              refine hK.out _ _ hHeld (fun _ => ?_)
              clear hK K
              try simp only [Act.put, List.setIfInBounds_toArray, List.set_cons_zero, List.set_cons_succ]
              refine wpAnyH_ready (rs := [5]) (by kernel_rfl) (by simp) ?_
              refine AllReadyH.cons (o := { dst := some 70, op := Go.Op.call { callee := Go.Callee.value (Go.Operand.func 7), args := #[Go.Operand.tmp 69], argTypes := #[26] }, type := 34, pos := "law.go:92", after := #[{ on := 4, ground := Go.Ground.data }, { on := 4, ground := Go.Ground.chain }], guard := none }) rfl (fun K hK => ?_) (AllReadyH.nil)
              go_simp
              refine (VecS.bits_of n4 (notL b) _ M2.is).mono ?_
              rintro e w70 ⟨o8, rfl, hq, x⟩
              have V2 := hq _ M2
              clear M2
              clear hq
              have z206 := x.size
              replace E := E.trans x
              replace LB5 := LB5.ext x
              replace LB6 := LB6.ext x
              replace LB7 := LB7.ext x
              replace LB9 := LB9.ext x
              replace LB11 := LB11.ext x
              replace PA := PA.ext x
              replace PB := PB.ext x
              replace NX := NX.ext x
              replace NY := NY.ext x
              replace NZ := NZ.ext x
              replace LB13 := LB13.ext x
              replace RB13 := RB13.ext x
              replace V1 := V1.ext x
              clear x
              clear hHeld
              have hHeld := And.intro LB5 (LB6)
              refine hK.out _ _ hHeld (fun _ => ?_)
              clear hK K
              try simp only [Act.put, List.setIfInBounds_toArray, List.set_cons_zero, List.set_cons_succ]
              refine wpAnyH_ready (rs := [6]) (by kernel_rfl) (by simp) ?_
              refine AllReadyH.cons (o := { dst := some 71, op := Go.Op.call { callee := Go.Callee.value (Go.Operand.func 6), args := #[Go.Operand.const (Go.Value.int Go.IntKind.i64 24), Go.Operand.tmp 67, Go.Operand.tmp 70], argTypes := #[3, 34, 34] }, type := 36, pos := "law.go:92", after := #[{ on := 2, ground := Go.Ground.data }, { on := 5, ground := Go.Ground.data }, { on := 5, ground := Go.Ground.chain }], guard := none }) rfl (fun K hK => ?_) (AllReadyH.nil)
              go_simp
              refine (c24 _ _ _ V1.is V2.is).mono ?_
              rintro e w71 ⟨x4, rfl, hq, x⟩
              clear V1 V2
              have NW := hq.now
              have Fx4 := NW.is.flat
              clear hq
              have z207 := x.size
              replace E := E.trans x
              replace LB5 := LB5.ext x
              replace LB6 := LB6.ext x
              replace LB7 := LB7.ext x
              replace LB9 := LB9.ext x
              replace LB11 := LB11.ext x
              replace PA := PA.ext x
              replace PB := PB.ext x
              replace NX := NX.ext x
              replace NY := NY.ext x
              replace NZ := NZ.ext x
              replace LB13 := LB13.ext x
              replace RB13 := RB13.ext x
              clear x
              clear hHeld
              have hHeld := And.intro LB5 (LB6)
              refine hK.out _ _ hHeld (fun _ => ?_)
              clear hK K
              try simp only [Act.put, List.setIfInBounds_toArray, List.set_cons_zero, List.set_cons_succ]
              refine wpAnyH_take (i := 7) (oi := { dst := some 64, op := Go.Op.move (Go.Operand.tmp 71), type := 36, pos := "law.go:92", after := #[{ on := 6, ground := Go.Ground.data }], guard := none }) (v := ?v208) rfl (by kernel_rfl) (by kernel_rfl) (by kernel_rfl) (fun _ _ _ h => h) (Or.inl ⟨by rfl, ?hy208⟩) hHeld ?rest208
              case hy208 => (intro w hSw; (try dsimp only at hSw); go_simp; (first | done | with_reducible rfl))
              try simp only [Act.put, List.setIfInBounds_toArray, List.set_cons_zero, List.set_cons_succ]
              refine wpAnyH_take (i := 8) (oi := { dst := some 72, op := Go.Op.extract (Go.Operand.tmp 64) 0, type := 34, pos := "law.go:92", after := #[{ on := 7, ground := Go.Ground.data }], guard := none }) (v := ?v209) rfl (by kernel_rfl) (by kernel_rfl) (by kernel_rfl) (fun _ _ _ h => h) (Or.inl ⟨by rfl, ?hy209⟩) hHeld ?rest209
              case hy209 => (intro w hSw; (try dsimp only at hSw); go_simp; (first | done | with_reducible rfl))
              try simp only [Act.put, List.setIfInBounds_toArray, List.set_cons_zero, List.set_cons_succ]
              refine wpAnyH_take (i := 9) (oi := { dst := some 73, op := Go.Op.extract (Go.Operand.tmp 64) 1, type := 35, pos := "law.go:92", after := #[{ on := 7, ground := Go.Ground.data }, { on := 11, ground := Go.Ground.gcOnly Go.Departure.lateStores }], guard := none }) (v := ?v210) rfl (by kernel_rfl) (by kernel_rfl) (by kernel_rfl) (fun _ _ _ h => h) (Or.inl ⟨by rfl, ?hy210⟩) hHeld ?rest210
              case hy210 => (intro w hSw; (try dsimp only at hSw); go_simp; (first | done | with_reducible rfl))
              try simp only [Act.put, List.setIfInBounds_toArray, List.set_cons_zero, List.set_cons_succ]
              refine wpAnyH_ready (rs := [11]) (by kernel_rfl) (by simp) ?_
              refine AllReadyH.cons (o := { dst := none, op := Go.Op.store 34 (Go.Operand.tmp 13) (Go.Operand.tmp 72), type := 0, pos := "law.go:92", after := #[{ on := 10, ground := Go.Ground.data }, { on := 8, ground := Go.Ground.data }, { on := 6, ground := Go.Ground.chain }, { on := 0, ground := Go.Ground.phase }, { on := 1, ground := Go.Ground.phase }, { on := 2, ground := Go.Ground.phase }, { on := 3, ground := Go.Ground.phase }, { on := 4, ground := Go.Ground.phase }, { on := 5, ground := Go.Ground.phase }, { on := 6, ground := Go.Ground.phase }, { on := 7, ground := Go.Ground.phase }, { on := 8, ground := Go.Ground.phase }, { on := 9, ground := Go.Ground.textOnly Go.Departure.lateStores }, { on := 10, ground := Go.Ground.phase }], guard := none }) rfl (fun K hK => ?_) (AllReadyH.nil)
              rw [if_pos (by rfl)]
              have hRl := (RB13).lt (Nat.zero_lt_succ _)
              refine storeV (by rfl) (by rfl) (v := x4) (by rfl) RB13 Fx4 ?_
              clear LB13
              intro s211 G211 LB13 RQ
              have z212 := G211.size
              replace E := grown_ext E G211 (by omega)
              replace LB5 := LB5.grown G211 (by omega)
              replace LB6 := LB6.grown G211 (by omega)
              replace LB7 := LB7.grown G211 (by omega)
              replace LB9 := LB9.grown G211 (by omega)
              replace LB11 := LB11.grown G211 (by omega)
              replace PA := PA.grown G211 (by first | omega | (dsimp only [New]; omega))
              replace PB := PB.grown G211 (by first | omega | (dsimp only [New]; omega))
              replace NX := NX.grown G211 (by first | omega | (dsimp only [New]; omega))
              replace NY := NY.grown G211 (by first | omega | (dsimp only [New]; omega))
              replace NZ := NZ.grown G211 (by first | omega | (dsimp only [New]; omega))
              replace NW := NW.grown G211 (by first | omega | (dsimp only [New]; omega))
              clear RB13
              have RB13 := RQ
              clear RQ hRl G211
              clear hHeld
              have hHeld := And.intro LB5 (LB6)
              refine hK.out _ _ hHeld (fun _ => ?_)
              clear hK K
              try simp only [Act.put]
              refine wpAnyH_take (i := 12) (oi := { dst := some 14, op := Go.Op.assign (Go.Operand.tmp 73), type := 35, pos := "law.go:92", after := #[{ on := 9, ground := Go.Ground.data }, { on := 11, ground := Go.Ground.chain }, { on := 0, ground := Go.Ground.phase }, { on := 1, ground := Go.Ground.phase }, { on := 2, ground := Go.Ground.phase }, { on := 3, ground := Go.Ground.phase }, { on := 4, ground := Go.Ground.phase }, { on := 5, ground := Go.Ground.phase }, { on := 6, ground := Go.Ground.phase }, { on := 7, ground := Go.Ground.phase }, { on := 8, ground := Go.Ground.phase }, { on := 9, ground := Go.Ground.phase }, { on := 10, ground := Go.Ground.phase }, { on := 11, ground := Go.Ground.phase }], guard := none }) (v := ?v213) rfl (by kernel_rfl) (by kernel_rfl) (by kernel_rfl) (fun _ _ _ h => h) (Or.inl ⟨by rfl, ?hy213⟩) hHeld ?rest213
              case hy213 => (intro w hSw; (try dsimp only at hSw); go_simp; (first | done | with_reducible rfl))
              try simp only [Act.put, List.setIfInBounds_toArray, List.set_cons_zero, List.set_cons_succ]
              refine wpAnyH_done (by kernel_rfl) ?_ _
              refine J s211 B13 n3 o7 n4 o8 x4 ?_
              exact ⟨by omega, ⟨by omega, by omega⟩, E, LB5, LB7, LB9, LB11, LB13, PA.mono (fun _ hi _ => hi), PB.mono (fun _ hi _ => hi), NX.mono (fun _ hi _ => hi), NY.mono (fun _ hi _ => hi), NZ.mono (fun _ hi _ => hi), NW.mono (fun _ hi _ => hi)⟩
          · rw [if_pos (by rfl)]
            refine allocV rfl ?_
            intro B13 w13 bB13 cB13 XB13 LB13 RB13
            have z214 := XB13.size
            replace E := E.trans XB13
            replace LB5 := LB5.ext XB13
            replace LB6 := LB6.ext XB13
            replace LB7 := LB7.ext XB13
            replace LB9 := LB9.ext XB13
            replace LB11 := LB11.ext XB13
            replace PA := PA.ext XB13
            replace PB := PB.ext XB13
            replace NX := NX.ext XB13
            replace NY := NY.ext XB13
            replace NZ := NZ.ext XB13
            clear hHeld
            have hHeld := And.intro LB5 (LB6)
            refine hK.out _ _ hHeld (fun _ => ?_)
            clear hK K
            try simp only [Act.put, List.setIfInBounds_toArray, List.set_cons_zero, List.set_cons_succ]
            refine wpAnyH_ready (rs := [1]) (by kernel_rfl) (by simp) ?_
            refine AllReadyH.cons (o := { dst := some 66, op := Go.Op.call { callee := Go.Callee.value (Go.Operand.func 8), args := #[Go.Operand.tmp 65], argTypes := #[26] }, type := 26, pos := "law.go:92", after := #[{ on := 0, ground := Go.Ground.data }], guard := none }) rfl (fun K hK => ?_) (AllReadyH.nil)
            go_simp
            refine (not_any p a _ PA.is).mono ?_
            rintro e w66 ⟨n3, rfl, hq, x⟩
            have M1 := hq.bs.now
            have Fn3 := M1.is.flat
            clear hq
            have z215 := x.size
            replace E := E.trans x
            replace LB5 := LB5.ext x
            replace LB6 := LB6.ext x
            replace LB7 := LB7.ext x
            replace LB9 := LB9.ext x
            replace LB11 := LB11.ext x
            replace PA := PA.ext x
            replace PB := PB.ext x
            replace NX := NX.ext x
            replace NY := NY.ext x
            replace NZ := NZ.ext x
            replace LB13 := LB13.ext x
            replace RB13 := RB13.ext x
            clear x
            clear hHeld
            have hHeld := And.intro LB5 (LB6)
            refine hK.out _ _ hHeld (fun _ => ?_)
            clear hK K
            try simp only [Act.put, List.setIfInBounds_toArray, List.set_cons_zero, List.set_cons_succ]
            refine wpAnyH_ready (rs := [2]) (by kernel_rfl) (by simp) ?_
            refine AllReadyH.cons (o := { dst := some 67, op := Go.Op.call { callee := Go.Callee.value (Go.Operand.func 7), args := #[Go.Operand.tmp 66], argTypes := #[26] }, type := 34, pos := "law.go:92", after := #[{ on := 1, ground := Go.Ground.data }, { on := 1, ground := Go.Ground.chain }], guard := none }) rfl (fun K hK => ?_) (AllReadyH.nil)
            go_simp
            refine (VecS.bits_of n3 (notL a) _ M1.is).mono ?_
            rintro e w67 ⟨o7, rfl, hq, x⟩
            have V1 := hq _ M1
            clear M1
            clear hq
            have z216 := x.size
            replace E := E.trans x
            replace LB5 := LB5.ext x
            replace LB6 := LB6.ext x
            replace LB7 := LB7.ext x
            replace LB9 := LB9.ext x
            replace LB11 := LB11.ext x
            replace PA := PA.ext x
            replace PB := PB.ext x
            replace NX := NX.ext x
            replace NY := NY.ext x
            replace NZ := NZ.ext x
            replace LB13 := LB13.ext x
            replace RB13 := RB13.ext x
            clear x
            clear hHeld
            have hHeld := And.intro LB5 (LB6)
            refine hK.out _ _ hHeld (fun _ => ?_)
            clear hK K
            try simp only [Act.put, List.setIfInBounds_toArray, List.set_cons_zero, List.set_cons_succ]
            refine wpAnyH_ready (rs := [4]) (by kernel_rfl) (by simp) ?_
            refine AllReadyH.cons (o := { dst := some 69, op := Go.Op.call { callee := Go.Callee.value (Go.Operand.func 8), args := #[Go.Operand.tmp 68], argTypes := #[26] }, type := 26, pos := "law.go:92", after := #[{ on := 3, ground := Go.Ground.data }, { on := 2, ground := Go.Ground.chain }], guard := none }) rfl (fun K hK => ?_) (AllReadyH.nil)
            go_simp
            refine (not_any q b _ PB.is).mono ?_
            rintro e w69 ⟨n4, rfl, hq, x⟩
            have M2 := hq.bs.now
            have Fn4 := M2.is.flat
            clear hq
            have z217 := x.size
            replace E := E.trans x
            replace LB5 := LB5.ext x
            replace LB6 := LB6.ext x
            replace LB7 := LB7.ext x
            replace LB9 := LB9.ext x
            replace LB11 := LB11.ext x
            replace PA := PA.ext x
            replace PB := PB.ext x
            replace NX := NX.ext x
            replace NY := NY.ext x
            replace NZ := NZ.ext x
            replace LB13 := LB13.ext x
            replace RB13 := RB13.ext x
            replace V1 := V1.ext x
            clear x
            clear hHeld
            have hHeld := And.intro LB5 (LB6)
            refine hK.out _ _ hHeld (fun _ => ?_)
            clear hK K
            try simp only [Act.put, List.setIfInBounds_toArray, List.set_cons_zero, List.set_cons_succ]
            refine wpAnyH_ready (rs := [5]) (by kernel_rfl) (by simp) ?_
            refine AllReadyH.cons (o := { dst := some 70, op := Go.Op.call { callee := Go.Callee.value (Go.Operand.func 7), args := #[Go.Operand.tmp 69], argTypes := #[26] }, type := 34, pos := "law.go:92", after := #[{ on := 4, ground := Go.Ground.data }, { on := 4, ground := Go.Ground.chain }], guard := none }) rfl (fun K hK => ?_) (AllReadyH.nil)
            go_simp
            refine (VecS.bits_of n4 (notL b) _ M2.is).mono ?_
            rintro e w70 ⟨o8, rfl, hq, x⟩
            have V2 := hq _ M2
            clear M2
            clear hq
            have z218 := x.size
            replace E := E.trans x
            replace LB5 := LB5.ext x
            replace LB6 := LB6.ext x
            replace LB7 := LB7.ext x
            replace LB9 := LB9.ext x
            replace LB11 := LB11.ext x
            replace PA := PA.ext x
            replace PB := PB.ext x
            replace NX := NX.ext x
            replace NY := NY.ext x
            replace NZ := NZ.ext x
            replace LB13 := LB13.ext x
            replace RB13 := RB13.ext x
            replace V1 := V1.ext x
            clear x
            clear hHeld
            have hHeld := And.intro LB5 (LB6)
            refine hK.out _ _ hHeld (fun _ => ?_)
            clear hK K
            try simp only [Act.put, List.setIfInBounds_toArray, List.set_cons_zero, List.set_cons_succ]
            refine wpAnyH_ready (rs := [6]) (by kernel_rfl) (by simp) ?_
            refine AllReadyH.cons (o := { dst := some 71, op := Go.Op.call { callee := Go.Callee.value (Go.Operand.func 6), args := #[Go.Operand.const (Go.Value.int Go.IntKind.i64 24), Go.Operand.tmp 67, Go.Operand.tmp 70], argTypes := #[3, 34, 34] }, type := 36, pos := "law.go:92", after := #[{ on := 2, ground := Go.Ground.data }, { on := 5, ground := Go.Ground.data }, { on := 5, ground := Go.Ground.chain }], guard := none }) rfl (fun K hK => ?_) (AllReadyH.nil)
            go_simp
            refine (c24 _ _ _ V1.is V2.is).mono ?_
            rintro e w71 ⟨x4, rfl, hq, x⟩
            clear V1 V2
            have NW := hq.now
            have Fx4 := NW.is.flat
            clear hq
            have z219 := x.size
            replace E := E.trans x
            replace LB5 := LB5.ext x
            replace LB6 := LB6.ext x
            replace LB7 := LB7.ext x
            replace LB9 := LB9.ext x
            replace LB11 := LB11.ext x
            replace PA := PA.ext x
            replace PB := PB.ext x
            replace NX := NX.ext x
            replace NY := NY.ext x
            replace NZ := NZ.ext x
            replace LB13 := LB13.ext x
            replace RB13 := RB13.ext x
            clear x
            clear hHeld
            have hHeld := And.intro LB5 (LB6)
            refine hK.out _ _ hHeld (fun _ => ?_)
            clear hK K
            try simp only [Act.put, List.setIfInBounds_toArray, List.set_cons_zero, List.set_cons_succ]
            refine wpAnyH_take (i := 7) (oi := { dst := some 64, op := Go.Op.move (Go.Operand.tmp 71), type := 36, pos := "law.go:92", after := #[{ on := 6, ground := Go.Ground.data }], guard := none }) (v := ?v220) rfl (by kernel_rfl) (by kernel_rfl) (by kernel_rfl) (fun _ _ _ h => h) (Or.inl ⟨by rfl, ?hy220⟩) hHeld ?rest220
            case hy220 => (intro w hSw; (try dsimp only at hSw); go_simp; (first | done | with_reducible rfl))
            try simp only [Act.put, List.setIfInBounds_toArray, List.set_cons_zero, List.set_cons_succ]
            refine wpAnyH_take (i := 8) (oi := { dst := some 72, op := Go.Op.extract (Go.Operand.tmp 64) 0, type := 34, pos := "law.go:92", after := #[{ on := 7, ground := Go.Ground.data }], guard := none }) (v := ?v221) rfl (by kernel_rfl) (by kernel_rfl) (by kernel_rfl) (fun _ _ _ h => h) (Or.inl ⟨by rfl, ?hy221⟩) hHeld ?rest221
            case hy221 => (intro w hSw; (try dsimp only at hSw); go_simp; (first | done | with_reducible rfl))
            try simp only [Act.put, List.setIfInBounds_toArray, List.set_cons_zero, List.set_cons_succ]
            refine wpAnyH_take (i := 9) (oi := { dst := some 73, op := Go.Op.extract (Go.Operand.tmp 64) 1, type := 35, pos := "law.go:92", after := #[{ on := 7, ground := Go.Ground.data }, { on := 11, ground := Go.Ground.gcOnly Go.Departure.lateStores }], guard := none }) (v := ?v222) rfl (by kernel_rfl) (by kernel_rfl) (by kernel_rfl) (fun _ _ _ h => h) (Or.inl ⟨by rfl, ?hy222⟩) hHeld ?rest222
            case hy222 => (intro w hSw; (try dsimp only at hSw); go_simp; (first | done | with_reducible rfl))
            try simp only [Act.put, List.setIfInBounds_toArray, List.set_cons_zero, List.set_cons_succ]
            refine wpAnyH_ready (rs := [11]) (by kernel_rfl) (by simp) ?_
            refine AllReadyH.cons (o := { dst := none, op := Go.Op.store 34 (Go.Operand.tmp 13) (Go.Operand.tmp 72), type := 0, pos := "law.go:92", after := #[{ on := 10, ground := Go.Ground.data }, { on := 8, ground := Go.Ground.data }, { on := 6, ground := Go.Ground.chain }, { on := 0, ground := Go.Ground.phase }, { on := 1, ground := Go.Ground.phase }, { on := 2, ground := Go.Ground.phase }, { on := 3, ground := Go.Ground.phase }, { on := 4, ground := Go.Ground.phase }, { on := 5, ground := Go.Ground.phase }, { on := 6, ground := Go.Ground.phase }, { on := 7, ground := Go.Ground.phase }, { on := 8, ground := Go.Ground.phase }, { on := 9, ground := Go.Ground.textOnly Go.Departure.lateStores }, { on := 10, ground := Go.Ground.phase }], guard := none }) rfl (fun K hK => ?_) (AllReadyH.nil)
            rw [if_pos (by rfl)]
            have hRl := (RB13).lt (Nat.zero_lt_succ _)
            refine storeV (by rfl) (by rfl) (v := x4) (by rfl) RB13 Fx4 ?_
            clear LB13
            intro s223 G223 LB13 RQ
            have z224 := G223.size
            replace E := grown_ext E G223 (by omega)
            replace LB5 := LB5.grown G223 (by omega)
            replace LB6 := LB6.grown G223 (by omega)
            replace LB7 := LB7.grown G223 (by omega)
            replace LB9 := LB9.grown G223 (by omega)
            replace LB11 := LB11.grown G223 (by omega)
            replace PA := PA.grown G223 (by first | omega | (dsimp only [New]; omega))
            replace PB := PB.grown G223 (by first | omega | (dsimp only [New]; omega))
            replace NX := NX.grown G223 (by first | omega | (dsimp only [New]; omega))
            replace NY := NY.grown G223 (by first | omega | (dsimp only [New]; omega))
            replace NZ := NZ.grown G223 (by first | omega | (dsimp only [New]; omega))
            replace NW := NW.grown G223 (by first | omega | (dsimp only [New]; omega))
            clear RB13
            have RB13 := RQ
            clear RQ hRl G223
            clear hHeld
            have hHeld := And.intro LB5 (LB6)
            refine hK.out _ _ hHeld (fun _ => ?_)
            clear hK K
            try simp only [Act.put]
            refine wpAnyH_take (i := 12) (oi := { dst := some 14, op := Go.Op.assign (Go.Operand.tmp 73), type := 35, pos := "law.go:92", after := #[{ on := 9, ground := Go.Ground.data }, { on := 11, ground := Go.Ground.chain }, { on := 0, ground := Go.Ground.phase }, { on := 1, ground := Go.Ground.phase }, { on := 2, ground := Go.Ground.phase }, { on := 3, ground := Go.Ground.phase }, { on := 4, ground := Go.Ground.phase }, { on := 5, ground := Go.Ground.phase }, { on := 6, ground := Go.Ground.phase }, { on := 7, ground := Go.Ground.phase }, { on := 8, ground := Go.Ground.phase }, { on := 9, ground := Go.Ground.phase }, { on := 10, ground := Go.Ground.phase }, { on := 11, ground := Go.Ground.phase }], guard := none }) (v := ?v225) rfl (by kernel_rfl) (by kernel_rfl) (by kernel_rfl) (fun _ _ _ h => h) (Or.inl ⟨by rfl, ?hy225⟩) hHeld ?rest225
            case hy225 => (intro w hSw; (try dsimp only at hSw); go_simp; (first | done | with_reducible rfl))
            try simp only [Act.put, List.setIfInBounds_toArray, List.set_cons_zero, List.set_cons_succ]
            refine wpAnyH_done (by kernel_rfl) ?_ _
            refine J s223 B13 n3 o7 n4 o8 x4 ?_
            exact ⟨by omega, ⟨by omega, by omega⟩, E, LB5, LB7, LB9, LB11, LB13, PA.mono (fun _ hi _ => hi), PB.mono (fun _ hi _ => hi), NX.mono (fun _ hi _ => hi), NY.mono (fun _ hi _ => hi), NZ.mono (fun _ hi _ => hi), NW.mono (fun _ hi _ => hi)⟩
        case t =>
          intro wJ7 B13 n3 o7 n4 o8 x4 hJ
          clear E LB5 LB6 LB7 LB9 LB11 PA PB NX NY NZ
          obtain ⟨z226, ⟨bB13, cB13⟩, E, LB5, LB7, LB9, LB11, LB13, PA, PB, NX, NY, NZ, NW⟩ := hJ
          try dsimp only
          go_wp2_with (refine loadsV (B := B7) (by rfl) rfl rfl LB7 ?_)
          clear LB7
          refine (VecS.packed x1 X _ NX.is).mono ?_
          rintro e w76 ⟨r1, rfl, hq, x⟩
          have R1 := hq _ NX
          have Fr1 := R1.is.flat
          clear hq
          have z227 := x.size
          replace E := E.trans x
          replace LB5 := LB5.ext x
          replace LB9 := LB9.ext x
          replace LB11 := LB11.ext x
          replace LB13 := LB13.ext x
          replace PA := PA.ext x
          replace PB := PB.ext x
          replace NX := NX.ext x
          replace NY := NY.ext x
          replace NZ := NZ.ext x
          replace NW := NW.ext x
          clear x
          have TB15 : True := trivial
          have TG229 : True := trivial
          go_wp2_with (first | (clear TB15; refine allocsB rfl rfl ?_; intro B15 w15 bB15 cB15 XB15 LB15 RB15; have z228 := XB15.size; replace E := E.trans XB15; replace LB5 := LB5.ext XB15; replace LB9 := LB9.ext XB15; replace LB11 := LB11.ext XB15; replace LB13 := LB13.ext XB15; replace PA := PA.ext XB15; replace PB := PB.ext XB15; replace NX := NX.ext XB15; replace NY := NY.ext XB15; replace NZ := NZ.ext XB15; replace NW := NW.ext XB15; replace R1 := R1.ext XB15) | (clear TG229; have hRl := (RB15).lt (Nat.zero_lt_succ _); refine storesB (B := B15) rfl rfl rfl (v := r1) rfl RB15 Fr1 ?_; clear LB15; intro s229 G229 LB15 RQ; have z230 := G229.size; replace E := grown_ext E G229 (by omega); replace LB5 := LB5.grown G229 (by omega); replace LB9 := LB9.grown G229 (by omega); replace LB11 := LB11.grown G229 (by omega); replace LB13 := LB13.grown G229 (by omega); replace PA := PA.grown G229 (by first | omega | (dsimp only [New]; omega)); replace PB := PB.grown G229 (by first | omega | (dsimp only [New]; omega)); replace NX := NX.grown G229 (by first | omega | (dsimp only [New]; omega)); replace NY := NY.grown G229 (by first | omega | (dsimp only [New]; omega)); replace NZ := NZ.grown G229 (by first | omega | (dsimp only [New]; omega)); replace NW := NW.grown G229 (by first | omega | (dsimp only [New]; omega)); replace R1 := R1.grown G229 (by first | omega | (dsimp only [New]; omega)); clear RB15; have RB15 := RQ; clear RQ hRl; clear RB15) | (refine loadsV (B := B9) (by rfl) rfl rfl LB9 ?_))
          clear LB9
          refine (VecS.packed x2 Y _ NY.is).mono ?_
          rintro e w81 ⟨r2, rfl, hq, x⟩
          have R2 := hq _ NY
          have Fr2 := R2.is.flat
          clear hq
          have z231 := x.size
          replace E := E.trans x
          replace LB5 := LB5.ext x
          replace LB11 := LB11.ext x
          replace LB13 := LB13.ext x
          replace PA := PA.ext x
          replace PB := PB.ext x
          replace NX := NX.ext x
          replace NY := NY.ext x
          replace NZ := NZ.ext x
          replace NW := NW.ext x
          replace R1 := R1.ext x
          replace LB15 := LB15.ext x
          clear x
          have TB17 : True := trivial
          have TG233 : True := trivial
          go_wp2_with (first | (clear TB17; refine allocsB rfl rfl ?_; intro B17 w17 bB17 cB17 XB17 LB17 RB17; have z232 := XB17.size; replace E := E.trans XB17; replace LB5 := LB5.ext XB17; replace LB11 := LB11.ext XB17; replace LB13 := LB13.ext XB17; replace PA := PA.ext XB17; replace PB := PB.ext XB17; replace NX := NX.ext XB17; replace NY := NY.ext XB17; replace NZ := NZ.ext XB17; replace NW := NW.ext XB17; replace R1 := R1.ext XB17; replace LB15 := LB15.ext XB17; replace R2 := R2.ext XB17) | (clear TG233; have hRl := (RB17).lt (Nat.zero_lt_succ _); refine storesB (B := B17) rfl rfl rfl (v := r2) rfl RB17 Fr2 ?_; clear LB17; intro s233 G233 LB17 RQ; have z234 := G233.size; replace E := grown_ext E G233 (by omega); replace LB5 := LB5.grown G233 (by omega); replace LB11 := LB11.grown G233 (by omega); replace LB13 := LB13.grown G233 (by omega); replace PA := PA.grown G233 (by first | omega | (dsimp only [New]; omega)); replace PB := PB.grown G233 (by first | omega | (dsimp only [New]; omega)); replace NX := NX.grown G233 (by first | omega | (dsimp only [New]; omega)); replace NY := NY.grown G233 (by first | omega | (dsimp only [New]; omega)); replace NZ := NZ.grown G233 (by first | omega | (dsimp only [New]; omega)); replace NW := NW.grown G233 (by first | omega | (dsimp only [New]; omega)); replace R1 := R1.grown G233 (by first | omega | (dsimp only [New]; omega)); replace LB15 := LB15.grown G233 (by omega); replace R2 := R2.grown G233 (by first | omega | (dsimp only [New]; omega)); clear RB17; have RB17 := RQ; clear RQ hRl; clear RB17) | (refine loadsV (B := B11) (by rfl) rfl rfl LB11 ?_))
          clear LB11
          refine (VecS.packed x3 Y _ NZ.is).mono ?_
          rintro e w86 ⟨r3, rfl, hq, x⟩
          have R3 := hq _ NZ
          have Fr3 := R3.is.flat
          clear hq
          have z235 := x.size
          replace E := E.trans x
          replace LB5 := LB5.ext x
          replace LB13 := LB13.ext x
          replace PA := PA.ext x
          replace PB := PB.ext x
          replace NX := NX.ext x
          replace NY := NY.ext x
          replace NZ := NZ.ext x
          replace NW := NW.ext x
          replace R1 := R1.ext x
          replace LB15 := LB15.ext x
          replace R2 := R2.ext x
          replace LB17 := LB17.ext x
          clear x
          have TB19 : True := trivial
          have TG237 : True := trivial
          go_wp2_with (first | (clear TB19; refine allocsB rfl rfl ?_; intro B19 w19 bB19 cB19 XB19 LB19 RB19; have z236 := XB19.size; replace E := E.trans XB19; replace LB5 := LB5.ext XB19; replace LB13 := LB13.ext XB19; replace PA := PA.ext XB19; replace PB := PB.ext XB19; replace NX := NX.ext XB19; replace NY := NY.ext XB19; replace NZ := NZ.ext XB19; replace NW := NW.ext XB19; replace R1 := R1.ext XB19; replace LB15 := LB15.ext XB19; replace R2 := R2.ext XB19; replace LB17 := LB17.ext XB19; replace R3 := R3.ext XB19) | (clear TG237; have hRl := (RB19).lt (Nat.zero_lt_succ _); refine storesB (B := B19) rfl rfl rfl (v := r3) rfl RB19 Fr3 ?_; clear LB19; intro s237 G237 LB19 RQ; have z238 := G237.size; replace E := grown_ext E G237 (by omega); replace LB5 := LB5.grown G237 (by omega); replace LB13 := LB13.grown G237 (by omega); replace PA := PA.grown G237 (by first | omega | (dsimp only [New]; omega)); replace PB := PB.grown G237 (by first | omega | (dsimp only [New]; omega)); replace NX := NX.grown G237 (by first | omega | (dsimp only [New]; omega)); replace NY := NY.grown G237 (by first | omega | (dsimp only [New]; omega)); replace NZ := NZ.grown G237 (by first | omega | (dsimp only [New]; omega)); replace NW := NW.grown G237 (by first | omega | (dsimp only [New]; omega)); replace R1 := R1.grown G237 (by first | omega | (dsimp only [New]; omega)); replace LB15 := LB15.grown G237 (by omega); replace R2 := R2.grown G237 (by first | omega | (dsimp only [New]; omega)); replace LB17 := LB17.grown G237 (by omega); replace R3 := R3.grown G237 (by first | omega | (dsimp only [New]; omega)); clear RB19; have RB19 := RQ; clear RQ hRl; clear RB19) | (refine loadsV (B := B13) (by rfl) rfl rfl LB13 ?_))
          clear LB13
          refine (VecS.packed x4 X _ NW.is).mono ?_
          rintro e w91 ⟨r4, rfl, hq, x⟩
          have R4 := hq _ NW
          have Fr4 := R4.is.flat
          clear hq
          have z239 := x.size
          replace E := E.trans x
          replace LB5 := LB5.ext x
          replace PA := PA.ext x
          replace PB := PB.ext x
          replace NX := NX.ext x
          replace NY := NY.ext x
          replace NZ := NZ.ext x
          replace NW := NW.ext x
          replace R1 := R1.ext x
          replace LB15 := LB15.ext x
          replace R2 := R2.ext x
          replace LB17 := LB17.ext x
          replace R3 := R3.ext x
          replace LB19 := LB19.ext x
          clear x
          have TB21 : True := trivial
          have TG241 : True := trivial
          go_wp2_with (first | (clear TB21; refine allocsB rfl rfl ?_; intro B21 w21 bB21 cB21 XB21 LB21 RB21; have z240 := XB21.size; replace E := E.trans XB21; replace LB5 := LB5.ext XB21; replace PA := PA.ext XB21; replace PB := PB.ext XB21; replace NX := NX.ext XB21; replace NY := NY.ext XB21; replace NZ := NZ.ext XB21; replace NW := NW.ext XB21; replace R1 := R1.ext XB21; replace LB15 := LB15.ext XB21; replace R2 := R2.ext XB21; replace LB17 := LB17.ext XB21; replace R3 := R3.ext XB21; replace LB19 := LB19.ext XB21; replace R4 := R4.ext XB21) | (clear TG241; have hRl := (RB21).lt (Nat.zero_lt_succ _); refine storesB (B := B21) rfl rfl rfl (v := r4) rfl RB21 Fr4 ?_; clear LB21; intro s241 G241 LB21 RQ; have z242 := G241.size; replace E := grown_ext E G241 (by omega); replace LB5 := LB5.grown G241 (by omega); replace PA := PA.grown G241 (by first | omega | (dsimp only [New]; omega)); replace PB := PB.grown G241 (by first | omega | (dsimp only [New]; omega)); replace NX := NX.grown G241 (by first | omega | (dsimp only [New]; omega)); replace NY := NY.grown G241 (by first | omega | (dsimp only [New]; omega)); replace NZ := NZ.grown G241 (by first | omega | (dsimp only [New]; omega)); replace NW := NW.grown G241 (by first | omega | (dsimp only [New]; omega)); replace R1 := R1.grown G241 (by first | omega | (dsimp only [New]; omega)); replace LB15 := LB15.grown G241 (by omega); replace R2 := R2.grown G241 (by first | omega | (dsimp only [New]; omega)); replace LB17 := LB17.grown G241 (by omega); replace R3 := R3.grown G241 (by first | omega | (dsimp only [New]; omega)); replace LB19 := LB19.grown G241 (by omega); replace R4 := R4.grown G241 (by first | omega | (dsimp only [New]; omega)); clear RB21; have RB21 := RQ; clear RQ hRl; clear RB21))
          try simp only [Act.put, List.setIfInBounds_toArray, List.set_cons_zero, List.set_cons_succ]
          have hq243 : s241.heap.size ≤ s241.drew.heap.size := Nat.le_refl _
          have z244 := (Ext.refl s241).drew.size
          replace E := E.trans (Ext.refl s241).drew
          replace LB5 := LB5.ext (Ext.refl s241).drew
          replace PA := PA.ext (Ext.refl s241).drew
          replace PB := PB.ext (Ext.refl s241).drew
          replace NX := NX.ext (Ext.refl s241).drew
          replace NY := NY.ext (Ext.refl s241).drew
          replace NZ := NZ.ext (Ext.refl s241).drew
          replace NW := NW.ext (Ext.refl s241).drew
          replace R1 := R1.ext (Ext.refl s241).drew
          replace LB15 := LB15.ext (Ext.refl s241).drew
          replace R2 := R2.ext (Ext.refl s241).drew
          replace LB17 := LB17.ext (Ext.refl s241).drew
          replace R3 := R3.ext (Ext.refl s241).drew
          replace LB19 := LB19.ext (Ext.refl s241).drew
          replace R4 := R4.ext (Ext.refl s241).drew
          replace LB21 := LB21.ext (Ext.refl s241).drew
          refine wp_region_held_drew (S := (fun w' => Lay 2 w' B5 p)) (by kernel_rfl) LB5 (fun hHeld => ?_)
          refine wpAnyH_take (i := 0) (oi := { dst := some 94, op := Go.Op.move (Go.Operand.tmp 8), type := 35, pos := "law.go:97", after := #[], guard := none }) (v := ?v245) rfl (by kernel_rfl) (by kernel_rfl) (by kernel_rfl) (fun _ _ _ h => h) (Or.inl ⟨by rfl, ?hy245⟩) hHeld ?rest245
          case hy245 => (intro w hSw; (try dsimp only at hSw); go_simp; (first | done | with_reducible rfl))
          try simp only [Act.put, List.setIfInBounds_toArray, List.set_cons_zero, List.set_cons_succ]
          refine wpAnyH_take (i := 1) (oi := { dst := some 95, op := Go.Op.binOp Go.BinOp.neq 35 (Go.Operand.tmp 94) (Go.Operand.const (Go.Value.int Go.IntKind.i64 0)) 35, type := 4, pos := "law.go:97", after := #[{ on := 0, ground := Go.Ground.data }], guard := none }) (v := ?v246) rfl (by kernel_rfl) (by kernel_rfl) (by kernel_rfl) (fun _ _ _ h => h) (Or.inl ⟨by rfl, ?hy246⟩) hHeld ?rest246
          case hy246 => (intro w hSw; (try dsimp only at hSw); go_simp; (first | done | with_reducible rfl))
          try simp only [Act.put, List.setIfInBounds_toArray, List.set_cons_zero, List.set_cons_succ]
          refine wpAnyH_take (i := 2) (oi := { dst := some 96, op := Go.Op.move (Go.Operand.tmp 95), type := 4, pos := "law.go:97", after := #[{ on := 1, ground := Go.Ground.data }], guard := none }) (v := ?v247) rfl (by kernel_rfl) (by kernel_rfl) (by kernel_rfl) (fun _ _ _ h => h) (Or.inl ⟨by rfl, ?hy247⟩) hHeld ?rest247
          case hy247 => (intro w hSw; (try dsimp only at hSw); go_simp; (first | done | with_reducible rfl))
          try simp only [Act.put, List.setIfInBounds_toArray, List.set_cons_zero, List.set_cons_succ]
          refine wpAnyH_take (i := 3) (oi := { dst := some 97, op := Go.Op.move (Go.Operand.tmp 10), type := 35, pos := "law.go:97", after := #[{ on := 2, ground := Go.Ground.guard }], guard := some (2, false) }) (v := ?v248) rfl (by kernel_rfl) (by kernel_rfl) (by kernel_rfl) (fun _ _ _ h => h) (Or.inl ⟨by rfl, ?hy248⟩) hHeld ?rest248
          case hy248 => (intro w hSw; (try dsimp only at hSw); go_simp; (first | done | with_reducible rfl))
          try simp only [Act.put, List.setIfInBounds_toArray, List.set_cons_zero, List.set_cons_succ]
          refine wpAnyH_take (i := 4) (oi := { dst := some 98, op := Go.Op.move (Go.Operand.tmp 8), type := 35, pos := "law.go:97", after := #[{ on := 2, ground := Go.Ground.guard }], guard := some (2, false) }) (v := ?v249) rfl (by kernel_rfl) (by kernel_rfl) (by kernel_rfl) (fun _ _ _ h => h) (Or.inl ⟨by rfl, ?hy249⟩) hHeld ?rest249
          case hy249 => (intro w hSw; (try dsimp only at hSw); go_simp; (first | done | with_reducible rfl))
          try simp only [Act.put, List.setIfInBounds_toArray, List.set_cons_zero, List.set_cons_succ]
          refine wpAnyH_take (i := 5) (oi := { dst := some 99, op := Go.Op.binOp Go.BinOp.neq 35 (Go.Operand.tmp 97) (Go.Operand.tmp 98) 35, type := 4, pos := "law.go:97", after := #[{ on := 3, ground := Go.Ground.data }, { on := 4, ground := Go.Ground.data }, { on := 2, ground := Go.Ground.guard }], guard := some (2, false) }) (v := ?v250) rfl (by kernel_rfl) (by kernel_rfl) (by kernel_rfl) (fun _ _ _ h => h) (Or.inl ⟨by rfl, ?hy250⟩) hHeld ?rest250
          case hy250 => (intro w hSw; (try dsimp only at hSw); go_simp; (first | done | with_reducible rfl))
          try simp only [Act.put, List.setIfInBounds_toArray, List.set_cons_zero, List.set_cons_succ]
          refine wpAnyH_take (i := 6) (oi := { dst := some 100, op := Go.Op.pick (Go.Operand.tmp 96) (Go.Operand.const (Go.Value.bool true)) (Go.Operand.tmp 99), type := 4, pos := "law.go:97", after := #[{ on := 2, ground := Go.Ground.data }, { on := 5, ground := Go.Ground.data }], guard := none }) (v := ?v251) rfl (by kernel_rfl) (by kernel_rfl) (by kernel_rfl) (fun _ _ _ h => h) (Or.inl ⟨by rfl, ?hy251⟩) hHeld ?rest251
          case hy251 => (intro w hSw; (try dsimp only at hSw); go_simp; (first | done | with_reducible rfl))
          try simp only [Act.put, List.setIfInBounds_toArray, List.set_cons_zero, List.set_cons_succ]
          refine wpAnyH_take (i := 7) (oi := { dst := some 101, op := Go.Op.move (Go.Operand.tmp 100), type := 4, pos := "law.go:97", after := #[{ on := 6, ground := Go.Ground.data }, { on := 2, ground := Go.Ground.chain }], guard := none }) (v := ?v252) rfl (by kernel_rfl) (by kernel_rfl) (by kernel_rfl) (fun _ _ _ h => h) (Or.inl ⟨by rfl, ?hy252⟩) hHeld ?rest252
          case hy252 => (intro w hSw; (try dsimp only at hSw); go_simp; (first | done | with_reducible rfl))
          try simp only [Act.put, List.setIfInBounds_toArray, List.set_cons_zero, List.set_cons_succ]
          refine wpAnyH_take (i := 8) (oi := { dst := some 102, op := Go.Op.move (Go.Operand.tmp 12), type := 35, pos := "law.go:97", after := #[{ on := 7, ground := Go.Ground.guard }], guard := some (7, false) }) (v := ?v253) rfl (by kernel_rfl) (by kernel_rfl) (by kernel_rfl) (fun _ _ _ h => h) (Or.inl ⟨by rfl, ?hy253⟩) hHeld ?rest253
          case hy253 => (intro w hSw; (try dsimp only at hSw); go_simp; (first | done | with_reducible rfl))
          try simp only [Act.put, List.setIfInBounds_toArray, List.set_cons_zero, List.set_cons_succ]
          refine wpAnyH_take (i := 9) (oi := { dst := some 103, op := Go.Op.move (Go.Operand.tmp 8), type := 35, pos := "law.go:97", after := #[{ on := 7, ground := Go.Ground.guard }], guard := some (7, false) }) (v := ?v254) rfl (by kernel_rfl) (by kernel_rfl) (by kernel_rfl) (fun _ _ _ h => h) (Or.inl ⟨by rfl, ?hy254⟩) hHeld ?rest254
          case hy254 => (intro w hSw; (try dsimp only at hSw); go_simp; (first | done | with_reducible rfl))
          try simp only [Act.put, List.setIfInBounds_toArray, List.set_cons_zero, List.set_cons_succ]
          refine wpAnyH_take (i := 10) (oi := { dst := some 104, op := Go.Op.binOp Go.BinOp.neq 35 (Go.Operand.tmp 102) (Go.Operand.tmp 103) 35, type := 4, pos := "law.go:97", after := #[{ on := 8, ground := Go.Ground.data }, { on := 9, ground := Go.Ground.data }, { on := 7, ground := Go.Ground.guard }], guard := some (7, false) }) (v := ?v255) rfl (by kernel_rfl) (by kernel_rfl) (by kernel_rfl) (fun _ _ _ h => h) (Or.inl ⟨by rfl, ?hy255⟩) hHeld ?rest255
          case hy255 => (intro w hSw; (try dsimp only at hSw); go_simp; (first | done | with_reducible rfl))
          try simp only [Act.put, List.setIfInBounds_toArray, List.set_cons_zero, List.set_cons_succ]
          refine wpAnyH_take (i := 11) (oi := { dst := some 105, op := Go.Op.pick (Go.Operand.tmp 101) (Go.Operand.const (Go.Value.bool true)) (Go.Operand.tmp 104), type := 4, pos := "law.go:97", after := #[{ on := 7, ground := Go.Ground.data }, { on := 10, ground := Go.Ground.data }], guard := none }) (v := ?v256) rfl (by kernel_rfl) (by kernel_rfl) (by kernel_rfl) (fun _ _ _ h => h) (Or.inl ⟨by rfl, ?hy256⟩) hHeld ?rest256
          case hy256 => (intro w hSw; (try dsimp only at hSw); go_simp; (first | done | with_reducible rfl))
          try simp only [Act.put, List.setIfInBounds_toArray, List.set_cons_zero, List.set_cons_succ]
          refine wpAnyH_take (i := 12) (oi := { dst := some 106, op := Go.Op.move (Go.Operand.tmp 105), type := 4, pos := "law.go:97", after := #[{ on := 11, ground := Go.Ground.data }, { on := 7, ground := Go.Ground.chain }], guard := none }) (v := ?v257) rfl (by kernel_rfl) (by kernel_rfl) (by kernel_rfl) (fun _ _ _ h => h) (Or.inl ⟨by rfl, ?hy257⟩) hHeld ?rest257
          case hy257 => (intro w hSw; (try dsimp only at hSw); go_simp; (first | done | with_reducible rfl))
          try simp only [Act.put, List.setIfInBounds_toArray, List.set_cons_zero, List.set_cons_succ]
          refine wpAnyH_take (i := 13) (oi := { dst := some 107, op := Go.Op.move (Go.Operand.tmp 14), type := 35, pos := "law.go:97", after := #[{ on := 12, ground := Go.Ground.guard }], guard := some (12, false) }) (v := ?v258) rfl (by kernel_rfl) (by kernel_rfl) (by kernel_rfl) (fun _ _ _ h => h) (Or.inl ⟨by rfl, ?hy258⟩) hHeld ?rest258
          case hy258 => (intro w hSw; (try dsimp only at hSw); go_simp; (first | done | with_reducible rfl))
          try simp only [Act.put, List.setIfInBounds_toArray, List.set_cons_zero, List.set_cons_succ]
          refine wpAnyH_take (i := 14) (oi := { dst := some 108, op := Go.Op.move (Go.Operand.tmp 8), type := 35, pos := "law.go:97", after := #[{ on := 12, ground := Go.Ground.guard }], guard := some (12, false) }) (v := ?v259) rfl (by kernel_rfl) (by kernel_rfl) (by kernel_rfl) (fun _ _ _ h => h) (Or.inl ⟨by rfl, ?hy259⟩) hHeld ?rest259
          case hy259 => (intro w hSw; (try dsimp only at hSw); go_simp; (first | done | with_reducible rfl))
          try simp only [Act.put, List.setIfInBounds_toArray, List.set_cons_zero, List.set_cons_succ]
          refine wpAnyH_take (i := 15) (oi := { dst := some 109, op := Go.Op.binOp Go.BinOp.neq 35 (Go.Operand.tmp 107) (Go.Operand.tmp 108) 35, type := 4, pos := "law.go:97", after := #[{ on := 13, ground := Go.Ground.data }, { on := 14, ground := Go.Ground.data }, { on := 12, ground := Go.Ground.guard }], guard := some (12, false) }) (v := ?v260) rfl (by kernel_rfl) (by kernel_rfl) (by kernel_rfl) (fun _ _ _ h => h) (Or.inl ⟨by rfl, ?hy260⟩) hHeld ?rest260
          case hy260 => (intro w hSw; (try dsimp only at hSw); go_simp; (first | done | with_reducible rfl))
          try simp only [Act.put, List.setIfInBounds_toArray, List.set_cons_zero, List.set_cons_succ]
          refine wpAnyH_take (i := 16) (oi := { dst := some 110, op := Go.Op.pick (Go.Operand.tmp 106) (Go.Operand.const (Go.Value.bool true)) (Go.Operand.tmp 109), type := 4, pos := "law.go:97", after := #[{ on := 12, ground := Go.Ground.data }, { on := 15, ground := Go.Ground.data }], guard := none }) (v := ?v261) rfl (by kernel_rfl) (by kernel_rfl) (by kernel_rfl) (fun _ _ _ h => h) (Or.inl ⟨by rfl, ?hy261⟩) hHeld ?rest261
          case hy261 => (intro w hSw; (try dsimp only at hSw); go_simp; (first | done | with_reducible rfl))
          try simp only [Act.put, List.setIfInBounds_toArray, List.set_cons_zero, List.set_cons_succ]
          refine wpAnyH_take (i := 17) (oi := { dst := some 111, op := Go.Op.move (Go.Operand.tmp 110), type := 4, pos := "law.go:97", after := #[{ on := 16, ground := Go.Ground.data }, { on := 12, ground := Go.Ground.chain }], guard := none }) (v := ?v262) rfl (by kernel_rfl) (by kernel_rfl) (by kernel_rfl) (fun _ _ _ h => h) (Or.inl ⟨by rfl, ?hy262⟩) hHeld ?rest262
          case hy262 => (intro w hSw; (try dsimp only at hSw); go_simp; (first | done | with_reducible rfl))
          try simp only [Act.put, List.setIfInBounds_toArray, List.set_cons_zero, List.set_cons_succ]
          refine wpAnyH_take (i := 18) (oi := { dst := some 112, op := Go.Op.load 26 (Go.Operand.tmp 5), type := 26, pos := "law.go:97", after := #[{ on := 17, ground := Go.Ground.guard }], guard := some (17, false) }) (v := p) rfl (by kernel_rfl) (by kernel_rfl) (by kernel_rfl) (fun _ _ _ h => h) (yieldB (by rfl) rfl rfl fun w' hx => hx) hHeld ?_
          try simp only [Act.put, List.setIfInBounds_toArray, List.set_cons_zero, List.set_cons_succ]
          refine wpAnyH_take (i := 20) (oi := { dst := some 114, op := Go.Op.load 26 (Go.Operand.tmp 5), type := 26, pos := "law.go:97", after := #[{ on := 17, ground := Go.Ground.guard }], guard := some (17, false) }) (v := p) rfl (by kernel_rfl) (by kernel_rfl) (by kernel_rfl) (fun _ _ _ h => h) (yieldB (by rfl) rfl rfl fun w' hx => hx) hHeld ?_
          try simp only [Act.put, List.setIfInBounds_toArray, List.set_cons_zero, List.set_cons_succ]
          refine wpAnyH_take (i := 22) (oi := { dst := some 116, op := Go.Op.move (Go.Operand.tmp 0), type := 22, pos := "law.go:97", after := #[{ on := 17, ground := Go.Ground.guard }], guard := some (17, false) }) (v := ?v265) rfl (by kernel_rfl) (by kernel_rfl) (by kernel_rfl) (fun _ _ _ h => h) (Or.inl ⟨by rfl, ?hy265⟩) hHeld ?rest265
          case hy265 => (intro w hSw; (try dsimp only at hSw); go_simp; (first | done | with_reducible rfl))
          try simp only [Act.put, List.setIfInBounds_toArray, List.set_cons_zero, List.set_cons_succ]
          refine wpAnyH_take (i := 23) (oi := { dst := some 117, op := Go.Op.call { callee := Go.Callee.builtin Go.Builtin.len, args := #[Go.Operand.tmp 116], argTypes := #[22] }, type := 3, pos := "law.go:97", after := #[{ on := 22, ground := Go.Ground.data }, { on := 17, ground := Go.Ground.guard }], guard := some (17, false) }) (v := ?v266) rfl (by kernel_rfl) (by kernel_rfl) (by kernel_rfl) (fun _ _ _ h => h) (Or.inl ⟨by rfl, ?hy266⟩) hHeld ?rest266
          case hy266 => (intro w hSw; (try dsimp only at hSw); go_simp; (first | done | with_reducible rfl))
          try simp only [Act.put, List.setIfInBounds_toArray, List.set_cons_zero, List.set_cons_succ]
          refine wpAnyH_ready (rs := [19]) (by kernel_rfl) (by simp) ?_
          refine AllReadyH.cons (o := { dst := some 113, op := Go.Op.call { callee := Go.Callee.value (Go.Operand.func 10), args := #[Go.Operand.tmp 112], argTypes := #[26] }, type := 4, pos := "law.go:97", after := #[{ on := 18, ground := Go.Ground.data }, { on := 17, ground := Go.Ground.chain }, { on := 17, ground := Go.Ground.guard }], guard := some (17, false) }) rfl (fun K hK => ?_) (AllReadyH.nil)
          go_simp
          refine (ka p _ PA.is).mono ?_
          rintro e w113 ⟨rfl, x⟩
          have z267 := x.size
          replace E := E.trans x
          replace LB5 := LB5.ext x
          replace PA := PA.ext x
          replace PB := PB.ext x
          replace NX := NX.ext x
          replace NY := NY.ext x
          replace NZ := NZ.ext x
          replace NW := NW.ext x
          replace R1 := R1.ext x
          replace LB15 := LB15.ext x
          replace R2 := R2.ext x
          replace LB17 := LB17.ext x
          replace R3 := R3.ext x
          replace LB19 := LB19.ext x
          replace R4 := R4.ext x
          replace LB21 := LB21.ext x
          clear x
          clear hHeld
          have hHeld := LB5
          refine hK.out _ _ hHeld (fun _ => ?_)
          clear hK K
          try simp only [Act.put, List.setIfInBounds_toArray, List.set_cons_zero, List.set_cons_succ]
          refine wpAnyH_ready (rs := [21]) (by kernel_rfl) (by simp) ?_
          refine AllReadyH.cons (o := { dst := some 115, op := Go.Op.call { callee := Go.Callee.value (Go.Operand.func 11), args := #[Go.Operand.tmp 114], argTypes := #[26] }, type := 3, pos := "law.go:97", after := #[{ on := 20, ground := Go.Ground.data }, { on := 19, ground := Go.Ground.chain }, { on := 17, ground := Go.Ground.guard }], guard := some (17, false) }) rfl (fun K hK => ?_) (AllReadyH.nil)
          go_simp
          refine (kc p _ PA.is).mono ?_
          rintro e w115 ⟨rfl, x⟩
          have z268 := x.size
          replace E := E.trans x
          replace LB5 := LB5.ext x
          replace PA := PA.ext x
          replace PB := PB.ext x
          replace NX := NX.ext x
          replace NY := NY.ext x
          replace NZ := NZ.ext x
          replace NW := NW.ext x
          replace R1 := R1.ext x
          replace LB15 := LB15.ext x
          replace R2 := R2.ext x
          replace LB17 := LB17.ext x
          replace R3 := R3.ext x
          replace LB19 := LB19.ext x
          replace R4 := R4.ext x
          replace LB21 := LB21.ext x
          clear x
          clear hHeld
          have hHeld := LB5
          refine hK.out _ _ hHeld (fun _ => ?_)
          clear hK K
          try simp only [Act.put, List.setIfInBounds_toArray, List.set_cons_zero, List.set_cons_succ]
          refine wpAnyH_take (i := 24) (oi := { dst := some 118, op := Go.Op.binOp Go.BinOp.eql 3 (Go.Operand.tmp 115) (Go.Operand.tmp 117) 3, type := 4, pos := "law.go:97", after := #[{ on := 21, ground := Go.Ground.data }, { on := 23, ground := Go.Ground.data }, { on := 17, ground := Go.Ground.guard }], guard := some (17, false) }) (v := ?v269) rfl (by kernel_rfl) (by kernel_rfl) (by kernel_rfl) (fun _ _ _ h => h) (Or.inl ⟨by rfl, ?hy269⟩) hHeld ?rest269
          case hy269 => (intro w hSw; (try dsimp only at hSw); go_simp; (first | done | with_reducible rfl))
          try simp only [Act.put, List.setIfInBounds_toArray, List.set_cons_zero, List.set_cons_succ]
          refine wpAnyH_take (i := 25) (oi := { dst := some 119, op := Go.Op.binOp Go.BinOp.neq 4 (Go.Operand.tmp 113) (Go.Operand.tmp 118) 4, type := 4, pos := "law.go:97", after := #[{ on := 19, ground := Go.Ground.data }, { on := 24, ground := Go.Ground.data }, { on := 17, ground := Go.Ground.guard }], guard := some (17, false) }) (v := ?v270) rfl (by kernel_rfl) (by kernel_rfl) (by kernel_rfl) (fun _ _ _ h => h) (Or.inl ⟨by rfl, ?hy270⟩) hHeld ?rest270
          case hy270 => (intro w hSw; (try dsimp only at hSw); go_simp; (first | done | with_reducible rfl))
          try simp only [Act.put, List.setIfInBounds_toArray, List.set_cons_zero, List.set_cons_succ]
          refine wpAnyH_take (i := 26) (oi := { dst := some 120, op := Go.Op.pick (Go.Operand.tmp 111) (Go.Operand.const (Go.Value.bool true)) (Go.Operand.tmp 119), type := 4, pos := "law.go:97", after := #[{ on := 17, ground := Go.Ground.data }, { on := 25, ground := Go.Ground.data }], guard := none }) (v := ?v271) rfl (by kernel_rfl) (by kernel_rfl) (by kernel_rfl) (fun _ _ _ h => h) (Or.inl ⟨by rfl, ?hy271⟩) hHeld ?rest271
          case hy271 => (intro w hSw; (try dsimp only at hSw); go_simp; (first | done | with_reducible rfl))
          try simp only [Act.put, List.setIfInBounds_toArray, List.set_cons_zero, List.set_cons_succ]
          refine wpAnyH_take (i := 27) (oi := { dst := some 121, op := Go.Op.move (Go.Operand.tmp 120), type := 4, pos := "law.go:97", after := #[{ on := 26, ground := Go.Ground.data }, { on := 21, ground := Go.Ground.chain }], guard := none }) (v := ?v272) rfl (by kernel_rfl) (by kernel_rfl) (by kernel_rfl) (fun _ _ _ h => h) (Or.inl ⟨by rfl, ?hy272⟩) hHeld ?rest272
          case hy272 => (intro w hSw; (try dsimp only at hSw); go_simp; (first | done | with_reducible rfl))
          try simp only [Act.put, List.setIfInBounds_toArray, List.set_cons_zero, List.set_cons_succ]
          refine wpAnyH_take (i := 28) (oi := { dst := some 122, op := Go.Op.load 26 (Go.Operand.tmp 5), type := 26, pos := "law.go:97", after := #[{ on := 27, ground := Go.Ground.guard }], guard := some (27, false) }) (v := p) rfl (by kernel_rfl) (by kernel_rfl) (by kernel_rfl) (fun _ _ _ h => h) (yieldB (by rfl) rfl rfl fun w' hx => hx) hHeld ?_
          try simp only [Act.put, List.setIfInBounds_toArray, List.set_cons_zero, List.set_cons_succ]
          refine wpAnyH_take (i := 30) (oi := { dst := some 124, op := Go.Op.load 26 (Go.Operand.tmp 5), type := 26, pos := "law.go:97", after := #[{ on := 27, ground := Go.Ground.guard }], guard := some (27, false) }) (v := p) rfl (by kernel_rfl) (by kernel_rfl) (by kernel_rfl) (fun _ _ _ h => h) (yieldB (by rfl) rfl rfl fun w' hx => hx) hHeld ?_
          try simp only [Act.put, List.setIfInBounds_toArray, List.set_cons_zero, List.set_cons_succ]
          refine wpAnyH_ready (rs := [29]) (by kernel_rfl) (by simp) ?_
          refine AllReadyH.cons (o := { dst := some 123, op := Go.Op.call { callee := Go.Callee.value (Go.Operand.func 12), args := #[Go.Operand.tmp 122], argTypes := #[26] }, type := 4, pos := "law.go:97", after := #[{ on := 28, ground := Go.Ground.data }, { on := 27, ground := Go.Ground.chain }, { on := 27, ground := Go.Ground.guard }], guard := some (27, false) }) rfl (fun K hK => ?_) (AllReadyH.nil)
          go_simp
          refine (kn p _ PA.is (ht.ext E)).mono ?_
          rintro e w123 ⟨rfl, x⟩
          have z275 := x.size
          replace E := E.trans x
          replace LB5 := LB5.ext x
          replace PA := PA.ext x
          replace PB := PB.ext x
          replace NX := NX.ext x
          replace NY := NY.ext x
          replace NZ := NZ.ext x
          replace NW := NW.ext x
          replace R1 := R1.ext x
          replace LB15 := LB15.ext x
          replace R2 := R2.ext x
          replace LB17 := LB17.ext x
          replace R3 := R3.ext x
          replace LB19 := LB19.ext x
          replace R4 := R4.ext x
          replace LB21 := LB21.ext x
          clear x
          clear hHeld
          have hHeld := LB5
          refine hK.out _ _ hHeld (fun _ => ?_)
          clear hK K
          try simp only [Act.put, List.setIfInBounds_toArray, List.set_cons_zero, List.set_cons_succ]
          refine wpAnyH_ready (rs := [31]) (by kernel_rfl) (by simp) ?_
          refine AllReadyH.cons (o := { dst := some 125, op := Go.Op.call { callee := Go.Callee.value (Go.Operand.func 11), args := #[Go.Operand.tmp 124], argTypes := #[26] }, type := 3, pos := "law.go:97", after := #[{ on := 30, ground := Go.Ground.data }, { on := 29, ground := Go.Ground.chain }, { on := 27, ground := Go.Ground.guard }], guard := some (27, false) }) rfl (fun K hK => ?_) (AllReadyH.nil)
          go_simp
          refine (kc p _ PA.is).mono ?_
          rintro e w125 ⟨rfl, x⟩
          have z276 := x.size
          replace E := E.trans x
          replace LB5 := LB5.ext x
          replace PA := PA.ext x
          replace PB := PB.ext x
          replace NX := NX.ext x
          replace NY := NY.ext x
          replace NZ := NZ.ext x
          replace NW := NW.ext x
          replace R1 := R1.ext x
          replace LB15 := LB15.ext x
          replace R2 := R2.ext x
          replace LB17 := LB17.ext x
          replace R3 := R3.ext x
          replace LB19 := LB19.ext x
          replace R4 := R4.ext x
          replace LB21 := LB21.ext x
          clear x
          clear hHeld
          have hHeld := LB5
          refine hK.out _ _ hHeld (fun _ => ?_)
          clear hK K
          try simp only [Act.put, List.setIfInBounds_toArray, List.set_cons_zero, List.set_cons_succ]
          refine wpAnyH_take (i := 32) (oi := { dst := some 126, op := Go.Op.binOp Go.BinOp.gtr 3 (Go.Operand.tmp 125) (Go.Operand.const (Go.Value.int Go.IntKind.i64 0)) 3, type := 4, pos := "law.go:97", after := #[{ on := 31, ground := Go.Ground.data }, { on := 27, ground := Go.Ground.guard }], guard := some (27, false) }) (v := ?v277) rfl (by kernel_rfl) (by kernel_rfl) (by kernel_rfl) (fun _ _ _ h => h) (Or.inl ⟨by rfl, ?hy277⟩) hHeld ?rest277
          case hy277 => (intro w hSw; (try dsimp only at hSw); go_simp; (first | done | with_reducible rfl))
          try simp only [Act.put, List.setIfInBounds_toArray, List.set_cons_zero, List.set_cons_succ]
          refine wpAnyH_take (i := 33) (oi := { dst := some 127, op := Go.Op.binOp Go.BinOp.neq 4 (Go.Operand.tmp 123) (Go.Operand.tmp 126) 4, type := 4, pos := "law.go:97", after := #[{ on := 29, ground := Go.Ground.data }, { on := 32, ground := Go.Ground.data }, { on := 27, ground := Go.Ground.guard }], guard := some (27, false) }) (v := ?v278) rfl (by kernel_rfl) (by kernel_rfl) (by kernel_rfl) (fun _ _ _ h => h) (Or.inl ⟨by rfl, ?hy278⟩) hHeld ?rest278
          case hy278 => (intro w hSw; (try dsimp only at hSw); go_simp; (first | done | with_reducible rfl))
          try simp only [Act.put, List.setIfInBounds_toArray, List.set_cons_zero, List.set_cons_succ]
          refine wpAnyH_take (i := 34) (oi := { dst := some 128, op := Go.Op.pick (Go.Operand.tmp 121) (Go.Operand.const (Go.Value.bool true)) (Go.Operand.tmp 127), type := 4, pos := "law.go:97", after := #[{ on := 27, ground := Go.Ground.data }, { on := 33, ground := Go.Ground.data }], guard := none }) (v := ?v279) rfl (by kernel_rfl) (by kernel_rfl) (by kernel_rfl) (fun _ _ _ h => h) (Or.inl ⟨by rfl, ?hy279⟩) hHeld ?rest279
          case hy279 => (intro w hSw; (try dsimp only at hSw); go_simp; (first | done | with_reducible rfl))
          try simp only [Act.put, List.setIfInBounds_toArray, List.set_cons_zero, List.set_cons_succ]
          refine wpAnyH_done (by kernel_rfl) ?_ _
          go_wp2_with fail
          clear LB5
          try simp only [Act.put, List.setIfInBounds_toArray, List.set_cons_zero, List.set_cons_succ]
          have hq280 : w125.heap.size ≤ w125.drew.heap.size := Nat.le_refl _
          have z281 := (Ext.refl w125).drew.size
          replace E := E.trans (Ext.refl w125).drew
          replace PA := PA.ext (Ext.refl w125).drew
          replace PB := PB.ext (Ext.refl w125).drew
          replace NX := NX.ext (Ext.refl w125).drew
          replace NY := NY.ext (Ext.refl w125).drew
          replace NZ := NZ.ext (Ext.refl w125).drew
          replace NW := NW.ext (Ext.refl w125).drew
          replace R1 := R1.ext (Ext.refl w125).drew
          replace LB15 := LB15.ext (Ext.refl w125).drew
          replace R2 := R2.ext (Ext.refl w125).drew
          replace LB17 := LB17.ext (Ext.refl w125).drew
          replace R3 := R3.ext (Ext.refl w125).drew
          replace LB19 := LB19.ext (Ext.refl w125).drew
          replace R4 := R4.ext (Ext.refl w125).drew
          replace LB21 := LB21.ext (Ext.refl w125).drew
          refine wp_region_held_drew (S := (fun w' => Lay 2 w' B15 r1 ∧ Lay 2 w' B17 r2 ∧ Lay 2 w' B19 r3 ∧ Lay 2 w' B21 r4)) (by kernel_rfl) ⟨LB15, LB17, LB19, LB21⟩ (fun hHeld => ?_)
          refine wpAnyH_take (i := 0) (oi := { dst := some 129, op := Go.Op.load 26 (Go.Operand.tmp 15), type := 26, pos := "law.go:100", after := #[], guard := none }) (v := r1) rfl (by kernel_rfl) (by kernel_rfl) (by kernel_rfl) (fun _ _ _ h => h) (yieldB (by rfl) rfl rfl fun w' hx => hx.1) hHeld ?_
          try simp only [Act.put, List.setIfInBounds_toArray, List.set_cons_zero, List.set_cons_succ]
          refine wpAnyH_take (i := 2) (oi := { dst := some 131, op := Go.Op.load 26 (Go.Operand.tmp 17), type := 26, pos := "law.go:100", after := #[], guard := none }) (v := r2) rfl (by kernel_rfl) (by kernel_rfl) (by kernel_rfl) (fun _ _ _ h => h) (yieldB (by rfl) rfl rfl fun w' hx => hx.2.1) hHeld ?_
          try simp only [Act.put, List.setIfInBounds_toArray, List.set_cons_zero, List.set_cons_succ]
          refine wpAnyH_ready (rs := [1]) (by kernel_rfl) (by simp) ?_
          refine AllReadyH.cons (o := { dst := some 130, op := Go.Op.call { callee := Go.Callee.value (Go.Operand.func 8), args := #[Go.Operand.tmp 129], argTypes := #[26] }, type := 26, pos := "law.go:100", after := #[{ on := 0, ground := Go.Ground.data }], guard := none }) rfl (fun K hK => ?_) (AllReadyH.nil)
          go_simp
          refine (not_any r1 X _ R1.is).mono ?_
          rintro e w130 ⟨n5, rfl, hq, x⟩
          have M5 := hq.bs.now
          have Fn5 := M5.is.flat
          clear hq
          have z284 := x.size
          replace E := E.trans x
          replace PA := PA.ext x
          replace PB := PB.ext x
          replace NX := NX.ext x
          replace NY := NY.ext x
          replace NZ := NZ.ext x
          replace NW := NW.ext x
          replace R1 := R1.ext x
          replace LB15 := LB15.ext x
          replace R2 := R2.ext x
          replace LB17 := LB17.ext x
          replace R3 := R3.ext x
          replace LB19 := LB19.ext x
          replace R4 := R4.ext x
          replace LB21 := LB21.ext x
          clear x
          clear hHeld
          have hHeld := And.intro LB15 (And.intro LB17 (And.intro LB19 (LB21)))
          refine hK.out _ _ hHeld (fun _ => ?_)
          clear hK K
          try simp only [Act.put, List.setIfInBounds_toArray, List.set_cons_zero, List.set_cons_succ]
          refine wpAnyH_ready (rs := [3]) (by kernel_rfl) (by simp) ?_
          refine AllReadyH.cons (o := { dst := some 132, op := Go.Op.call { callee := Go.Callee.value (Go.Operand.func 13), args := #[Go.Operand.tmp 130, Go.Operand.tmp 131], argTypes := #[26, 26] }, type := 4, pos := "law.go:100", after := #[{ on := 1, ground := Go.Ground.data }, { on := 2, ground := Go.Ground.data }, { on := 1, ground := Go.Ground.chain }], guard := none }) rfl (fun K hK => ?_) (AllReadyH.nil)
          go_simp
          refine (e1 n5 r2 _ M5.is R2.is).mono ?_
          rintro e w132 ⟨rfl, x⟩
          have z285 := x.size
          replace E := E.trans x
          replace PA := PA.ext x
          replace PB := PB.ext x
          replace NX := NX.ext x
          replace NY := NY.ext x
          replace NZ := NZ.ext x
          replace NW := NW.ext x
          replace R1 := R1.ext x
          replace LB15 := LB15.ext x
          replace R2 := R2.ext x
          replace LB17 := LB17.ext x
          replace R3 := R3.ext x
          replace LB19 := LB19.ext x
          replace R4 := R4.ext x
          replace LB21 := LB21.ext x
          replace M5 := M5.ext x
          clear x
          clear hHeld
          have hHeld := And.intro LB15 (And.intro LB17 (And.intro LB19 (LB21)))
          refine hK.out _ _ hHeld (fun _ => ?_)
          clear hK K
          try simp only [Act.put, List.setIfInBounds_toArray, List.set_cons_zero, List.set_cons_succ]
          refine wpAnyH_take (i := 4) (oi := { dst := some 133, op := Go.Op.move (Go.Operand.tmp 132), type := 4, pos := "law.go:100", after := #[{ on := 3, ground := Go.Ground.data }, { on := 3, ground := Go.Ground.chain }], guard := none }) (v := ?v286) rfl (by kernel_rfl) (by kernel_rfl) (by kernel_rfl) (fun _ _ _ h => h) (Or.inl ⟨by rfl, ?hy286⟩) hHeld ?rest286
          case hy286 => (intro w hSw; (try dsimp only at hSw); go_simp; (first | done | with_reducible rfl))
          try simp only [Act.put, List.setIfInBounds_toArray, List.set_cons_zero, List.set_cons_succ]
          refine wpAnyH_take (i := 5) (oi := { dst := some 134, op := Go.Op.load 26 (Go.Operand.tmp 17), type := 26, pos := "law.go:100", after := #[{ on := 4, ground := Go.Ground.guard }], guard := some (4, true) }) (v := r2) rfl (by kernel_rfl) (by kernel_rfl) (by kernel_rfl) (fun _ _ _ h => h) (yieldB (by rfl) rfl rfl fun w' hx => hx.2.1) hHeld ?_
          try simp only [Act.put, List.setIfInBounds_toArray, List.set_cons_zero, List.set_cons_succ]
          refine wpAnyH_take (i := 6) (oi := { dst := some 135, op := Go.Op.load 26 (Go.Operand.tmp 19), type := 26, pos := "law.go:100", after := #[{ on := 4, ground := Go.Ground.guard }], guard := some (4, true) }) (v := r3) rfl (by kernel_rfl) (by kernel_rfl) (by kernel_rfl) (fun _ _ _ h => h) (yieldB (by rfl) rfl rfl fun w' hx => hx.2.2.1) hHeld ?_
          try simp only [Act.put, List.setIfInBounds_toArray, List.set_cons_zero, List.set_cons_succ]
          refine wpAnyH_ready (rs := [7]) (by kernel_rfl) (by simp) ?_
          refine AllReadyH.cons (o := { dst := some 136, op := Go.Op.call { callee := Go.Callee.value (Go.Operand.func 13), args := #[Go.Operand.tmp 134, Go.Operand.tmp 135], argTypes := #[26, 26] }, type := 4, pos := "law.go:100", after := #[{ on := 5, ground := Go.Ground.data }, { on := 6, ground := Go.Ground.data }, { on := 4, ground := Go.Ground.chain }, { on := 4, ground := Go.Ground.guard }], guard := some (4, true) }) rfl (fun K hK => ?_) (AllReadyH.nil)
          go_simp
          refine (e2 r2 r3 Y _ R2.is R3.is).mono ?_
          rintro e w136 ⟨rfl, x⟩
          have z289 := x.size
          replace E := E.trans x
          replace PA := PA.ext x
          replace PB := PB.ext x
          replace NX := NX.ext x
          replace NY := NY.ext x
          replace NZ := NZ.ext x
          replace NW := NW.ext x
          replace R1 := R1.ext x
          replace LB15 := LB15.ext x
          replace R2 := R2.ext x
          replace LB17 := LB17.ext x
          replace R3 := R3.ext x
          replace LB19 := LB19.ext x
          replace R4 := R4.ext x
          replace LB21 := LB21.ext x
          replace M5 := M5.ext x
          clear x
          clear hHeld
          have hHeld := And.intro LB15 (And.intro LB17 (And.intro LB19 (LB21)))
          refine hK.out _ _ hHeld (fun _ => ?_)
          clear hK K
          try simp only [Act.put, List.setIfInBounds_toArray, List.set_cons_zero, List.set_cons_succ]
          refine wpAnyH_take (i := 8) (oi := { dst := some 137, op := Go.Op.pick (Go.Operand.tmp 133) (Go.Operand.tmp 136) (Go.Operand.const (Go.Value.bool false)), type := 4, pos := "law.go:100", after := #[{ on := 4, ground := Go.Ground.data }, { on := 7, ground := Go.Ground.data }], guard := none }) (v := ?v290) rfl (by kernel_rfl) (by kernel_rfl) (by kernel_rfl) (fun _ _ _ h => h) (Or.inl ⟨by rfl, ?hy290⟩) hHeld ?rest290
          case hy290 => (intro w hSw; (try dsimp only at hSw); go_simp; (first | done | with_reducible rfl))
          try simp only [Act.put, List.setIfInBounds_toArray, List.set_cons_zero, List.set_cons_succ]
          refine wpAnyH_take (i := 9) (oi := { dst := some 138, op := Go.Op.move (Go.Operand.tmp 137), type := 4, pos := "law.go:100", after := #[{ on := 8, ground := Go.Ground.data }, { on := 7, ground := Go.Ground.chain }], guard := none }) (v := ?v291) rfl (by kernel_rfl) (by kernel_rfl) (by kernel_rfl) (fun _ _ _ h => h) (Or.inl ⟨by rfl, ?hy291⟩) hHeld ?rest291
          case hy291 => (intro w hSw; (try dsimp only at hSw); go_simp; (first | done | with_reducible rfl))
          try simp only [Act.put, List.setIfInBounds_toArray, List.set_cons_zero, List.set_cons_succ]
          refine wpAnyH_take (i := 10) (oi := { dst := some 139, op := Go.Op.load 26 (Go.Operand.tmp 15), type := 26, pos := "law.go:100", after := #[{ on := 9, ground := Go.Ground.guard }], guard := some (9, true) }) (v := r1) rfl (by kernel_rfl) (by kernel_rfl) (by kernel_rfl) (fun _ _ _ h => h) (yieldB (by rfl) rfl rfl fun w' hx => hx.1) hHeld ?_
          try simp only [Act.put, List.setIfInBounds_toArray, List.set_cons_zero, List.set_cons_succ]
          refine wpAnyH_take (i := 11) (oi := { dst := some 140, op := Go.Op.load 26 (Go.Operand.tmp 21), type := 26, pos := "law.go:100", after := #[{ on := 9, ground := Go.Ground.guard }], guard := some (9, true) }) (v := r4) rfl (by kernel_rfl) (by kernel_rfl) (by kernel_rfl) (fun _ _ _ h => h) (yieldB (by rfl) rfl rfl fun w' hx => hx.2.2.2) hHeld ?_
          try simp only [Act.put, List.setIfInBounds_toArray, List.set_cons_zero, List.set_cons_succ]
          refine wpAnyH_ready (rs := [12]) (by kernel_rfl) (by simp) ?_
          refine AllReadyH.cons (o := { dst := some 141, op := Go.Op.call { callee := Go.Callee.value (Go.Operand.func 13), args := #[Go.Operand.tmp 139, Go.Operand.tmp 140], argTypes := #[26, 26] }, type := 4, pos := "law.go:100", after := #[{ on := 10, ground := Go.Ground.data }, { on := 11, ground := Go.Ground.data }, { on := 9, ground := Go.Ground.chain }, { on := 9, ground := Go.Ground.guard }], guard := some (9, true) }) rfl (fun K hK => ?_) (AllReadyH.nil)
          go_simp
          refine (e2 r1 r4 X _ R1.is R4.is).mono ?_
          rintro e w141 ⟨rfl, x⟩
          have z294 := x.size
          replace E := E.trans x
          replace PA := PA.ext x
          replace PB := PB.ext x
          replace NX := NX.ext x
          replace NY := NY.ext x
          replace NZ := NZ.ext x
          replace NW := NW.ext x
          replace R1 := R1.ext x
          replace LB15 := LB15.ext x
          replace R2 := R2.ext x
          replace LB17 := LB17.ext x
          replace R3 := R3.ext x
          replace LB19 := LB19.ext x
          replace R4 := R4.ext x
          replace LB21 := LB21.ext x
          replace M5 := M5.ext x
          clear x
          clear hHeld
          have hHeld := And.intro LB15 (And.intro LB17 (And.intro LB19 (LB21)))
          refine hK.out _ _ hHeld (fun _ => ?_)
          clear hK K
          try simp only [Act.put, List.setIfInBounds_toArray, List.set_cons_zero, List.set_cons_succ]
          refine wpAnyH_take (i := 13) (oi := { dst := some 142, op := Go.Op.pick (Go.Operand.tmp 138) (Go.Operand.tmp 141) (Go.Operand.const (Go.Value.bool false)), type := 4, pos := "law.go:100", after := #[{ on := 9, ground := Go.Ground.data }, { on := 12, ground := Go.Ground.data }], guard := none }) (v := ?v295) rfl (by kernel_rfl) (by kernel_rfl) (by kernel_rfl) (fun _ _ _ h => h) (Or.inl ⟨by rfl, ?hy295⟩) hHeld ?rest295
          case hy295 => (intro w hSw; (try dsimp only at hSw); go_simp; (first | done | with_reducible rfl))
          try simp only [Act.put, List.setIfInBounds_toArray, List.set_cons_zero, List.set_cons_succ]
          refine wpAnyH_take (i := 14) (oi := { dst := some 143, op := Go.Op.move (Go.Operand.tmp 142), type := 4, pos := "law.go:100", after := #[{ on := 13, ground := Go.Ground.data }, { on := 12, ground := Go.Ground.chain }], guard := none }) (v := ?v296) rfl (by kernel_rfl) (by kernel_rfl) (by kernel_rfl) (fun _ _ _ h => h) (Or.inl ⟨by rfl, ?hy296⟩) hHeld ?rest296
          case hy296 => (intro w hSw; (try dsimp only at hSw); go_simp; (first | done | with_reducible rfl))
          try simp only [Act.put, List.setIfInBounds_toArray, List.set_cons_zero, List.set_cons_succ]
          refine wpAnyH_ready (rs := [15]) (by kernel_rfl) (by simp) ?_
          refine AllReadyH.cons (o := { dst := some 144, op := Go.Op.call { callee := Go.Callee.value (Go.Operand.func 4), args := #[], argTypes := #[] }, type := 4, pos := "law.go:100", after := #[{ on := 14, ground := Go.Ground.chain }, { on := 14, ground := Go.Ground.guard }], guard := some (14, true) }) rfl (fun K hK => ?_) (AllReadyH.nil)
          go_simp
          refine (lawake_any _).mono ?_
          rintro e w144 ⟨rfl, x⟩
          have z297 := x.size
          replace E := E.trans x
          replace PA := PA.ext x
          replace PB := PB.ext x
          replace NX := NX.ext x
          replace NY := NY.ext x
          replace NZ := NZ.ext x
          replace NW := NW.ext x
          replace R1 := R1.ext x
          replace LB15 := LB15.ext x
          replace R2 := R2.ext x
          replace LB17 := LB17.ext x
          replace R3 := R3.ext x
          replace LB19 := LB19.ext x
          replace R4 := R4.ext x
          replace LB21 := LB21.ext x
          replace M5 := M5.ext x
          clear x
          clear hHeld
          have hHeld := And.intro LB15 (And.intro LB17 (And.intro LB19 (LB21)))
          refine hK.out _ _ hHeld (fun _ => ?_)
          clear hK K
          try simp only [Act.put, List.setIfInBounds_toArray, List.set_cons_zero, List.set_cons_succ]
          refine wpAnyH_take (i := 16) (oi := { dst := some 145, op := Go.Op.pick (Go.Operand.tmp 143) (Go.Operand.tmp 144) (Go.Operand.const (Go.Value.bool false)), type := 4, pos := "law.go:100", after := #[{ on := 14, ground := Go.Ground.data }, { on := 15, ground := Go.Ground.data }], guard := none }) (v := ?v298) rfl (by kernel_rfl) (by kernel_rfl) (by kernel_rfl) (fun _ _ _ h => h) (Or.inl ⟨by rfl, ?hy298⟩) hHeld ?rest298
          case hy298 => (intro w hSw; (try dsimp only at hSw); go_simp; (first | done | with_reducible rfl))
          try simp only [Act.put, List.setIfInBounds_toArray, List.set_cons_zero, List.set_cons_succ]
          refine wpAnyH_take (i := 17) (oi := { dst := some 4, op := Go.Op.assign (Go.Operand.tmp 145), type := 4, pos := "law.go:100", after := #[{ on := 16, ground := Go.Ground.data }, { on := 15, ground := Go.Ground.chain }, { on := 0, ground := Go.Ground.phase }, { on := 1, ground := Go.Ground.phase }, { on := 2, ground := Go.Ground.phase }, { on := 3, ground := Go.Ground.phase }, { on := 4, ground := Go.Ground.phase }, { on := 5, ground := Go.Ground.phase }, { on := 6, ground := Go.Ground.phase }, { on := 7, ground := Go.Ground.phase }, { on := 8, ground := Go.Ground.phase }, { on := 9, ground := Go.Ground.phase }, { on := 10, ground := Go.Ground.phase }, { on := 11, ground := Go.Ground.phase }, { on := 12, ground := Go.Ground.phase }, { on := 13, ground := Go.Ground.phase }, { on := 14, ground := Go.Ground.phase }, { on := 15, ground := Go.Ground.phase }, { on := 16, ground := Go.Ground.phase }], guard := none }) (v := ?v299) rfl (by kernel_rfl) (by kernel_rfl) (by kernel_rfl) (fun _ _ _ h => h) (Or.inl ⟨by rfl, ?hy299⟩) hHeld ?rest299
          case hy299 => (intro w hSw; (try dsimp only at hSw); go_simp; (first | done | with_reducible rfl))
          try simp only [Act.put, List.setIfInBounds_toArray, List.set_cons_zero, List.set_cons_succ]
          refine wpAnyH_done (by kernel_rfl) ?_ _
          go_wp2_with fail
          go_ret
          exact ⟨rfl, E⟩
end
theorem logicTurns_walk (w : World) (ht : Tab w) (A : Option Addr) (a : List Bool) (c : Nat) (hc : a.length ≤ c) (_ : c ≤ maxLen) (hs : Sl w 1 A a.length (bools a)) (_ : ∀ z ∈ a, True) (B : Option Addr) (b : List Bool) (c' : Nat) (hc' : b.length ≤ c') (_ : c' ≤ maxLen) (hs' : Sl w 1 B b.length (bools b)) (_ : ∀ z ∈ b, True) :
    Calls Tryd.prog 3 #[.slice A a.length c, .slice B b.length c'] w fun e w' => e = .returned (.bool true) ∧ Ext w w' := by
  by_cases h3 : a.length ≤ 300
  · by_cases h4 : b.length = a.length
    · rw [h4] at hc' hs' ⊢
      exact logicTurns_ok w A a a.length c B b c' ht rfl h4.symm h3 hc hc' hs hs'
    · exact logicTurns_long2 w A a.length c B b.length c' h3 (by simp; omega)
  · exact logicTurns_long1 w A a.length c B b.length c' (by omega)
end Go.Proofs.YtdfhefnjoekgbaaDoor
