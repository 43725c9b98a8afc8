/- logic.none, logic.Apply. -/
import Derived.Test.YtdfhefnjoekgbaaDoorRb
import Derived.Test.YtdfhefnjoekgbaaDoorRa
namespace Go.Proofs.YtdfhefnjoekgbaaDoor
open Go.ChangeShapes Go.WideShapes Go.RowKit Bv Fl
/-- truths as wanted: so many -/
def sprL (x : List Bool) (N : Nat) : List Bool := if x.length = N then x else List.replicate N (x.getD 0 false)
theorem sprL_length (x : List Bool) (N : Nat) : (sprL x N).length = N := by unfold sprL; split; assumption; simp
/-- the truth that goes with a place -/
def pkB (x : List Bool) (i : Nat) : Bool := if 1 < x.length then x.getD i false else x.getD 0 false
theorem sprL_get (x : List Bool) (N i : Nat) (hx : x.length = N ∨ x.length = 1) (hi : i < N) : (sprL x N).getD i false = pkB x i := by
  unfold sprL pkB
  by_cases h : x.length = N
  · rw [if_pos h]
    by_cases h1 : 1 < x.length
    · rw [if_pos h1]
    · rw [if_neg h1, show i = 0 by omega]
  · rw [if_neg h, if_neg (by omega)]
    simp [List.getD, hi]
/-- what a function makes of two lists of truths -/
def appB (f : Int) (x y : List Bool) (N : Nat) : List Bool := tabL N fun i => oneL f (pkB x i) (pkB y i)
theorem ttb_one (f : Int) (h : okL f = true) (a b : Bool) : ttb (tblN f) a b = oneL f a b := by
  rcases okL_cases f with rfl | rfl | rfl | rfl | h'
  · cases a <;> cases b <;> rfl
  · cases a <;> cases b <;> rfl
  · cases a <;> cases b <;> rfl
  · cases a <;> cases b <;> rfl
  · rw [h] at h'; cases h'
theorem ttL_app (f : Int) (h : okL f = true) (x y : List Bool) (N : Nat) (hx : x.length = N ∨ x.length = 1) (hy : y.length = N ∨ y.length = 1) : ttL (tblN f) (sprL x N) (sprL y N) = appB f x y N := by
  unfold ttL appB
  rw [sprL_length]
  apply tabL_ext
  intro j hj
  rw [sprL_get x N j hx hj, sprL_get y N j hy hj, ttb_one f h]
theorem tblN_lt (f : Int) : tblN f < 256 := by
  unfold tblN
  repeat (first | (split) | omega)
def MakeP (N : Nat) (b : Bool) (w : World) (e : Ending) (w' : World) : Prop := ∃ v, e = .returned v ∧ OwnB w' w.heap.size v (List.replicate N b) ∧ Ext w w'
theorem make_bool (N : Nat) (b : Bool) (hN : N ≤ 1048576) (w : World) : Calls Tryd.prog 17 #[.int .i64 (N : Int), .bool b] w (MakeP N b w) := by
  cases b
  · have := make_false (N : Int) w
    rw [nclamp_nat hN] at this
    exact this
  · have := make_true (N : Int) w
    rw [nclamp_nat hN] at this
    exact this
set_option maxHeartbeats 1000000
set_option maxRecDepth 100000
section
variable (f : Int) (v u : Value) (w : World)
theorem vec_nil {w : World} {v : Value} {S : Nat → Prop} (h : IsVec w v (VD.bits [])) : VecS w v (VD.bits []) S := fun w' _ _ => by
  rcases h with ⟨h, _⟩ | ⟨l, A, c, h, hl, hv, hs⟩ | ⟨l, A, c, h, _⟩ | ⟨l, A, c, h, _⟩ | ⟨l, A, c, h, _⟩ | ⟨l, A, c, h, _⟩ | ⟨n, cs, A, c, h, _⟩
  · cases h
  · obtain rfl : [] = l := by cases h; rfl
    subst hv
    exact isvec_bits hl ⟨by rfl, fun hn => absurd hn (by decide)⟩
  all_goals cases h
/-- what comes of no numbers -/
def NoneV (w : World) (e : Ending) (w' : World) : Prop := ∃ p, e = .returned (.tuple #[p, .int .i64 0]) ∧ VecS w' p (VD.bits []) (New w.heap.size) ∧ Ext w w'
theorem vnone_new (w : World) : Calls Tryd.prog 33 #[.int .i64 0] w fun e w' => ∃ v, e = .returned v ∧ VecS w' v (VD.bits []) (New w.heap.size) ∧ Ext w w' := by
  refine (vnone_any 0 w).mono ?_
  rintro e w' ⟨v, rfl, h, hx⟩
  refine ⟨v, rfl, ?_, hx⟩
  have h : IsVec w' v (VD.bits []) := h
  exact vec_nil h
theorem lnone_yes (hF : Flat 8 v) (hG : Flat 8 u) (ca : ∀ w', Ext w w' → Calls Tryd.prog 32 #[v] w' fun e w2 => e = .returned (.int .i64 0) ∧ Ext w' w2) (cb : ∀ w', Ext w w' → Calls Tryd.prog 32 #[u] w' fun e w2 => e = .returned (.int .i64 0) ∧ Ext w' w2) :
    Calls Tryd.prog 21 #[v, u] w (NoneV w) := by
  have E := Ext.refl w
  go_enter Tryd.func21, Tryd.ntmps21
  have TB2 : True := trivial
  have TB3 : True := trivial
  have TB4 : True := trivial
  go_wp2_with (first | (clear TB2; refine boxsV (v := v) rfl rfl rfl hF ?_; intro B2 w2 bB2 cB2 XB2 LB2 RB2; have z1 := XB2.size; replace E := E.trans XB2; clear RB2) | (clear TB3; refine boxsV (v := u) rfl rfl rfl hG ?_; intro B3 w3 bB3 cB3 XB3 LB3 RB3; have z2 := XB3.size; replace E := E.trans XB3; replace LB2 := LB2.ext XB3; clear RB3) | (clear TB4; refine allocsV rfl rfl ?_; intro B4 w4 bB4 cB4 XB4 LB4 RB4; have z3 := XB4.size; replace E := E.trans XB4; replace LB2 := LB2.ext XB4; replace LB3 := LB3.ext XB4) | (refine loadsV (B := B2) (by rfl) rfl rfl LB2 ?_))
  clear LB2
  refine (ca _ E).mono ?_
  rintro e w7 ⟨rfl, x⟩
  have z4 := x.size
  replace E := E.trans x
  replace LB3 := LB3.ext x
  replace LB4 := LB4.ext x
  replace RB4 := RB4.ext x
  clear x
  go_wp2_with (refine loadgV (B := B3) (by rfl) rfl rfl LB3 ?_)
  clear LB3
  refine (cb _ E).mono ?_
  rintro e w11 ⟨rfl, x⟩
  have z5 := x.size
  replace E := E.trans x
  replace LB4 := LB4.ext x
  replace RB4 := RB4.ext x
  clear x
  go_wp2_with fail
  refine (vnone_new _).mono ?_
  rintro e w15 ⟨p, rfl, hp, x⟩
  have NP := hp.now
  have FP := NP.is.flat
  clear hp
  have z6 := x.size
  replace E := E.trans x
  replace LB4 := LB4.ext x
  replace RB4 := RB4.ext x
  clear x
  have TG7 : True := trivial
  go_wp2_with (clear TG7; have hRl := (RB4).lt (Nat.zero_lt_succ _); refine storesV (B := B4) rfl rfl rfl (v := p) rfl RB4 FP ?_; clear LB4; intro s7 G7 LB4 RQ; have z8 := G7.size; replace E := grown_ext E G7 (by omega); replace NP := NP.grown G7 (by dsimp only [New]; omega); clear RB4; have RB4 := RQ; clear RQ hRl; clear RB4)
  refine bodyPost_ret (results_lay2 rfl rfl rfl (ldV LB4)) rfl ?_
  exact ⟨p, rfl, NP.mono (fun i hi h => by dsimp only [New] at *; omega), E⟩
theorem lnone_no (k : Int) (hk : (k != 0) = true) (hF : Flat 8 v) (hG : Flat 8 u) (ca : ∀ w', Ext w w' → Calls Tryd.prog 32 #[v] w' fun e w2 => e = .returned (.int .i64 k) ∧ Ext w' w2) :
    Calls Tryd.prog 21 #[v, u] w fun e w' => e = .returned (.tuple #[zeroVec, .int .i64 24]) ∧ Ext w w' := by
  have E := Ext.refl w
  go_enter Tryd.func21, Tryd.ntmps21
  have TB2 : True := trivial
  have TB3 : True := trivial
  have TB4 : True := trivial
  go_wp2_with (first | (clear TB2; refine boxsV (v := v) rfl rfl rfl hF ?_; intro B2 w2 bB2 cB2 XB2 LB2 RB2; have z1 := XB2.size; replace E := E.trans XB2; clear RB2) | (clear TB3; refine boxsV (v := u) rfl rfl rfl hG ?_; intro B3 w3 bB3 cB3 XB3 LB3 RB3; have z2 := XB3.size; replace E := E.trans XB3; replace LB2 := LB2.ext XB3; clear LB3 RB3) | (clear TB4; refine allocsV rfl rfl ?_; intro B4 w4 bB4 cB4 XB4 LB4 RB4; have z3 := XB4.size; replace E := E.trans XB4; replace LB2 := LB2.ext XB4) | (refine loadsV (B := B2) (by rfl) rfl rfl LB2 ?_))
  clear LB2
  refine (ca _ E).mono ?_
  rintro e w7 ⟨rfl, x⟩
  have z4 := x.size
  replace E := E.trans x
  replace LB4 := LB4.ext x
  replace RB4 := RB4.ext x
  clear x
  have TG5 : True := trivial
  go_wp2_with (clear TG5; have hRl := (RB4).lt (Nat.zero_lt_succ _); refine storesV (B := B4) rfl rfl rfl (v := zeroVec) rfl RB4 zeroVec_flat ?_; clear LB4; intro s5 G5 LB4 RQ; have z6 := G5.size; replace E := grown_ext E G5 (by omega); clear RB4; have RB4 := RQ; clear RQ hRl; clear RB4)
  refine bodyPost_ret (results_lay2 rfl rfl rfl (ldV LB4)) rfl ?_
  exact ⟨rfl, E⟩
theorem apply_bad (hf : okL f = false) (hF : Flat 8 v) (hG : Flat 8 u) :
    Calls Tryd.prog 6 #[.int .i64 f, v, u] w fun e w' => e = .returned (.tuple #[zeroVec, .int .i64 1]) ∧ Ext w w' := by
  have E := Ext.refl w
  have ct : ∀ w', Calls Tryd.prog 18 #[.int .i64 f] w' fun e w2 => e = .returned (.tuple #[.int .u8 (tblN f : Int), .bool false]) ∧ Ext w' w2 := fun w' => (table_any f w').mono fun e w2 h => ⟨by rw [h.1, hf], h.2 ▸ Ext.refl _⟩
  clear hf
  generalize (tblN f : Int) = t at *
  go_enter Tryd.func6, Tryd.ntmps6
  have TB4 : True := trivial
  have TB5 : True := trivial
  have TB6 : True := trivial
  go_wp2_with (first | (clear TB4; refine boxsV (v := v) rfl rfl rfl hF ?_; intro B4 w4 bB4 cB4 XB4 LB4 RB4; have z1 := XB4.size; replace E := E.trans XB4; clear LB4 RB4) | (clear TB5; refine boxsV (v := u) rfl rfl rfl hG ?_; intro B5 w5 bB5 cB5 XB5 LB5 RB5; have z2 := XB5.size; replace E := E.trans XB5; clear LB5 RB5) | (clear TB6; refine allocsV rfl rfl ?_; intro B6 w6 bB6 cB6 XB6 LB6 RB6; have z3 := XB6.size; replace E := E.trans XB6))
  refine (ct _).mono ?_
  rintro e w18 ⟨rfl, x⟩
  have z4 := x.size
  replace E := E.trans x
  replace LB6 := LB6.ext x
  replace RB6 := RB6.ext x
  clear x
  have TG5 : True := trivial
  go_wp2_with (clear TG5; have hRl := (RB6).lt (Nat.zero_lt_succ _); refine storesV (B := B6) rfl rfl rfl (v := zeroVec) rfl RB6 zeroVec_flat ?_; clear LB6; intro s5 G5 LB6 RQ; have z6 := G5.size; replace E := grown_ext E G5 (by omega); clear RB6; have RB6 := RQ; clear RQ hRl; clear RB6)
  refine bodyPost_ret (results_lay2 rfl rfl rfl (ldV LB6)) rfl ?_
  exact ⟨rfl, E⟩
theorem apply_len (hf : okL f = true) (m n : Int) (ca : ∀ w', Ext w w' → Calls Tryd.prog 20 #[v] w' fun e w2 => e = .returned (.int .i64 m) ∧ Ext w' w2) (cb : ∀ w', Ext w w' → Calls Tryd.prog 20 #[u] w' fun e w2 => e = .returned (.int .i64 n) ∧ Ext w' w2) (hl : lenOk m n = false) (hF : Flat 8 v) (hG : Flat 8 u) :
    Calls Tryd.prog 6 #[.int .i64 f, v, u] w fun e w' => e = .returned (.tuple #[zeroVec, .int .i64 23]) ∧ Ext w w' := by
  have E := Ext.refl w
  have ct : ∀ w', Calls Tryd.prog 18 #[.int .i64 f] w' fun e w2 => e = .returned (.tuple #[.int .u8 (tblN f : Int), .bool true]) ∧ Ext w' w2 := fun w' => (table_any f w').mono fun e w2 h => ⟨by rw [h.1, hf], h.2 ▸ Ext.refl _⟩
  have cl : ∀ w', Calls Tryd.prog 19 #[.int .i64 m, .int .i64 n] w' fun e w2 => e = .returned (.tuple #[.int .i64 (lenV m n), .bool false]) ∧ Ext w' w2 := fun w' => (length_any m n w').mono fun e w2 h => ⟨by rw [h.1, hl], h.2 ▸ Ext.refl _⟩
  clear hf hl
  generalize (tblN f : Int) = t at *
  generalize lenV m n = N at *
  go_enter Tryd.func6, Tryd.ntmps6
  have TB4 : True := trivial
  have TB5 : True := trivial
  have TB6 : True := trivial
  go_wp2_with (first | (clear TB4; refine boxsV (v := v) rfl rfl rfl hF ?_; intro B4 w4 bB4 cB4 XB4 LB4 RB4; have z1 := XB4.size; replace E := E.trans XB4; clear RB4) | (clear TB5; refine boxsV (v := u) rfl rfl rfl hG ?_; intro B5 w5 bB5 cB5 XB5 LB5 RB5; have z2 := XB5.size; replace E := E.trans XB5; replace LB4 := LB4.ext XB5; clear RB5) | (clear TB6; refine allocsV rfl rfl ?_; intro B6 w6 bB6 cB6 XB6 LB6 RB6; have z3 := XB6.size; replace E := E.trans XB6; replace LB4 := LB4.ext XB6; replace LB5 := LB5.ext XB6))
  refine (ct _).mono ?_
  rintro e w18 ⟨rfl, x⟩
  have z4 := x.size
  replace E := E.trans x
  replace LB4 := LB4.ext x
  replace LB5 := LB5.ext x
  replace LB6 := LB6.ext x
  replace RB6 := RB6.ext x
  clear x
  go_wp2_with fail
  try simp only [Act.put, List.setIfInBounds_toArray, List.set_cons_zero, List.set_cons_succ]
  have DLB4 := LB4
  have DLB5 := LB5
  refine wp_region_held_drew (S := (fun w' => Ext w18 w')) (by kernel_rfl) ((Ext.refl w18).drew) (fun hHeld => ?_)
  have hq0 : w18.heap.size ≤ w18.drew.heap.size := Nat.le_refl _
  have z5 := (Ext.refl w18).drew.size
  replace E := E.trans (Ext.refl w18).drew
  replace LB4 := LB4.ext (Ext.refl w18).drew
  replace LB5 := LB5.ext (Ext.refl w18).drew
  replace LB6 := LB6.ext (Ext.refl w18).drew
  replace RB6 := RB6.ext (Ext.refl w18).drew
  refine wpAnyH_take (i := 0) (oi := { dst := some 25, op := Go.Op.load 34 (Go.Operand.tmp 4), type := 34, pos := "logic.go:66", after := #[], guard := none }) (v := v) rfl (by kernel_rfl) (by kernel_rfl) (by kernel_rfl) (fun _ _ _ h => h) (yieldV (by rfl) rfl rfl fun w' hx => DLB4.ext hx) hHeld ?_
  try simp only [Act.put, List.setIfInBounds_toArray, List.set_cons_zero, List.set_cons_succ]
  refine wpAnyH_take (i := 2) (oi := { dst := some 27, op := Go.Op.load 34 (Go.Operand.tmp 5), type := 34, pos := "logic.go:66", after := #[], guard := none }) (v := u) rfl (by kernel_rfl) (by kernel_rfl) (by kernel_rfl) (fun _ _ _ h => h) (yieldV (by rfl) rfl rfl fun w' hx => DLB5.ext hx) hHeld ?_
  try simp only [Act.put, List.setIfInBounds_toArray, List.set_cons_zero, List.set_cons_succ]
  refine wpAnyH_ready (rs := [1]) (by kernel_rfl) (by simp) ?_
  refine AllReadyH.cons (o := { dst := some 26, op := Go.Op.call { callee := Go.Callee.value (Go.Operand.func 20), args := #[Go.Operand.tmp 25], argTypes := #[34] }, type := 3, pos := "logic.go:66", after := #[{ on := 0, ground := Go.Ground.data }], guard := none }) rfl (fun K hK => ?_) (AllReadyH.nil)
  go_simp
  refine (ca _ E).mono ?_
  rintro e w26 ⟨rfl, x⟩
  have z8 := x.size
  replace E := E.trans x
  replace LB4 := LB4.ext x
  replace LB5 := LB5.ext x
  replace LB6 := LB6.ext x
  replace RB6 := RB6.ext x
  replace hHeld := Ext.trans hHeld x
  clear x
  refine hK.out _ _ hHeld (fun _ => ?_)
  clear hK K
  try simp only [Act.put, List.setIfInBounds_toArray, List.set_cons_zero, List.set_cons_succ]
  refine wpAnyH_ready (rs := [3]) (by kernel_rfl) (by simp) ?_
  refine AllReadyH.cons (o := { dst := some 28, op := Go.Op.call { callee := Go.Callee.value (Go.Operand.func 20), args := #[Go.Operand.tmp 27], argTypes := #[34] }, type := 3, pos := "logic.go:66", after := #[{ on := 2, ground := Go.Ground.data }, { on := 1, ground := Go.Ground.chain }], guard := none }) rfl (fun K hK => ?_) (AllReadyH.nil)
  go_simp
  refine (cb _ E).mono ?_
  rintro e w28 ⟨rfl, x⟩
  have z9 := x.size
  replace E := E.trans x
  replace LB4 := LB4.ext x
  replace LB5 := LB5.ext x
  replace LB6 := LB6.ext x
  replace RB6 := RB6.ext x
  replace hHeld := Ext.trans hHeld x
  clear x
  refine hK.out _ _ hHeld (fun _ => ?_)
  clear hK K
  try simp only [Act.put, List.setIfInBounds_toArray, List.set_cons_zero, List.set_cons_succ]
  refine wpAnyH_ready (rs := [4]) (by kernel_rfl) (by simp) ?_
  refine AllReadyH.cons (o := { dst := some 29, op := Go.Op.call { callee := Go.Callee.value (Go.Operand.func 19), args := #[Go.Operand.tmp 26, Go.Operand.tmp 28], argTypes := #[3, 3] }, type := 55, pos := "logic.go:66", after := #[{ on := 1, ground := Go.Ground.data }, { on := 3, ground := Go.Ground.data }, { on := 3, ground := Go.Ground.chain }], guard := none }) rfl (fun K hK => ?_) (AllReadyH.nil)
  go_simp
  refine (cl _).mono ?_
  rintro e w29 ⟨rfl, x⟩
  have z10 := x.size
  replace E := E.trans x
  replace LB4 := LB4.ext x
  replace LB5 := LB5.ext x
  replace LB6 := LB6.ext x
  replace RB6 := RB6.ext x
  replace hHeld := Ext.trans hHeld x
  clear x
  refine hK.out _ _ hHeld (fun _ => ?_)
  clear hK K
  try simp only [Act.put, List.setIfInBounds_toArray, List.set_cons_zero, List.set_cons_succ]
  refine wpAnyH_take (i := 5) (oi := { dst := some 24, op := Go.Op.move (Go.Operand.tmp 29), type := 55, pos := "logic.go:66", after := #[{ on := 4, ground := Go.Ground.data }], guard := none }) (v := ?v11) rfl (by kernel_rfl) (by kernel_rfl) (by kernel_rfl) (fun _ _ _ h => h) (Or.inl ⟨by rfl, ?hy11⟩) hHeld ?rest11
  case hy11 => (intro w hSw; (try dsimp only at hSw); go_simp; (first | done | with_reducible rfl))
  try simp only [Act.put, List.setIfInBounds_toArray, List.set_cons_zero, List.set_cons_succ]
  refine wpAnyH_take (i := 6) (oi := { dst := some 30, op := Go.Op.extract (Go.Operand.tmp 24) 0, type := 3, pos := "logic.go:66", after := #[{ on := 5, ground := Go.Ground.data }], guard := none }) (v := ?v12) rfl (by kernel_rfl) (by kernel_rfl) (by kernel_rfl) (fun _ _ _ h => h) (Or.inl ⟨by rfl, ?hy12⟩) hHeld ?rest12
  case hy12 => (intro w hSw; (try dsimp only at hSw); go_simp; (first | done | with_reducible rfl))
  try simp only [Act.put, List.setIfInBounds_toArray, List.set_cons_zero, List.set_cons_succ]
  refine wpAnyH_take (i := 7) (oi := { dst := some 31, op := Go.Op.extract (Go.Operand.tmp 24) 1, type := 4, pos := "logic.go:66", after := #[{ on := 5, ground := Go.Ground.data }, { on := 8, ground := Go.Ground.gcOnly Go.Departure.lateStores }], guard := none }) (v := ?v13) rfl (by kernel_rfl) (by kernel_rfl) (by kernel_rfl) (fun _ _ _ h => h) (Or.inl ⟨by rfl, ?hy13⟩) hHeld ?rest13
  case hy13 => (intro w hSw; (try dsimp only at hSw); go_simp; (first | done | with_reducible rfl))
  try simp only [Act.put, List.setIfInBounds_toArray, List.set_cons_zero, List.set_cons_succ]
  refine wpAnyH_take (i := 8) (oi := { dst := some 10, op := Go.Op.assign (Go.Operand.tmp 30), type := 3, pos := "logic.go:66", after := #[{ on := 6, ground := Go.Ground.data }, { on := 4, ground := Go.Ground.chain }, { on := 0, ground := Go.Ground.phase }, { on := 1, ground := Go.Ground.phase }, { on := 2, ground := Go.Ground.phase }, { on := 3, ground := Go.Ground.phase }, { on := 4, ground := Go.Ground.phase }, { on := 5, ground := Go.Ground.phase }, { on := 6, ground := Go.Ground.phase }, { on := 7, ground := Go.Ground.textOnly Go.Departure.lateStores }], guard := none }) (v := ?v14) rfl (by kernel_rfl) (by kernel_rfl) (by kernel_rfl) (fun _ _ _ h => h) (Or.inl ⟨by rfl, ?hy14⟩) hHeld ?rest14
  case hy14 => (intro w hSw; (try dsimp only at hSw); go_simp; (first | done | with_reducible rfl))
  try simp only [Act.put, List.setIfInBounds_toArray, List.set_cons_zero, List.set_cons_succ]
  refine wpAnyH_take (i := 9) (oi := { dst := some 9, op := Go.Op.assign (Go.Operand.tmp 31), type := 4, pos := "logic.go:66", after := #[{ on := 7, ground := Go.Ground.data }, { on := 8, ground := Go.Ground.chain }, { on := 0, ground := Go.Ground.phase }, { on := 1, ground := Go.Ground.phase }, { on := 2, ground := Go.Ground.phase }, { on := 3, ground := Go.Ground.phase }, { on := 4, ground := Go.Ground.phase }, { on := 5, ground := Go.Ground.phase }, { on := 6, ground := Go.Ground.phase }, { on := 7, ground := Go.Ground.phase }, { on := 8, ground := Go.Ground.phase }], guard := none }) (v := ?v15) rfl (by kernel_rfl) (by kernel_rfl) (by kernel_rfl) (fun _ _ _ h => h) (Or.inl ⟨by rfl, ?hy15⟩) hHeld ?rest15
  case hy15 => (intro w hSw; (try dsimp only at hSw); go_simp; (first | done | with_reducible rfl))
  try simp only [Act.put, List.setIfInBounds_toArray, List.set_cons_zero, List.set_cons_succ]
  refine wpAnyH_done (by kernel_rfl) ?_ _
  have TG16 : True := trivial
  go_wp2_with (clear TG16; have hRl := (RB6).lt (Nat.zero_lt_succ _); refine storesV (B := B6) rfl rfl rfl (v := zeroVec) rfl RB6 zeroVec_flat ?_; clear LB6; intro s16 G16 LB6 RQ; have z17 := G16.size; replace E := grown_ext E G16 (by omega); replace LB4 := LB4.grown G16 (by omega); replace LB5 := LB5.grown G16 (by omega); clear RB6; have RB6 := RQ; clear RQ hRl; clear RB6)
  refine bodyPost_ret (results_lay2 rfl rfl rfl (ldV LB6)) rfl ?_
  exact ⟨rfl, E⟩
theorem apply_zero (hf : okL f = true) (m n : Int) (ca : ∀ w', Ext w w' → Calls Tryd.prog 20 #[v] w' fun e w2 => e = .returned (.int .i64 m) ∧ Ext w' w2) (cb : ∀ w', Ext w w' → Calls Tryd.prog 20 #[u] w' fun e w2 => e = .returned (.int .i64 n) ∧ Ext w' w2) (hl : lenOk m n = true) (hN : lenV m n = 0) (cn : ∀ w', Ext w w' → Calls Tryd.prog 21 #[v, u] w' (NoneV w')) (hF : Flat 8 v) (hG : Flat 8 u) :
    Calls Tryd.prog 6 #[.int .i64 f, v, u] w fun e w' => ∃ p, e = .returned (.tuple #[p, .int .i64 0]) ∧ VecS w' p (VD.bits []) (New w.heap.size) ∧ Ext w w' := by
  have E := Ext.refl w
  have ct : ∀ w', Calls Tryd.prog 18 #[.int .i64 f] w' fun e w2 => e = .returned (.tuple #[.int .u8 (tblN f : Int), .bool true]) ∧ Ext w' w2 := fun w' => (table_any f w').mono fun e w2 h => ⟨by rw [h.1, hf], h.2 ▸ Ext.refl _⟩
  have cl : ∀ w', Calls Tryd.prog 19 #[.int .i64 m, .int .i64 n] w' fun e w2 => e = .returned (.tuple #[.int .i64 (lenV m n), .bool true]) ∧ Ext w' w2 := fun w' => (length_any m n w').mono fun e w2 h => ⟨by rw [h.1, hl], h.2 ▸ Ext.refl _⟩
  rw [hN] at cl
  clear hf hl hN
  generalize (tblN f : Int) = t at *
  go_enter Tryd.func6, Tryd.ntmps6
  have TB4 : True := trivial
  have TB5 : True := trivial
  have TB6 : True := trivial
  go_wp2_with (first | (clear TB4; refine boxsV (v := v) rfl rfl rfl hF ?_; intro B4 w4 bB4 cB4 XB4 LB4 RB4; have z1 := XB4.size; replace E := E.trans XB4; clear RB4) | (clear TB5; refine boxsV (v := u) rfl rfl rfl hG ?_; intro B5 w5 bB5 cB5 XB5 LB5 RB5; have z2 := XB5.size; replace E := E.trans XB5; replace LB4 := LB4.ext XB5; clear RB5) | (clear TB6; refine allocsV rfl rfl ?_; intro B6 w6 bB6 cB6 XB6 LB6 RB6; have z3 := XB6.size; replace E := E.trans XB6; replace LB4 := LB4.ext XB6; replace LB5 := LB5.ext XB6))
  refine (ct _).mono ?_
  rintro e w18 ⟨rfl, x⟩
  have z4 := x.size
  replace E := E.trans x
  replace LB4 := LB4.ext x
  replace LB5 := LB5.ext x
  replace LB6 := LB6.ext x
  replace RB6 := RB6.ext x
  clear x
  go_wp2_with fail
  try simp only [Act.put, List.setIfInBounds_toArray, List.set_cons_zero, List.set_cons_succ]
  have DLB4 := LB4
  have DLB5 := LB5
  refine wp_region_held_drew (S := (fun w' => Ext w18 w')) (by kernel_rfl) ((Ext.refl w18).drew) (fun hHeld => ?_)
  have hq0 : w18.heap.size ≤ w18.drew.heap.size := Nat.le_refl _
  have z5 := (Ext.refl w18).drew.size
  replace E := E.trans (Ext.refl w18).drew
  replace LB4 := LB4.ext (Ext.refl w18).drew
  replace LB5 := LB5.ext (Ext.refl w18).drew
  replace LB6 := LB6.ext (Ext.refl w18).drew
  replace RB6 := RB6.ext (Ext.refl w18).drew
  refine wpAnyH_take (i := 0) (oi := { dst := some 25, op := Go.Op.load 34 (Go.Operand.tmp 4), type := 34, pos := "logic.go:66", after := #[], guard := none }) (v := v) rfl (by kernel_rfl) (by kernel_rfl) (by kernel_rfl) (fun _ _ _ h => h) (yieldV (by rfl) rfl rfl fun w' hx => DLB4.ext hx) hHeld ?_
  try simp only [Act.put, List.setIfInBounds_toArray, List.set_cons_zero, List.set_cons_succ]
  refine wpAnyH_take (i := 2) (oi := { dst := some 27, op := Go.Op.load 34 (Go.Operand.tmp 5), type := 34, pos := "logic.go:66", after := #[], guard := none }) (v := u) rfl (by kernel_rfl) (by kernel_rfl) (by kernel_rfl) (fun _ _ _ h => h) (yieldV (by rfl) rfl rfl fun w' hx => DLB5.ext hx) hHeld ?_
  try simp only [Act.put, List.setIfInBounds_toArray, List.set_cons_zero, List.set_cons_succ]
  refine wpAnyH_ready (rs := [1]) (by kernel_rfl) (by simp) ?_
  refine AllReadyH.cons (o := { dst := some 26, op := Go.Op.call { callee := Go.Callee.value (Go.Operand.func 20), args := #[Go.Operand.tmp 25], argTypes := #[34] }, type := 3, pos := "logic.go:66", after := #[{ on := 0, ground := Go.Ground.data }], guard := none }) rfl (fun K hK => ?_) (AllReadyH.nil)
  go_simp
  refine (ca _ E).mono ?_
  rintro e w26 ⟨rfl, x⟩
  have z8 := x.size
  replace E := E.trans x
  replace LB4 := LB4.ext x
  replace LB5 := LB5.ext x
  replace LB6 := LB6.ext x
  replace RB6 := RB6.ext x
  replace hHeld := Ext.trans hHeld x
  clear x
  refine hK.out _ _ hHeld (fun _ => ?_)
  clear hK K
  try simp only [Act.put, List.setIfInBounds_toArray, List.set_cons_zero, List.set_cons_succ]
  refine wpAnyH_ready (rs := [3]) (by kernel_rfl) (by simp) ?_
  refine AllReadyH.cons (o := { dst := some 28, op := Go.Op.call { callee := Go.Callee.value (Go.Operand.func 20), args := #[Go.Operand.tmp 27], argTypes := #[34] }, type := 3, pos := "logic.go:66", after := #[{ on := 2, ground := Go.Ground.data }, { on := 1, ground := Go.Ground.chain }], guard := none }) rfl (fun K hK => ?_) (AllReadyH.nil)
  go_simp
  refine (cb _ E).mono ?_
  rintro e w28 ⟨rfl, x⟩
  have z9 := x.size
  replace E := E.trans x
  replace LB4 := LB4.ext x
  replace LB5 := LB5.ext x
  replace LB6 := LB6.ext x
  replace RB6 := RB6.ext x
  replace hHeld := Ext.trans hHeld x
  clear x
  refine hK.out _ _ hHeld (fun _ => ?_)
  clear hK K
  try simp only [Act.put, List.setIfInBounds_toArray, List.set_cons_zero, List.set_cons_succ]
  refine wpAnyH_ready (rs := [4]) (by kernel_rfl) (by simp) ?_
  refine AllReadyH.cons (o := { dst := some 29, op := Go.Op.call { callee := Go.Callee.value (Go.Operand.func 19), args := #[Go.Operand.tmp 26, Go.Operand.tmp 28], argTypes := #[3, 3] }, type := 55, pos := "logic.go:66", after := #[{ on := 1, ground := Go.Ground.data }, { on := 3, ground := Go.Ground.data }, { on := 3, ground := Go.Ground.chain }], guard := none }) rfl (fun K hK => ?_) (AllReadyH.nil)
  go_simp
  refine (cl _).mono ?_
  rintro e w29 ⟨rfl, x⟩
  have z10 := x.size
  replace E := E.trans x
  replace LB4 := LB4.ext x
  replace LB5 := LB5.ext x
  replace LB6 := LB6.ext x
  replace RB6 := RB6.ext x
  replace hHeld := Ext.trans hHeld x
  clear x
  refine hK.out _ _ hHeld (fun _ => ?_)
  clear hK K
  try simp only [Act.put, List.setIfInBounds_toArray, List.set_cons_zero, List.set_cons_succ]
  refine wpAnyH_take (i := 5) (oi := { dst := some 24, op := Go.Op.move (Go.Operand.tmp 29), type := 55, pos := "logic.go:66", after := #[{ on := 4, ground := Go.Ground.data }], guard := none }) (v := ?v11) rfl (by kernel_rfl) (by kernel_rfl) (by kernel_rfl) (fun _ _ _ h => h) (Or.inl ⟨by rfl, ?hy11⟩) hHeld ?rest11
  case hy11 => (intro w hSw; (try dsimp only at hSw); go_simp; (first | done | with_reducible rfl))
  try simp only [Act.put, List.setIfInBounds_toArray, List.set_cons_zero, List.set_cons_succ]
  refine wpAnyH_take (i := 6) (oi := { dst := some 30, op := Go.Op.extract (Go.Operand.tmp 24) 0, type := 3, pos := "logic.go:66", after := #[{ on := 5, ground := Go.Ground.data }], guard := none }) (v := ?v12) rfl (by kernel_rfl) (by kernel_rfl) (by kernel_rfl) (fun _ _ _ h => h) (Or.inl ⟨by rfl, ?hy12⟩) hHeld ?rest12
  case hy12 => (intro w hSw; (try dsimp only at hSw); go_simp; (first | done | with_reducible rfl))
  try simp only [Act.put, List.setIfInBounds_toArray, List.set_cons_zero, List.set_cons_succ]
  refine wpAnyH_take (i := 7) (oi := { dst := some 31, op := Go.Op.extract (Go.Operand.tmp 24) 1, type := 4, pos := "logic.go:66", after := #[{ on := 5, ground := Go.Ground.data }, { on := 8, ground := Go.Ground.gcOnly Go.Departure.lateStores }], guard := none }) (v := ?v13) rfl (by kernel_rfl) (by kernel_rfl) (by kernel_rfl) (fun _ _ _ h => h) (Or.inl ⟨by rfl, ?hy13⟩) hHeld ?rest13
  case hy13 => (intro w hSw; (try dsimp only at hSw); go_simp; (first | done | with_reducible rfl))
  try simp only [Act.put, List.setIfInBounds_toArray, List.set_cons_zero, List.set_cons_succ]
  refine wpAnyH_take (i := 8) (oi := { dst := some 10, op := Go.Op.assign (Go.Operand.tmp 30), type := 3, pos := "logic.go:66", after := #[{ on := 6, ground := Go.Ground.data }, { on := 4, ground := Go.Ground.chain }, { on := 0, ground := Go.Ground.phase }, { on := 1, ground := Go.Ground.phase }, { on := 2, ground := Go.Ground.phase }, { on := 3, ground := Go.Ground.phase }, { on := 4, ground := Go.Ground.phase }, { on := 5, ground := Go.Ground.phase }, { on := 6, ground := Go.Ground.phase }, { on := 7, ground := Go.Ground.textOnly Go.Departure.lateStores }], guard := none }) (v := ?v14) rfl (by kernel_rfl) (by kernel_rfl) (by kernel_rfl) (fun _ _ _ h => h) (Or.inl ⟨by rfl, ?hy14⟩) hHeld ?rest14
  case hy14 => (intro w hSw; (try dsimp only at hSw); go_simp; (first | done | with_reducible rfl))
  try simp only [Act.put, List.setIfInBounds_toArray, List.set_cons_zero, List.set_cons_succ]
  refine wpAnyH_take (i := 9) (oi := { dst := some 9, op := Go.Op.assign (Go.Operand.tmp 31), type := 4, pos := "logic.go:66", after := #[{ on := 7, ground := Go.Ground.data }, { on := 8, ground := Go.Ground.chain }, { on := 0, ground := Go.Ground.phase }, { on := 1, ground := Go.Ground.phase }, { on := 2, ground := Go.Ground.phase }, { on := 3, ground := Go.Ground.phase }, { on := 4, ground := Go.Ground.phase }, { on := 5, ground := Go.Ground.phase }, { on := 6, ground := Go.Ground.phase }, { on := 7, ground := Go.Ground.phase }, { on := 8, ground := Go.Ground.phase }], guard := none }) (v := ?v15) rfl (by kernel_rfl) (by kernel_rfl) (by kernel_rfl) (fun _ _ _ h => h) (Or.inl ⟨by rfl, ?hy15⟩) hHeld ?rest15
  case hy15 => (intro w hSw; (try dsimp only at hSw); go_simp; (first | done | with_reducible rfl))
  try simp only [Act.put, List.setIfInBounds_toArray, List.set_cons_zero, List.set_cons_succ]
  refine wpAnyH_done (by kernel_rfl) ?_ _
  go_wp2_with (first | (refine loadsV (B := B4) (by rfl) rfl rfl LB4 ?_) | (refine loadsV (B := B5) (by rfl) rfl rfl LB5 ?_))
  clear LB4 LB5
  refine (cn _ E).mono ?_
  rintro e w39 ⟨p, rfl, hp, x⟩
  have NP := hp.now
  have FP := NP.is.flat
  clear hp
  have z16 := x.size
  replace E := E.trans x
  replace LB6 := LB6.ext x
  replace RB6 := RB6.ext x
  clear x
  have TG17 : True := trivial
  go_wp2_with (clear TG17; have hRl := (RB6).lt (Nat.zero_lt_succ _); refine storesV (B := B6) rfl rfl rfl (v := p) rfl RB6 FP ?_; clear LB6; intro s17 G17 LB6 RQ; have z18 := G17.size; replace E := grown_ext E G17 (by omega); replace NP := NP.grown G17 (by dsimp only [New]; omega); clear RB6; have RB6 := RQ; clear RQ hRl; clear RB6)
  refine bodyPost_ret (results_lay2 rfl rfl rfl (ldV LB6)) rfl ?_
  exact ⟨p, rfl, NP.mono (fun i hi h => by dsimp only [New] at *; omega), E⟩
theorem apply_zero_no (hf : okL f = true) (m n : Int) (ca : ∀ w', Ext w w' → Calls Tryd.prog 20 #[v] w' fun e w2 => e = .returned (.int .i64 m) ∧ Ext w' w2) (cb : ∀ w', Ext w w' → Calls Tryd.prog 20 #[u] w' fun e w2 => e = .returned (.int .i64 n) ∧ Ext w' w2) (hl : lenOk m n = true) (hN : lenV m n = 0) (cn : ∀ w', Ext w w' → Calls Tryd.prog 21 #[v, u] w' fun e w2 => e = .returned (.tuple #[zeroVec, .int .i64 24]) ∧ Ext w' w2) (hF : Flat 8 v) (hG : Flat 8 u) :
    Calls Tryd.prog 6 #[.int .i64 f, v, u] w fun e w' => e = .returned (.tuple #[zeroVec, .int .i64 24]) ∧ Ext w w' := by
  have E := Ext.refl w
  have ct : ∀ w', Calls Tryd.prog 18 #[.int .i64 f] w' fun e w2 => e = .returned (.tuple #[.int .u8 (tblN f : Int), .bool true]) ∧ Ext w' w2 := fun w' => (table_any f w').mono fun e w2 h => ⟨by rw [h.1, hf], h.2 ▸ Ext.refl _⟩
  have cl : ∀ w', Calls Tryd.prog 19 #[.int .i64 m, .int .i64 n] w' fun e w2 => e = .returned (.tuple #[.int .i64 (lenV m n), .bool true]) ∧ Ext w' w2 := fun w' => (length_any m n w').mono fun e w2 h => ⟨by rw [h.1, hl], h.2 ▸ Ext.refl _⟩
  rw [hN] at cl
  clear hf hl hN
  generalize (tblN f : Int) = t at *
  go_enter Tryd.func6, Tryd.ntmps6
  have TB4 : True := trivial
  have TB5 : True := trivial
  have TB6 : True := trivial
  go_wp2_with (first | (clear TB4; refine boxsV (v := v) rfl rfl rfl hF ?_; intro B4 w4 bB4 cB4 XB4 LB4 RB4; have z1 := XB4.size; replace E := E.trans XB4; clear RB4) | (clear TB5; refine boxsV (v := u) rfl rfl rfl hG ?_; intro B5 w5 bB5 cB5 XB5 LB5 RB5; have z2 := XB5.size; replace E := E.trans XB5; replace LB4 := LB4.ext XB5; clear RB5) | (clear TB6; refine allocsV rfl rfl ?_; intro B6 w6 bB6 cB6 XB6 LB6 RB6; have z3 := XB6.size; replace E := E.trans XB6; replace LB4 := LB4.ext XB6; replace LB5 := LB5.ext XB6))
  refine (ct _).mono ?_
  rintro e w18 ⟨rfl, x⟩
  have z4 := x.size
  replace E := E.trans x
  replace LB4 := LB4.ext x
  replace LB5 := LB5.ext x
  replace LB6 := LB6.ext x
  replace RB6 := RB6.ext x
  clear x
  go_wp2_with fail
  try simp only [Act.put, List.setIfInBounds_toArray, List.set_cons_zero, List.set_cons_succ]
  have DLB4 := LB4
  have DLB5 := LB5
  refine wp_region_held_drew (S := (fun w' => Ext w18 w')) (by kernel_rfl) ((Ext.refl w18).drew) (fun hHeld => ?_)
  have hq0 : w18.heap.size ≤ w18.drew.heap.size := Nat.le_refl _
  have z5 := (Ext.refl w18).drew.size
  replace E := E.trans (Ext.refl w18).drew
  replace LB4 := LB4.ext (Ext.refl w18).drew
  replace LB5 := LB5.ext (Ext.refl w18).drew
  replace LB6 := LB6.ext (Ext.refl w18).drew
  replace RB6 := RB6.ext (Ext.refl w18).drew
  refine wpAnyH_take (i := 0) (oi := { dst := some 25, op := Go.Op.load 34 (Go.Operand.tmp 4), type := 34, pos := "logic.go:66", after := #[], guard := none }) (v := v) rfl (by kernel_rfl) (by kernel_rfl) (by kernel_rfl) (fun _ _ _ h => h) (yieldV (by rfl) rfl rfl fun w' hx => DLB4.ext hx) hHeld ?_
  try simp only [Act.put, List.setIfInBounds_toArray, List.set_cons_zero, List.set_cons_succ]
  refine wpAnyH_take (i := 2) (oi := { dst := some 27, op := Go.Op.load 34 (Go.Operand.tmp 5), type := 34, pos := "logic.go:66", after := #[], guard := none }) (v := u) rfl (by kernel_rfl) (by kernel_rfl) (by kernel_rfl) (fun _ _ _ h => h) (yieldV (by rfl) rfl rfl fun w' hx => DLB5.ext hx) hHeld ?_
  try simp only [Act.put, List.setIfInBounds_toArray, List.set_cons_zero, List.set_cons_succ]
  refine wpAnyH_ready (rs := [1]) (by kernel_rfl) (by simp) ?_
  refine AllReadyH.cons (o := { dst := some 26, op := Go.Op.call { callee := Go.Callee.value (Go.Operand.func 20), args := #[Go.Operand.tmp 25], argTypes := #[34] }, type := 3, pos := "logic.go:66", after := #[{ on := 0, ground := Go.Ground.data }], guard := none }) rfl (fun K hK => ?_) (AllReadyH.nil)
  go_simp
  refine (ca _ E).mono ?_
  rintro e w26 ⟨rfl, x⟩
  have z8 := x.size
  replace E := E.trans x
  replace LB4 := LB4.ext x
  replace LB5 := LB5.ext x
  replace LB6 := LB6.ext x
  replace RB6 := RB6.ext x
  replace hHeld := Ext.trans hHeld x
  clear x
  refine hK.out _ _ hHeld (fun _ => ?_)
  clear hK K
  try simp only [Act.put, List.setIfInBounds_toArray, List.set_cons_zero, List.set_cons_succ]
  refine wpAnyH_ready (rs := [3]) (by kernel_rfl) (by simp) ?_
  refine AllReadyH.cons (o := { dst := some 28, op := Go.Op.call { callee := Go.Callee.value (Go.Operand.func 20), args := #[Go.Operand.tmp 27], argTypes := #[34] }, type := 3, pos := "logic.go:66", after := #[{ on := 2, ground := Go.Ground.data }, { on := 1, ground := Go.Ground.chain }], guard := none }) rfl (fun K hK => ?_) (AllReadyH.nil)
  go_simp
  refine (cb _ E).mono ?_
  rintro e w28 ⟨rfl, x⟩
  have z9 := x.size
  replace E := E.trans x
  replace LB4 := LB4.ext x
  replace LB5 := LB5.ext x
  replace LB6 := LB6.ext x
  replace RB6 := RB6.ext x
  replace hHeld := Ext.trans hHeld x
  clear x
  refine hK.out _ _ hHeld (fun _ => ?_)
  clear hK K
  try simp only [Act.put, List.setIfInBounds_toArray, List.set_cons_zero, List.set_cons_succ]
  refine wpAnyH_ready (rs := [4]) (by kernel_rfl) (by simp) ?_
  refine AllReadyH.cons (o := { dst := some 29, op := Go.Op.call { callee := Go.Callee.value (Go.Operand.func 19), args := #[Go.Operand.tmp 26, Go.Operand.tmp 28], argTypes := #[3, 3] }, type := 55, pos := "logic.go:66", after := #[{ on := 1, ground := Go.Ground.data }, { on := 3, ground := Go.Ground.data }, { on := 3, ground := Go.Ground.chain }], guard := none }) rfl (fun K hK => ?_) (AllReadyH.nil)
  go_simp
  refine (cl _).mono ?_
  rintro e w29 ⟨rfl, x⟩
  have z10 := x.size
  replace E := E.trans x
  replace LB4 := LB4.ext x
  replace LB5 := LB5.ext x
  replace LB6 := LB6.ext x
  replace RB6 := RB6.ext x
  replace hHeld := Ext.trans hHeld x
  clear x
  refine hK.out _ _ hHeld (fun _ => ?_)
  clear hK K
  try simp only [Act.put, List.setIfInBounds_toArray, List.set_cons_zero, List.set_cons_succ]
  refine wpAnyH_take (i := 5) (oi := { dst := some 24, op := Go.Op.move (Go.Operand.tmp 29), type := 55, pos := "logic.go:66", after := #[{ on := 4, ground := Go.Ground.data }], guard := none }) (v := ?v11) rfl (by kernel_rfl) (by kernel_rfl) (by kernel_rfl) (fun _ _ _ h => h) (Or.inl ⟨by rfl, ?hy11⟩) hHeld ?rest11
  case hy11 => (intro w hSw; (try dsimp only at hSw); go_simp; (first | done | with_reducible rfl))
  try simp only [Act.put, List.setIfInBounds_toArray, List.set_cons_zero, List.set_cons_succ]
  refine wpAnyH_take (i := 6) (oi := { dst := some 30, op := Go.Op.extract (Go.Operand.tmp 24) 0, type := 3, pos := "logic.go:66", after := #[{ on := 5, ground := Go.Ground.data }], guard := none }) (v := ?v12) rfl (by kernel_rfl) (by kernel_rfl) (by kernel_rfl) (fun _ _ _ h => h) (Or.inl ⟨by rfl, ?hy12⟩) hHeld ?rest12
  case hy12 => (intro w hSw; (try dsimp only at hSw); go_simp; (first | done | with_reducible rfl))
  try simp only [Act.put, List.setIfInBounds_toArray, List.set_cons_zero, List.set_cons_succ]
  refine wpAnyH_take (i := 7) (oi := { dst := some 31, op := Go.Op.extract (Go.Operand.tmp 24) 1, type := 4, pos := "logic.go:66", after := #[{ on := 5, ground := Go.Ground.data }, { on := 8, ground := Go.Ground.gcOnly Go.Departure.lateStores }], guard := none }) (v := ?v13) rfl (by kernel_rfl) (by kernel_rfl) (by kernel_rfl) (fun _ _ _ h => h) (Or.inl ⟨by rfl, ?hy13⟩) hHeld ?rest13
  case hy13 => (intro w hSw; (try dsimp only at hSw); go_simp; (first | done | with_reducible rfl))
  try simp only [Act.put, List.setIfInBounds_toArray, List.set_cons_zero, List.set_cons_succ]
  refine wpAnyH_take (i := 8) (oi := { dst := some 10, op := Go.Op.assign (Go.Operand.tmp 30), type := 3, pos := "logic.go:66", after := #[{ on := 6, ground := Go.Ground.data }, { on := 4, ground := Go.Ground.chain }, { on := 0, ground := Go.Ground.phase }, { on := 1, ground := Go.Ground.phase }, { on := 2, ground := Go.Ground.phase }, { on := 3, ground := Go.Ground.phase }, { on := 4, ground := Go.Ground.phase }, { on := 5, ground := Go.Ground.phase }, { on := 6, ground := Go.Ground.phase }, { on := 7, ground := Go.Ground.textOnly Go.Departure.lateStores }], guard := none }) (v := ?v14) rfl (by kernel_rfl) (by kernel_rfl) (by kernel_rfl) (fun _ _ _ h => h) (Or.inl ⟨by rfl, ?hy14⟩) hHeld ?rest14
  case hy14 => (intro w hSw; (try dsimp only at hSw); go_simp; (first | done | with_reducible rfl))
  try simp only [Act.put, List.setIfInBounds_toArray, List.set_cons_zero, List.set_cons_succ]
  refine wpAnyH_take (i := 9) (oi := { dst := some 9, op := Go.Op.assign (Go.Operand.tmp 31), type := 4, pos := "logic.go:66", after := #[{ on := 7, ground := Go.Ground.data }, { on := 8, ground := Go.Ground.chain }, { on := 0, ground := Go.Ground.phase }, { on := 1, ground := Go.Ground.phase }, { on := 2, ground := Go.Ground.phase }, { on := 3, ground := Go.Ground.phase }, { on := 4, ground := Go.Ground.phase }, { on := 5, ground := Go.Ground.phase }, { on := 6, ground := Go.Ground.phase }, { on := 7, ground := Go.Ground.phase }, { on := 8, ground := Go.Ground.phase }], guard := none }) (v := ?v15) rfl (by kernel_rfl) (by kernel_rfl) (by kernel_rfl) (fun _ _ _ h => h) (Or.inl ⟨by rfl, ?hy15⟩) hHeld ?rest15
  case hy15 => (intro w hSw; (try dsimp only at hSw); go_simp; (first | done | with_reducible rfl))
  try simp only [Act.put, List.setIfInBounds_toArray, List.set_cons_zero, List.set_cons_succ]
  refine wpAnyH_done (by kernel_rfl) ?_ _
  go_wp2_with (first | (refine loadsV (B := B4) (by rfl) rfl rfl LB4 ?_) | (refine loadsV (B := B5) (by rfl) rfl rfl LB5 ?_))
  clear LB4 LB5
  refine (cn _ E).mono ?_
  rintro e w39 ⟨rfl, x⟩
  have z16 := x.size
  replace E := E.trans x
  replace LB6 := LB6.ext x
  replace RB6 := RB6.ext x
  clear x
  have TG17 : True := trivial
  go_wp2_with (clear TG17; have hRl := (RB6).lt (Nat.zero_lt_succ _); refine storesV (B := B6) rfl rfl rfl (v := zeroVec) rfl RB6 zeroVec_flat ?_; clear LB6; intro s17 G17 LB6 RQ; have z18 := G17.size; replace E := grown_ext E G17 (by omega); clear RB6; have RB6 := RQ; clear RQ hRl; clear RB6)
  refine bodyPost_ret (results_lay2 rfl rfl rfl (ldV LB6)) rfl ?_
  exact ⟨rfl, E⟩
theorem apply_dom1 (hf : okL f = true) (m n : Int) (ca : ∀ w', Ext w w' → Calls Tryd.prog 20 #[v] w' fun e w2 => e = .returned (.int .i64 m) ∧ Ext w' w2) (cb : ∀ w', Ext w w' → Calls Tryd.prog 20 #[u] w' fun e w2 => e = .returned (.int .i64 n) ∧ Ext w' w2) (hl : lenOk m n = true) (hN : (lenV m n == 0) = false) (cp : ∀ w', Ext w w' → Calls Tryd.prog 22 #[v] w' fun e w2 => e = .returned (.tuple #[zeroBits, .bool false]) ∧ Ext w' w2) (tq : Bool) (cq : ∀ w', Ext w w' → Calls Tryd.prog 22 #[u] w' fun e w2 => ∃ q, e = .returned (.tuple #[q, .bool tq]) ∧ Flat 2 q ∧ Ext w' w2) (hF : Flat 8 v) (hG : Flat 8 u) :
    Calls Tryd.prog 6 #[.int .i64 f, v, u] w fun e w' => e = .returned (.tuple #[zeroVec, .int .i64 24]) ∧ Ext w w' := by
  have E := Ext.refl w
  have ct : ∀ w', Calls Tryd.prog 18 #[.int .i64 f] w' fun e w2 => e = .returned (.tuple #[.int .u8 (tblN f : Int), .bool true]) ∧ Ext w' w2 := fun w' => (table_any f w').mono fun e w2 h => ⟨by rw [h.1, hf], h.2 ▸ Ext.refl _⟩
  have cl : ∀ w', Calls Tryd.prog 19 #[.int .i64 m, .int .i64 n] w' fun e w2 => e = .returned (.tuple #[.int .i64 (lenV m n), .bool true]) ∧ Ext w' w2 := fun w' => (length_any m n w').mono fun e w2 h => ⟨by rw [h.1, hl], h.2 ▸ Ext.refl _⟩
  clear hf hl
  generalize (tblN f : Int) = t at *
  generalize lenV m n = N at *
  go_enter Tryd.func6, Tryd.ntmps6
  have TB4 : True := trivial
  have TB5 : True := trivial
  have TB6 : True := trivial
  go_wp2_with (first | (clear TB4; refine boxsV (v := v) rfl rfl rfl hF ?_; intro B4 w4 bB4 cB4 XB4 LB4 RB4; have z1 := XB4.size; replace E := E.trans XB4; clear RB4) | (clear TB5; refine boxsV (v := u) rfl rfl rfl hG ?_; intro B5 w5 bB5 cB5 XB5 LB5 RB5; have z2 := XB5.size; replace E := E.trans XB5; replace LB4 := LB4.ext XB5; clear RB5) | (clear TB6; refine allocsV rfl rfl ?_; intro B6 w6 bB6 cB6 XB6 LB6 RB6; have z3 := XB6.size; replace E := E.trans XB6; replace LB4 := LB4.ext XB6; replace LB5 := LB5.ext XB6))
  refine (ct _).mono ?_
  rintro e w18 ⟨rfl, x⟩
  have z4 := x.size
  replace E := E.trans x
  replace LB4 := LB4.ext x
  replace LB5 := LB5.ext x
  replace LB6 := LB6.ext x
  replace RB6 := RB6.ext x
  clear x
  go_wp2_with fail
  try simp only [Act.put, List.setIfInBounds_toArray, List.set_cons_zero, List.set_cons_succ]
  have DLB4 := LB4
  have DLB5 := LB5
  refine wp_region_held_drew (S := (fun w' => Ext w18 w')) (by kernel_rfl) ((Ext.refl w18).drew) (fun hHeld => ?_)
  have hq0 : w18.heap.size ≤ w18.drew.heap.size := Nat.le_refl _
  have z5 := (Ext.refl w18).drew.size
  replace E := E.trans (Ext.refl w18).drew
  replace LB4 := LB4.ext (Ext.refl w18).drew
  replace LB5 := LB5.ext (Ext.refl w18).drew
  replace LB6 := LB6.ext (Ext.refl w18).drew
  replace RB6 := RB6.ext (Ext.refl w18).drew
  refine wpAnyH_take (i := 0) (oi := { dst := some 25, op := Go.Op.load 34 (Go.Operand.tmp 4), type := 34, pos := "logic.go:66", after := #[], guard := none }) (v := v) rfl (by kernel_rfl) (by kernel_rfl) (by kernel_rfl) (fun _ _ _ h => h) (yieldV (by rfl) rfl rfl fun w' hx => DLB4.ext hx) hHeld ?_
  try simp only [Act.put, List.setIfInBounds_toArray, List.set_cons_zero, List.set_cons_succ]
  refine wpAnyH_take (i := 2) (oi := { dst := some 27, op := Go.Op.load 34 (Go.Operand.tmp 5), type := 34, pos := "logic.go:66", after := #[], guard := none }) (v := u) rfl (by kernel_rfl) (by kernel_rfl) (by kernel_rfl) (fun _ _ _ h => h) (yieldV (by rfl) rfl rfl fun w' hx => DLB5.ext hx) hHeld ?_
  try simp only [Act.put, List.setIfInBounds_toArray, List.set_cons_zero, List.set_cons_succ]
  refine wpAnyH_ready (rs := [1]) (by kernel_rfl) (by simp) ?_
  refine AllReadyH.cons (o := { dst := some 26, op := Go.Op.call { callee := Go.Callee.value (Go.Operand.func 20), args := #[Go.Operand.tmp 25], argTypes := #[34] }, type := 3, pos := "logic.go:66", after := #[{ on := 0, ground := Go.Ground.data }], guard := none }) rfl (fun K hK => ?_) (AllReadyH.nil)
  go_simp
  refine (ca _ E).mono ?_
  rintro e w26 ⟨rfl, x⟩
  have z8 := x.size
  replace E := E.trans x
  replace LB4 := LB4.ext x
  replace LB5 := LB5.ext x
  replace LB6 := LB6.ext x
  replace RB6 := RB6.ext x
  replace hHeld := Ext.trans hHeld x
  clear x
  refine hK.out _ _ hHeld (fun _ => ?_)
  clear hK K
  try simp only [Act.put, List.setIfInBounds_toArray, List.set_cons_zero, List.set_cons_succ]
  refine wpAnyH_ready (rs := [3]) (by kernel_rfl) (by simp) ?_
  refine AllReadyH.cons (o := { dst := some 28, op := Go.Op.call { callee := Go.Callee.value (Go.Operand.func 20), args := #[Go.Operand.tmp 27], argTypes := #[34] }, type := 3, pos := "logic.go:66", after := #[{ on := 2, ground := Go.Ground.data }, { on := 1, ground := Go.Ground.chain }], guard := none }) rfl (fun K hK => ?_) (AllReadyH.nil)
  go_simp
  refine (cb _ E).mono ?_
  rintro e w28 ⟨rfl, x⟩
  have z9 := x.size
  replace E := E.trans x
  replace LB4 := LB4.ext x
  replace LB5 := LB5.ext x
  replace LB6 := LB6.ext x
  replace RB6 := RB6.ext x
  replace hHeld := Ext.trans hHeld x
  clear x
  refine hK.out _ _ hHeld (fun _ => ?_)
  clear hK K
  try simp only [Act.put, List.setIfInBounds_toArray, List.set_cons_zero, List.set_cons_succ]
  refine wpAnyH_ready (rs := [4]) (by kernel_rfl) (by simp) ?_
  refine AllReadyH.cons (o := { dst := some 29, op := Go.Op.call { callee := Go.Callee.value (Go.Operand.func 19), args := #[Go.Operand.tmp 26, Go.Operand.tmp 28], argTypes := #[3, 3] }, type := 55, pos := "logic.go:66", after := #[{ on := 1, ground := Go.Ground.data }, { on := 3, ground := Go.Ground.data }, { on := 3, ground := Go.Ground.chain }], guard := none }) rfl (fun K hK => ?_) (AllReadyH.nil)
  go_simp
  refine (cl _).mono ?_
  rintro e w29 ⟨rfl, x⟩
  have z10 := x.size
  replace E := E.trans x
  replace LB4 := LB4.ext x
  replace LB5 := LB5.ext x
  replace LB6 := LB6.ext x
  replace RB6 := RB6.ext x
  replace hHeld := Ext.trans hHeld x
  clear x
  refine hK.out _ _ hHeld (fun _ => ?_)
  clear hK K
  try simp only [Act.put, List.setIfInBounds_toArray, List.set_cons_zero, List.set_cons_succ]
  refine wpAnyH_take (i := 5) (oi := { dst := some 24, op := Go.Op.move (Go.Operand.tmp 29), type := 55, pos := "logic.go:66", after := #[{ on := 4, ground := Go.Ground.data }], guard := none }) (v := ?v11) rfl (by kernel_rfl) (by kernel_rfl) (by kernel_rfl) (fun _ _ _ h => h) (Or.inl ⟨by rfl, ?hy11⟩) hHeld ?rest11
  case hy11 => (intro w hSw; (try dsimp only at hSw); go_simp; (first | done | with_reducible rfl))
  try simp only [Act.put, List.setIfInBounds_toArray, List.set_cons_zero, List.set_cons_succ]
  refine wpAnyH_take (i := 6) (oi := { dst := some 30, op := Go.Op.extract (Go.Operand.tmp 24) 0, type := 3, pos := "logic.go:66", after := #[{ on := 5, ground := Go.Ground.data }], guard := none }) (v := ?v12) rfl (by kernel_rfl) (by kernel_rfl) (by kernel_rfl) (fun _ _ _ h => h) (Or.inl ⟨by rfl, ?hy12⟩) hHeld ?rest12
  case hy12 => (intro w hSw; (try dsimp only at hSw); go_simp; (first | done | with_reducible rfl))
  try simp only [Act.put, List.setIfInBounds_toArray, List.set_cons_zero, List.set_cons_succ]
  refine wpAnyH_take (i := 7) (oi := { dst := some 31, op := Go.Op.extract (Go.Operand.tmp 24) 1, type := 4, pos := "logic.go:66", after := #[{ on := 5, ground := Go.Ground.data }, { on := 8, ground := Go.Ground.gcOnly Go.Departure.lateStores }], guard := none }) (v := ?v13) rfl (by kernel_rfl) (by kernel_rfl) (by kernel_rfl) (fun _ _ _ h => h) (Or.inl ⟨by rfl, ?hy13⟩) hHeld ?rest13
  case hy13 => (intro w hSw; (try dsimp only at hSw); go_simp; (first | done | with_reducible rfl))
  try simp only [Act.put, List.setIfInBounds_toArray, List.set_cons_zero, List.set_cons_succ]
  refine wpAnyH_take (i := 8) (oi := { dst := some 10, op := Go.Op.assign (Go.Operand.tmp 30), type := 3, pos := "logic.go:66", after := #[{ on := 6, ground := Go.Ground.data }, { on := 4, ground := Go.Ground.chain }, { on := 0, ground := Go.Ground.phase }, { on := 1, ground := Go.Ground.phase }, { on := 2, ground := Go.Ground.phase }, { on := 3, ground := Go.Ground.phase }, { on := 4, ground := Go.Ground.phase }, { on := 5, ground := Go.Ground.phase }, { on := 6, ground := Go.Ground.phase }, { on := 7, ground := Go.Ground.textOnly Go.Departure.lateStores }], guard := none }) (v := ?v14) rfl (by kernel_rfl) (by kernel_rfl) (by kernel_rfl) (fun _ _ _ h => h) (Or.inl ⟨by rfl, ?hy14⟩) hHeld ?rest14
  case hy14 => (intro w hSw; (try dsimp only at hSw); go_simp; (first | done | with_reducible rfl))
  try simp only [Act.put, List.setIfInBounds_toArray, List.set_cons_zero, List.set_cons_succ]
  refine wpAnyH_take (i := 9) (oi := { dst := some 9, op := Go.Op.assign (Go.Operand.tmp 31), type := 4, pos := "logic.go:66", after := #[{ on := 7, ground := Go.Ground.data }, { on := 8, ground := Go.Ground.chain }, { on := 0, ground := Go.Ground.phase }, { on := 1, ground := Go.Ground.phase }, { on := 2, ground := Go.Ground.phase }, { on := 3, ground := Go.Ground.phase }, { on := 4, ground := Go.Ground.phase }, { on := 5, ground := Go.Ground.phase }, { on := 6, ground := Go.Ground.phase }, { on := 7, ground := Go.Ground.phase }, { on := 8, ground := Go.Ground.phase }], guard := none }) (v := ?v15) rfl (by kernel_rfl) (by kernel_rfl) (by kernel_rfl) (fun _ _ _ h => h) (Or.inl ⟨by rfl, ?hy15⟩) hHeld ?rest15
  case hy15 => (intro w hSw; (try dsimp only at hSw); go_simp; (first | done | with_reducible rfl))
  try simp only [Act.put, List.setIfInBounds_toArray, List.set_cons_zero, List.set_cons_succ]
  refine wpAnyH_done (by kernel_rfl) ?_ _
  go_wp2_with (refine loadsV (B := B4) (by rfl) rfl rfl LB4 ?_)
  clear LB4
  refine (cp _ E).mono ?_
  rintro e w44 ⟨rfl, x⟩
  have z16 := x.size
  replace E := E.trans x
  replace LB5 := LB5.ext x
  replace LB6 := LB6.ext x
  replace RB6 := RB6.ext x
  clear x
  have TB11 : True := trivial
  have TG18 : True := trivial
  go_wp2_with (first | (clear TB11; refine allocsB rfl rfl ?_; intro B11 w11 bB11 cB11 XB11 LB11 RB11; have z17 := XB11.size; replace E := E.trans XB11; replace LB5 := LB5.ext XB11; replace LB6 := LB6.ext XB11; replace RB6 := RB6.ext XB11; clear LB11) | (clear TG18; have hRl := (RB11).lt (Nat.zero_lt_succ _); refine storesB (B := B11) rfl rfl rfl (v := zeroBits) rfl RB11 zeroBits_flat ?_; intro s18 G18 LB11 RQ; have z19 := G18.size; replace E := grown_ext E G18 (by omega); replace LB5 := LB5.grown G18 (by omega); replace LB6 := LB6.grown G18 (by omega); replace RB6 := RB6.grown G18 (by omega); clear RB11; have RB11 := RQ; clear RQ hRl; clear LB11 RB11) | (refine loadsV (B := B5) (by rfl) rfl rfl LB5 ?_))
  clear LB5
  refine (cq _ E).mono ?_
  rintro e w49 ⟨q, rfl, Fq, x⟩
  have z20 := x.size
  replace E := E.trans x
  replace LB6 := LB6.ext x
  replace RB6 := RB6.ext x
  clear x
  have TB12 : True := trivial
  have TG22 : True := trivial
  have TG24 : True := trivial
  go_wp2_with (first | (clear TB12; refine allocsB rfl rfl ?_; intro B12 w12 bB12 cB12 XB12 LB12 RB12; have z21 := XB12.size; replace E := E.trans XB12; replace LB6 := LB6.ext XB12; replace RB6 := RB6.ext XB12; clear LB12) | (clear TG22; have hRl := (RB12).lt (Nat.zero_lt_succ _); refine storesB (B := B12) rfl rfl rfl (v := q) rfl RB12 Fq ?_; intro s22 G22 LB12 RQ; have z23 := G22.size; replace E := grown_ext E G22 (by omega); replace LB6 := LB6.grown G22 (by omega); replace RB6 := RB6.grown G22 (by omega); clear RB12; have RB12 := RQ; clear RQ hRl; clear LB12 RB12) | (clear TG24; have hRl := (RB6).lt (Nat.zero_lt_succ _); refine storesV (B := B6) rfl rfl rfl (v := zeroVec) rfl RB6 zeroVec_flat ?_; clear LB6; intro s24 G24 LB6 RQ; have z25 := G24.size; replace E := grown_ext E G24 (by omega); clear RB6; have RB6 := RQ; clear RQ hRl; clear RB6))
  refine bodyPost_ret (results_lay2 rfl rfl rfl (ldV LB6)) rfl ?_
  exact ⟨rfl, E⟩
theorem apply_dom2 (hf : okL f = true) (m n : Int) (ca : ∀ w', Ext w w' → Calls Tryd.prog 20 #[v] w' fun e w2 => e = .returned (.int .i64 m) ∧ Ext w' w2) (cb : ∀ w', Ext w w' → Calls Tryd.prog 20 #[u] w' fun e w2 => e = .returned (.int .i64 n) ∧ Ext w' w2) (hl : lenOk m n = true) (hN : (lenV m n == 0) = false) (x : List Bool) (cp : ∀ w', Ext w w' → Calls Tryd.prog 22 #[v] w' fun e w2 => ∃ p, e = .returned (.tuple #[p, .bool true]) ∧ BitS w2 p x (fun i => i < w.heap.size ∨ New w'.heap.size i) ∧ Ext w' w2) (cq : ∀ w', Ext w w' → Calls Tryd.prog 22 #[u] w' fun e w2 => e = .returned (.tuple #[zeroBits, .bool false]) ∧ Ext w' w2) (hF : Flat 8 v) (hG : Flat 8 u) :
    Calls Tryd.prog 6 #[.int .i64 f, v, u] w fun e w' => e = .returned (.tuple #[zeroVec, .int .i64 24]) ∧ Ext w w' := by
  have E := Ext.refl w
  have ct : ∀ w', Calls Tryd.prog 18 #[.int .i64 f] w' fun e w2 => e = .returned (.tuple #[.int .u8 (tblN f : Int), .bool true]) ∧ Ext w' w2 := fun w' => (table_any f w').mono fun e w2 h => ⟨by rw [h.1, hf], h.2 ▸ Ext.refl _⟩
  have cl : ∀ w', Calls Tryd.prog 19 #[.int .i64 m, .int .i64 n] w' fun e w2 => e = .returned (.tuple #[.int .i64 (lenV m n), .bool true]) ∧ Ext w' w2 := fun w' => (length_any m n w').mono fun e w2 h => ⟨by rw [h.1, hl], h.2 ▸ Ext.refl _⟩
  clear hf hl
  generalize (tblN f : Int) = t at *
  generalize lenV m n = N at *
  go_enter Tryd.func6, Tryd.ntmps6
  have TB4 : True := trivial
  have TB5 : True := trivial
  have TB6 : True := trivial
  go_wp2_with (first | (clear TB4; refine boxsV (v := v) rfl rfl rfl hF ?_; intro B4 w4 bB4 cB4 XB4 LB4 RB4; have z1 := XB4.size; replace E := E.trans XB4; clear RB4) | (clear TB5; refine boxsV (v := u) rfl rfl rfl hG ?_; intro B5 w5 bB5 cB5 XB5 LB5 RB5; have z2 := XB5.size; replace E := E.trans XB5; replace LB4 := LB4.ext XB5; clear RB5) | (clear TB6; refine allocsV rfl rfl ?_; intro B6 w6 bB6 cB6 XB6 LB6 RB6; have z3 := XB6.size; replace E := E.trans XB6; replace LB4 := LB4.ext XB6; replace LB5 := LB5.ext XB6))
  refine (ct _).mono ?_
  rintro e w18 ⟨rfl, x⟩
  have z4 := x.size
  replace E := E.trans x
  replace LB4 := LB4.ext x
  replace LB5 := LB5.ext x
  replace LB6 := LB6.ext x
  replace RB6 := RB6.ext x
  clear x
  go_wp2_with fail
  try simp only [Act.put, List.setIfInBounds_toArray, List.set_cons_zero, List.set_cons_succ]
  have DLB4 := LB4
  have DLB5 := LB5
  refine wp_region_held_drew (S := (fun w' => Ext w18 w')) (by kernel_rfl) ((Ext.refl w18).drew) (fun hHeld => ?_)
  have hq0 : w18.heap.size ≤ w18.drew.heap.size := Nat.le_refl _
  have z5 := (Ext.refl w18).drew.size
  replace E := E.trans (Ext.refl w18).drew
  replace LB4 := LB4.ext (Ext.refl w18).drew
  replace LB5 := LB5.ext (Ext.refl w18).drew
  replace LB6 := LB6.ext (Ext.refl w18).drew
  replace RB6 := RB6.ext (Ext.refl w18).drew
  refine wpAnyH_take (i := 0) (oi := { dst := some 25, op := Go.Op.load 34 (Go.Operand.tmp 4), type := 34, pos := "logic.go:66", after := #[], guard := none }) (v := v) rfl (by kernel_rfl) (by kernel_rfl) (by kernel_rfl) (fun _ _ _ h => h) (yieldV (by rfl) rfl rfl fun w' hx => DLB4.ext hx) hHeld ?_
  try simp only [Act.put, List.setIfInBounds_toArray, List.set_cons_zero, List.set_cons_succ]
  refine wpAnyH_take (i := 2) (oi := { dst := some 27, op := Go.Op.load 34 (Go.Operand.tmp 5), type := 34, pos := "logic.go:66", after := #[], guard := none }) (v := u) rfl (by kernel_rfl) (by kernel_rfl) (by kernel_rfl) (fun _ _ _ h => h) (yieldV (by rfl) rfl rfl fun w' hx => DLB5.ext hx) hHeld ?_
  try simp only [Act.put, List.setIfInBounds_toArray, List.set_cons_zero, List.set_cons_succ]
  refine wpAnyH_ready (rs := [1]) (by kernel_rfl) (by simp) ?_
  refine AllReadyH.cons (o := { dst := some 26, op := Go.Op.call { callee := Go.Callee.value (Go.Operand.func 20), args := #[Go.Operand.tmp 25], argTypes := #[34] }, type := 3, pos := "logic.go:66", after := #[{ on := 0, ground := Go.Ground.data }], guard := none }) rfl (fun K hK => ?_) (AllReadyH.nil)
  go_simp
  refine (ca _ E).mono ?_
  rintro e w26 ⟨rfl, x⟩
  have z8 := x.size
  replace E := E.trans x
  replace LB4 := LB4.ext x
  replace LB5 := LB5.ext x
  replace LB6 := LB6.ext x
  replace RB6 := RB6.ext x
  replace hHeld := Ext.trans hHeld x
  clear x
  refine hK.out _ _ hHeld (fun _ => ?_)
  clear hK K
  try simp only [Act.put, List.setIfInBounds_toArray, List.set_cons_zero, List.set_cons_succ]
  refine wpAnyH_ready (rs := [3]) (by kernel_rfl) (by simp) ?_
  refine AllReadyH.cons (o := { dst := some 28, op := Go.Op.call { callee := Go.Callee.value (Go.Operand.func 20), args := #[Go.Operand.tmp 27], argTypes := #[34] }, type := 3, pos := "logic.go:66", after := #[{ on := 2, ground := Go.Ground.data }, { on := 1, ground := Go.Ground.chain }], guard := none }) rfl (fun K hK => ?_) (AllReadyH.nil)
  go_simp
  refine (cb _ E).mono ?_
  rintro e w28 ⟨rfl, x⟩
  have z9 := x.size
  replace E := E.trans x
  replace LB4 := LB4.ext x
  replace LB5 := LB5.ext x
  replace LB6 := LB6.ext x
  replace RB6 := RB6.ext x
  replace hHeld := Ext.trans hHeld x
  clear x
  refine hK.out _ _ hHeld (fun _ => ?_)
  clear hK K
  try simp only [Act.put, List.setIfInBounds_toArray, List.set_cons_zero, List.set_cons_succ]
  refine wpAnyH_ready (rs := [4]) (by kernel_rfl) (by simp) ?_
  refine AllReadyH.cons (o := { dst := some 29, op := Go.Op.call { callee := Go.Callee.value (Go.Operand.func 19), args := #[Go.Operand.tmp 26, Go.Operand.tmp 28], argTypes := #[3, 3] }, type := 55, pos := "logic.go:66", after := #[{ on := 1, ground := Go.Ground.data }, { on := 3, ground := Go.Ground.data }, { on := 3, ground := Go.Ground.chain }], guard := none }) rfl (fun K hK => ?_) (AllReadyH.nil)
  go_simp
  refine (cl _).mono ?_
  rintro e w29 ⟨rfl, x⟩
  have z10 := x.size
  replace E := E.trans x
  replace LB4 := LB4.ext x
  replace LB5 := LB5.ext x
  replace LB6 := LB6.ext x
  replace RB6 := RB6.ext x
  replace hHeld := Ext.trans hHeld x
  clear x
  refine hK.out _ _ hHeld (fun _ => ?_)
  clear hK K
  try simp only [Act.put, List.setIfInBounds_toArray, List.set_cons_zero, List.set_cons_succ]
  refine wpAnyH_take (i := 5) (oi := { dst := some 24, op := Go.Op.move (Go.Operand.tmp 29), type := 55, pos := "logic.go:66", after := #[{ on := 4, ground := Go.Ground.data }], guard := none }) (v := ?v11) rfl (by kernel_rfl) (by kernel_rfl) (by kernel_rfl) (fun _ _ _ h => h) (Or.inl ⟨by rfl, ?hy11⟩) hHeld ?rest11
  case hy11 => (intro w hSw; (try dsimp only at hSw); go_simp; (first | done | with_reducible rfl))
  try simp only [Act.put, List.setIfInBounds_toArray, List.set_cons_zero, List.set_cons_succ]
  refine wpAnyH_take (i := 6) (oi := { dst := some 30, op := Go.Op.extract (Go.Operand.tmp 24) 0, type := 3, pos := "logic.go:66", after := #[{ on := 5, ground := Go.Ground.data }], guard := none }) (v := ?v12) rfl (by kernel_rfl) (by kernel_rfl) (by kernel_rfl) (fun _ _ _ h => h) (Or.inl ⟨by rfl, ?hy12⟩) hHeld ?rest12
  case hy12 => (intro w hSw; (try dsimp only at hSw); go_simp; (first | done | with_reducible rfl))
  try simp only [Act.put, List.setIfInBounds_toArray, List.set_cons_zero, List.set_cons_succ]
  refine wpAnyH_take (i := 7) (oi := { dst := some 31, op := Go.Op.extract (Go.Operand.tmp 24) 1, type := 4, pos := "logic.go:66", after := #[{ on := 5, ground := Go.Ground.data }, { on := 8, ground := Go.Ground.gcOnly Go.Departure.lateStores }], guard := none }) (v := ?v13) rfl (by kernel_rfl) (by kernel_rfl) (by kernel_rfl) (fun _ _ _ h => h) (Or.inl ⟨by rfl, ?hy13⟩) hHeld ?rest13
  case hy13 => (intro w hSw; (try dsimp only at hSw); go_simp; (first | done | with_reducible rfl))
  try simp only [Act.put, List.setIfInBounds_toArray, List.set_cons_zero, List.set_cons_succ]
  refine wpAnyH_take (i := 8) (oi := { dst := some 10, op := Go.Op.assign (Go.Operand.tmp 30), type := 3, pos := "logic.go:66", after := #[{ on := 6, ground := Go.Ground.data }, { on := 4, ground := Go.Ground.chain }, { on := 0, ground := Go.Ground.phase }, { on := 1, ground := Go.Ground.phase }, { on := 2, ground := Go.Ground.phase }, { on := 3, ground := Go.Ground.phase }, { on := 4, ground := Go.Ground.phase }, { on := 5, ground := Go.Ground.phase }, { on := 6, ground := Go.Ground.phase }, { on := 7, ground := Go.Ground.textOnly Go.Departure.lateStores }], guard := none }) (v := ?v14) rfl (by kernel_rfl) (by kernel_rfl) (by kernel_rfl) (fun _ _ _ h => h) (Or.inl ⟨by rfl, ?hy14⟩) hHeld ?rest14
  case hy14 => (intro w hSw; (try dsimp only at hSw); go_simp; (first | done | with_reducible rfl))
  try simp only [Act.put, List.setIfInBounds_toArray, List.set_cons_zero, List.set_cons_succ]
  refine wpAnyH_take (i := 9) (oi := { dst := some 9, op := Go.Op.assign (Go.Operand.tmp 31), type := 4, pos := "logic.go:66", after := #[{ on := 7, ground := Go.Ground.data }, { on := 8, ground := Go.Ground.chain }, { on := 0, ground := Go.Ground.phase }, { on := 1, ground := Go.Ground.phase }, { on := 2, ground := Go.Ground.phase }, { on := 3, ground := Go.Ground.phase }, { on := 4, ground := Go.Ground.phase }, { on := 5, ground := Go.Ground.phase }, { on := 6, ground := Go.Ground.phase }, { on := 7, ground := Go.Ground.phase }, { on := 8, ground := Go.Ground.phase }], guard := none }) (v := ?v15) rfl (by kernel_rfl) (by kernel_rfl) (by kernel_rfl) (fun _ _ _ h => h) (Or.inl ⟨by rfl, ?hy15⟩) hHeld ?rest15
  case hy15 => (intro w hSw; (try dsimp only at hSw); go_simp; (first | done | with_reducible rfl))
  try simp only [Act.put, List.setIfInBounds_toArray, List.set_cons_zero, List.set_cons_succ]
  refine wpAnyH_done (by kernel_rfl) ?_ _
  go_wp2_with (refine loadsV (B := B4) (by rfl) rfl rfl LB4 ?_)
  clear LB4
  refine (cp _ E).mono ?_
  rintro e w44 ⟨p, rfl, hq, x⟩
  have BP := hq.now
  have Fp := BP.is.flat
  clear hq
  have z16 := x.size
  replace E := E.trans x
  replace LB5 := LB5.ext x
  replace LB6 := LB6.ext x
  replace RB6 := RB6.ext x
  clear x
  have TB11 : True := trivial
  have TG18 : True := trivial
  go_wp2_with (first | (clear TB11; refine allocsB rfl rfl ?_; intro B11 w11 bB11 cB11 XB11 LB11 RB11; have z17 := XB11.size; replace E := E.trans XB11; replace LB5 := LB5.ext XB11; replace LB6 := LB6.ext XB11; replace RB6 := RB6.ext XB11; replace BP := BP.ext XB11; clear LB11) | (clear TG18; have hRl := (RB11).lt (Nat.zero_lt_succ _); refine storesB (B := B11) rfl rfl rfl (v := p) rfl RB11 Fp ?_; intro s18 G18 LB11 RQ; have z19 := G18.size; replace E := grown_ext E G18 (by omega); replace LB5 := LB5.grown G18 (by omega); replace LB6 := LB6.grown G18 (by omega); replace RB6 := RB6.grown G18 (by omega); replace BP := BP.grown G18 (by dsimp only [New]; omega); clear RB11; have RB11 := RQ; clear RQ hRl; clear LB11 RB11) | (refine loadsV (B := B5) (by rfl) rfl rfl LB5 ?_))
  clear LB5
  refine (cq _ E).mono ?_
  rintro e w49 ⟨rfl, x⟩
  have z20 := x.size
  replace E := E.trans x
  replace LB6 := LB6.ext x
  replace RB6 := RB6.ext x
  replace BP := BP.ext x
  clear x
  have TB12 : True := trivial
  have TG22 : True := trivial
  have TG24 : True := trivial
  go_wp2_with (first | (clear TB12; refine allocsB rfl rfl ?_; intro B12 w12 bB12 cB12 XB12 LB12 RB12; have z21 := XB12.size; replace E := E.trans XB12; replace LB6 := LB6.ext XB12; replace RB6 := RB6.ext XB12; replace BP := BP.ext XB12; clear LB12) | (clear TG22; have hRl := (RB12).lt (Nat.zero_lt_succ _); refine storesB (B := B12) rfl rfl rfl (v := zeroBits) rfl RB12 zeroBits_flat ?_; intro s22 G22 LB12 RQ; have z23 := G22.size; replace E := grown_ext E G22 (by omega); replace LB6 := LB6.grown G22 (by omega); replace RB6 := RB6.grown G22 (by omega); replace BP := BP.grown G22 (by dsimp only [New]; omega); clear RB12; have RB12 := RQ; clear RQ hRl; clear LB12 RB12) | (clear TG24; have hRl := (RB6).lt (Nat.zero_lt_succ _); refine storesV (B := B6) rfl rfl rfl (v := zeroVec) rfl RB6 zeroVec_flat ?_; clear LB6; intro s24 G24 LB6 RQ; have z25 := G24.size; replace E := grown_ext E G24 (by omega); replace BP := BP.grown G24 (by dsimp only [New]; omega); clear RB6; have RB6 := RQ; clear RQ hRl; clear RB6))
  refine bodyPost_ret (results_lay2 rfl rfl rfl (ldV LB6)) rfl ?_
  exact ⟨rfl, E⟩
theorem apply_ff (hf : okL f = true) (m n : Int) (N : Nat) (hl : lenOk m n = true) (hN : lenV m n = (N : Int)) (h0 : 0 < N) (hN2 : N ≤ 1048576) (ca : ∀ w', Ext w w' → Calls Tryd.prog 20 #[v] w' fun e w2 => e = .returned (.int .i64 m) ∧ Ext w' w2) (cb : ∀ w', Ext w w' → Calls Tryd.prog 20 #[u] w' fun e w2 => e = .returned (.int .i64 n) ∧ Ext w' w2) (x y : List Bool) (hx : x.length = N) (hy : y.length = N) (cp : ∀ w', Ext w w' → Calls Tryd.prog 22 #[v] w' fun e w2 => ∃ p, e = .returned (.tuple #[p, .bool true]) ∧ BitS w2 p x (fun i => i < w.heap.size ∨ New w'.heap.size i) ∧ Ext w' w2) (cq : ∀ w', Ext w w' → Calls Tryd.prog 22 #[u] w' fun e w2 => ∃ p, e = .returned (.tuple #[p, .bool true]) ∧ BitS w2 p y (fun i => i < w.heap.size ∨ New w'.heap.size i) ∧ Ext w' w2) (hF : Flat 8 v) (hG : Flat 8 u) :
    Calls Tryd.prog 6 #[.int .i64 f, v, u] w fun e w' => ∃ p, e = .returned (.tuple #[p, .int .i64 0]) ∧ VecS w' p (VD.bits (ttL (tblN f) (sprL x N) (sprL y N))) (New w.heap.size) ∧ Ext w w' := by
  have E := Ext.refl w
  have ct : ∀ w', Calls Tryd.prog 18 #[.int .i64 f] w' fun e w2 => e = .returned (.tuple #[.int .u8 (tblN f : Int), .bool true]) ∧ Ext w' w2 := fun w' => (table_any f w').mono fun e w2 h => ⟨by rw [h.1, hf], h.2 ▸ Ext.refl _⟩
  have cl : ∀ w', Calls Tryd.prog 19 #[.int .i64 m, .int .i64 n] w' fun e w2 => e = .returned (.tuple #[.int .i64 (lenV m n), .bool true]) ∧ Ext w' w2 := fun w' => (length_any m n w').mono fun e w2 h => ⟨by rw [h.1, hl], h.2 ▸ Ext.refl _⟩
  have e36 : ((N : Int) == 0) = false := by simp; omega
  have ep : ((x.length : Int) != (N : Int)) = false := by simp; omega
  have eq : ((y.length : Int) != (N : Int)) = false := by simp; omega
  rw [hN] at cl
  have cx : x = sprL x N := by unfold sprL; rw [if_pos hx]
  have cy : y = sprL y N := by unfold sprL; rw [if_pos hy]
  have hlen : (sprL x N).length = (sprL y N).length := by rw [sprL_length, sprL_length]
  have cv := fun p q w hp hq => truth_yes (tblN f) (tblN_lt f) p q (sprL x N) (sprL y N) w hp hq hlen
  have LP := fun p w h => blen_any p x w h
  have LQ' := fun q w h => blen_any q y w h
  have AP := fun p w h => at_any p x 0 w h
  have AQ := fun q w h => at_any q y 0 w h
  have cx : sprL x N = x := cx.symm
  rw [cx] at cv
  have cy : sprL y N = y := cy.symm
  rw [cy] at cv
  have hQ : ttL (tblN f) x y = ttL (tblN f) (sprL x N) (sprL y N) := by rw [cx, cy]
  rw [← hQ]
  clear hQ hf hl hN hx hy hlen
  generalize ttL (tblN f) x y = R at *
  generalize (tblN f : Int) = t at *
  generalize (x.length : Int) = mx at *
  generalize (y.length : Int) = my at *
  generalize bget x 0 = gx at *
  generalize bget y 0 = gy at *
  generalize (N : Int) = M at *
  clear cx
  clear cy
  go_enter Tryd.func6, Tryd.ntmps6
  have TB4 : True := trivial
  have TB5 : True := trivial
  have TB6 : True := trivial
  go_wp2_with (first | (clear TB4; refine boxsV (v := v) rfl rfl rfl hF ?_; intro B4 w4 bB4 cB4 XB4 LB4 RB4; have z1 := XB4.size; replace E := E.trans XB4; clear RB4) | (clear TB5; refine boxsV (v := u) rfl rfl rfl hG ?_; intro B5 w5 bB5 cB5 XB5 LB5 RB5; have z2 := XB5.size; replace E := E.trans XB5; replace LB4 := LB4.ext XB5; clear RB5) | (clear TB6; refine allocsV rfl rfl ?_; intro B6 w6 bB6 cB6 XB6 LB6 RB6; have z3 := XB6.size; replace E := E.trans XB6; replace LB4 := LB4.ext XB6; replace LB5 := LB5.ext XB6))
  refine (ct _).mono ?_
  rintro e w18 ⟨rfl, x⟩
  have z4 := x.size
  replace E := E.trans x
  replace LB4 := LB4.ext x
  replace LB5 := LB5.ext x
  replace LB6 := LB6.ext x
  replace RB6 := RB6.ext x
  clear x
  go_wp2_with fail
  try simp only [Act.put, List.setIfInBounds_toArray, List.set_cons_zero, List.set_cons_succ]
  have DLB4 := LB4
  have DLB5 := LB5
  refine wp_region_held_drew (S := (fun w' => Ext w18 w')) (by kernel_rfl) ((Ext.refl w18).drew) (fun hHeld => ?_)
  have hq0 : w18.heap.size ≤ w18.drew.heap.size := Nat.le_refl _
  have z5 := (Ext.refl w18).drew.size
  replace E := E.trans (Ext.refl w18).drew
  replace LB4 := LB4.ext (Ext.refl w18).drew
  replace LB5 := LB5.ext (Ext.refl w18).drew
  replace LB6 := LB6.ext (Ext.refl w18).drew
  replace RB6 := RB6.ext (Ext.refl w18).drew
  refine wpAnyH_take (i := 0) (oi := { dst := some 25, op := Go.Op.load 34 (Go.Operand.tmp 4), type := 34, pos := "logic.go:66", after := #[], guard := none }) (v := v) rfl (by kernel_rfl) (by kernel_rfl) (by kernel_rfl) (fun _ _ _ h => h) (yieldV (by rfl) rfl rfl fun w' hx => DLB4.ext hx) hHeld ?_
  try simp only [Act.put, List.setIfInBounds_toArray, List.set_cons_zero, List.set_cons_succ]
  refine wpAnyH_take (i := 2) (oi := { dst := some 27, op := Go.Op.load 34 (Go.Operand.tmp 5), type := 34, pos := "logic.go:66", after := #[], guard := none }) (v := u) rfl (by kernel_rfl) (by kernel_rfl) (by kernel_rfl) (fun _ _ _ h => h) (yieldV (by rfl) rfl rfl fun w' hx => DLB5.ext hx) hHeld ?_
  try simp only [Act.put, List.setIfInBounds_toArray, List.set_cons_zero, List.set_cons_succ]
  refine wpAnyH_ready (rs := [1]) (by kernel_rfl) (by simp) ?_
  refine AllReadyH.cons (o := { dst := some 26, op := Go.Op.call { callee := Go.Callee.value (Go.Operand.func 20), args := #[Go.Operand.tmp 25], argTypes := #[34] }, type := 3, pos := "logic.go:66", after := #[{ on := 0, ground := Go.Ground.data }], guard := none }) rfl (fun K hK => ?_) (AllReadyH.nil)
  go_simp
  refine (ca _ E).mono ?_
  rintro e w26 ⟨rfl, x⟩
  have z8 := x.size
  replace E := E.trans x
  replace LB4 := LB4.ext x
  replace LB5 := LB5.ext x
  replace LB6 := LB6.ext x
  replace RB6 := RB6.ext x
  replace hHeld := Ext.trans hHeld x
  clear x
  refine hK.out _ _ hHeld (fun _ => ?_)
  clear hK K
  try simp only [Act.put, List.setIfInBounds_toArray, List.set_cons_zero, List.set_cons_succ]
  refine wpAnyH_ready (rs := [3]) (by kernel_rfl) (by simp) ?_
  refine AllReadyH.cons (o := { dst := some 28, op := Go.Op.call { callee := Go.Callee.value (Go.Operand.func 20), args := #[Go.Operand.tmp 27], argTypes := #[34] }, type := 3, pos := "logic.go:66", after := #[{ on := 2, ground := Go.Ground.data }, { on := 1, ground := Go.Ground.chain }], guard := none }) rfl (fun K hK => ?_) (AllReadyH.nil)
  go_simp
  refine (cb _ E).mono ?_
  rintro e w28 ⟨rfl, x⟩
  have z9 := x.size
  replace E := E.trans x
  replace LB4 := LB4.ext x
  replace LB5 := LB5.ext x
  replace LB6 := LB6.ext x
  replace RB6 := RB6.ext x
  replace hHeld := Ext.trans hHeld x
  clear x
  refine hK.out _ _ hHeld (fun _ => ?_)
  clear hK K
  try simp only [Act.put, List.setIfInBounds_toArray, List.set_cons_zero, List.set_cons_succ]
  refine wpAnyH_ready (rs := [4]) (by kernel_rfl) (by simp) ?_
  refine AllReadyH.cons (o := { dst := some 29, op := Go.Op.call { callee := Go.Callee.value (Go.Operand.func 19), args := #[Go.Operand.tmp 26, Go.Operand.tmp 28], argTypes := #[3, 3] }, type := 55, pos := "logic.go:66", after := #[{ on := 1, ground := Go.Ground.data }, { on := 3, ground := Go.Ground.data }, { on := 3, ground := Go.Ground.chain }], guard := none }) rfl (fun K hK => ?_) (AllReadyH.nil)
  go_simp
  refine (cl _).mono ?_
  rintro e w29 ⟨rfl, x⟩
  have z10 := x.size
  replace E := E.trans x
  replace LB4 := LB4.ext x
  replace LB5 := LB5.ext x
  replace LB6 := LB6.ext x
  replace RB6 := RB6.ext x
  replace hHeld := Ext.trans hHeld x
  clear x
  refine hK.out _ _ hHeld (fun _ => ?_)
  clear hK K
  try simp only [Act.put, List.setIfInBounds_toArray, List.set_cons_zero, List.set_cons_succ]
  refine wpAnyH_take (i := 5) (oi := { dst := some 24, op := Go.Op.move (Go.Operand.tmp 29), type := 55, pos := "logic.go:66", after := #[{ on := 4, ground := Go.Ground.data }], guard := none }) (v := ?v11) rfl (by kernel_rfl) (by kernel_rfl) (by kernel_rfl) (fun _ _ _ h => h) (Or.inl ⟨by rfl, ?hy11⟩) hHeld ?rest11
  case hy11 => (intro w hSw; (try dsimp only at hSw); go_simp; (first | done | with_reducible rfl))
  try simp only [Act.put, List.setIfInBounds_toArray, List.set_cons_zero, List.set_cons_succ]
  refine wpAnyH_take (i := 6) (oi := { dst := some 30, op := Go.Op.extract (Go.Operand.tmp 24) 0, type := 3, pos := "logic.go:66", after := #[{ on := 5, ground := Go.Ground.data }], guard := none }) (v := ?v12) rfl (by kernel_rfl) (by kernel_rfl) (by kernel_rfl) (fun _ _ _ h => h) (Or.inl ⟨by rfl, ?hy12⟩) hHeld ?rest12
  case hy12 => (intro w hSw; (try dsimp only at hSw); go_simp; (first | done | with_reducible rfl))
  try simp only [Act.put, List.setIfInBounds_toArray, List.set_cons_zero, List.set_cons_succ]
  refine wpAnyH_take (i := 7) (oi := { dst := some 31, op := Go.Op.extract (Go.Operand.tmp 24) 1, type := 4, pos := "logic.go:66", after := #[{ on := 5, ground := Go.Ground.data }, { on := 8, ground := Go.Ground.gcOnly Go.Departure.lateStores }], guard := none }) (v := ?v13) rfl (by kernel_rfl) (by kernel_rfl) (by kernel_rfl) (fun _ _ _ h => h) (Or.inl ⟨by rfl, ?hy13⟩) hHeld ?rest13
  case hy13 => (intro w hSw; (try dsimp only at hSw); go_simp; (first | done | with_reducible rfl))
  try simp only [Act.put, List.setIfInBounds_toArray, List.set_cons_zero, List.set_cons_succ]
  refine wpAnyH_take (i := 8) (oi := { dst := some 10, op := Go.Op.assign (Go.Operand.tmp 30), type := 3, pos := "logic.go:66", after := #[{ on := 6, ground := Go.Ground.data }, { on := 4, ground := Go.Ground.chain }, { on := 0, ground := Go.Ground.phase }, { on := 1, ground := Go.Ground.phase }, { on := 2, ground := Go.Ground.phase }, { on := 3, ground := Go.Ground.phase }, { on := 4, ground := Go.Ground.phase }, { on := 5, ground := Go.Ground.phase }, { on := 6, ground := Go.Ground.phase }, { on := 7, ground := Go.Ground.textOnly Go.Departure.lateStores }], guard := none }) (v := ?v14) rfl (by kernel_rfl) (by kernel_rfl) (by kernel_rfl) (fun _ _ _ h => h) (Or.inl ⟨by rfl, ?hy14⟩) hHeld ?rest14
  case hy14 => (intro w hSw; (try dsimp only at hSw); go_simp; (first | done | with_reducible rfl))
  try simp only [Act.put, List.setIfInBounds_toArray, List.set_cons_zero, List.set_cons_succ]
  refine wpAnyH_take (i := 9) (oi := { dst := some 9, op := Go.Op.assign (Go.Operand.tmp 31), type := 4, pos := "logic.go:66", after := #[{ on := 7, ground := Go.Ground.data }, { on := 8, ground := Go.Ground.chain }, { on := 0, ground := Go.Ground.phase }, { on := 1, ground := Go.Ground.phase }, { on := 2, ground := Go.Ground.phase }, { on := 3, ground := Go.Ground.phase }, { on := 4, ground := Go.Ground.phase }, { on := 5, ground := Go.Ground.phase }, { on := 6, ground := Go.Ground.phase }, { on := 7, ground := Go.Ground.phase }, { on := 8, ground := Go.Ground.phase }], guard := none }) (v := ?v15) rfl (by kernel_rfl) (by kernel_rfl) (by kernel_rfl) (fun _ _ _ h => h) (Or.inl ⟨by rfl, ?hy15⟩) hHeld ?rest15
  case hy15 => (intro w hSw; (try dsimp only at hSw); go_simp; (first | done | with_reducible rfl))
  try simp only [Act.put, List.setIfInBounds_toArray, List.set_cons_zero, List.set_cons_succ]
  refine wpAnyH_done (by kernel_rfl) ?_ _
  go_wp2_with (refine loadsV (B := B4) (by rfl) rfl rfl LB4 ?_)
  clear LB4
  refine (cp _ E).mono ?_
  rintro e w44 ⟨p, rfl, hq, x⟩
  have BP := hq.now
  have Fp := BP.is.flat
  clear hq
  have z16 := x.size
  replace E := E.trans x
  replace LB5 := LB5.ext x
  replace LB6 := LB6.ext x
  replace RB6 := RB6.ext x
  clear x
  have TB11 : True := trivial
  have TG18 : True := trivial
  go_wp2_with (first | (clear TB11; refine allocsB rfl rfl ?_; intro B11 w11 bB11 cB11 XB11 LB11 RB11; have z17 := XB11.size; replace E := E.trans XB11; replace LB5 := LB5.ext XB11; replace LB6 := LB6.ext XB11; replace RB6 := RB6.ext XB11; replace BP := BP.ext XB11) | (clear TG18; have hRl := (RB11).lt (Nat.zero_lt_succ _); refine storesB (B := B11) rfl rfl rfl (v := p) rfl RB11 Fp ?_; clear LB11; intro s18 G18 LB11 RQ; have z19 := G18.size; replace E := grown_ext E G18 (by omega); replace LB5 := LB5.grown G18 (by omega); replace LB6 := LB6.grown G18 (by omega); replace RB6 := RB6.grown G18 (by omega); replace BP := BP.grown G18 (by dsimp only [New]; omega); clear RB11; have RB11 := RQ; clear RQ hRl; clear RB11) | (refine loadsV (B := B5) (by rfl) rfl rfl LB5 ?_))
  clear LB5
  refine (cq _ E).mono ?_
  rintro e w49 ⟨q, rfl, hq, x⟩
  have BQ := hq.now
  have Fq := BQ.is.flat
  clear hq
  have z20 := x.size
  replace E := E.trans x
  replace LB6 := LB6.ext x
  replace RB6 := RB6.ext x
  replace BP := BP.ext x
  replace LB11 := LB11.ext x
  clear x
  have TB12 : True := trivial
  have TG22 : True := trivial
  go_wp2_with (first | (clear TB12; refine allocsB rfl rfl ?_; intro B12 w12 bB12 cB12 XB12 LB12 RB12; have z21 := XB12.size; replace E := E.trans XB12; replace LB6 := LB6.ext XB12; replace RB6 := RB6.ext XB12; replace BP := BP.ext XB12; replace LB11 := LB11.ext XB12; replace BQ := BQ.ext XB12) | (clear TG22; have hRl := (RB12).lt (Nat.zero_lt_succ _); refine storesB (B := B12) rfl rfl rfl (v := q) rfl RB12 Fq ?_; clear LB12; intro s22 G22 LB12 RQ; have z23 := G22.size; replace E := grown_ext E G22 (by omega); replace LB6 := LB6.grown G22 (by omega); replace RB6 := RB6.grown G22 (by omega); replace BP := BP.grown G22 (by dsimp only [New]; omega); replace LB11 := LB11.grown G22 (by omega); replace BQ := BQ.grown G22 (by dsimp only [New]; omega); clear RB12; have RB12 := RQ; clear RQ hRl; clear RB12) | (refine loadsB (B := B11) (by rfl) rfl rfl LB11 ?_))
  refine (LP p _ BP.is).mono ?_
  rintro e w60 ⟨rfl, x⟩
  have z24 := x.size
  replace E := E.trans x
  replace LB6 := LB6.ext x
  replace RB6 := RB6.ext x
  replace BP := BP.ext x
  replace LB11 := LB11.ext x
  replace BQ := BQ.ext x
  replace LB12 := LB12.ext x
  clear x
  go_wp2_with (refine loadsB (B := B12) (by rfl) rfl rfl LB12 ?_)
  refine (LQ' q _ BQ.is).mono ?_
  rintro e w68 ⟨rfl, x⟩
  have z25 := x.size
  replace E := E.trans x
  replace LB6 := LB6.ext x
  replace RB6 := RB6.ext x
  replace BP := BP.ext x
  replace LB11 := LB11.ext x
  replace BQ := BQ.ext x
  replace LB12 := LB12.ext x
  clear x
  go_wp2_with (first | (refine loadsB (B := B11) (by rfl) rfl rfl LB11 ?_) | (refine loadsB (B := B12) (by rfl) rfl rfl LB12 ?_))
  clear LB11 LB12
  refine (cv p q _ BP.is BQ.is).mono ?_
  rintro e w79 ⟨r, rfl, hq, x⟩
  clear BP BQ
  have BR := hq.bs.now
  have Fr := BR.is.flat
  clear hq
  have z26 := x.size
  replace E := E.trans x
  replace LB6 := LB6.ext x
  replace RB6 := RB6.ext x
  clear x
  have TB14 : True := trivial
  have TG28 : True := trivial
  go_wp2_with (first | (clear TB14; refine allocsB rfl rfl ?_; intro B14 w14 bB14 cB14 XB14 LB14 RB14; have z27 := XB14.size; replace E := E.trans XB14; replace LB6 := LB6.ext XB14; replace RB6 := RB6.ext XB14; replace BR := BR.ext XB14) | (clear TG28; have hRl := (RB14).lt (Nat.zero_lt_succ _); refine storesB (B := B14) rfl rfl rfl (v := r) rfl RB14 Fr ?_; clear LB14; intro s28 G28 LB14 RQ; have z29 := G28.size; replace E := grown_ext E G28 (by omega); replace LB6 := LB6.grown G28 (by omega); replace RB6 := RB6.grown G28 (by omega); replace BR := BR.grown G28 (by dsimp only [New]; omega); clear RB14; have RB14 := RQ; clear RQ hRl; clear RB14) | (refine loadsB (B := B14) (by rfl) rfl rfl LB14 ?_))
  clear LB14
  refine (VecS.bits_of r R _ BR.is).mono ?_
  rintro e w83 ⟨o, rfl, hq, x⟩
  have VO := hq _ BR
  have Fo := VO.is.flat
  clear hq
  have z30 := x.size
  replace E := E.trans x
  replace LB6 := LB6.ext x
  replace RB6 := RB6.ext x
  clear x
  have TG31 : True := trivial
  go_wp2_with (clear TG31; have hRl := (RB6).lt (Nat.zero_lt_succ _); refine storesV (B := B6) rfl rfl rfl (v := o) rfl RB6 Fo ?_; clear LB6; intro s31 G31 LB6 RQ; have z32 := G31.size; replace E := grown_ext E G31 (by omega); replace VO := VO.grown G31 (by dsimp only [New]; omega); clear RB6; have RB6 := RQ; clear RQ hRl; clear RB6)
  refine bodyPost_ret (results_lay2 rfl rfl rfl (ldV LB6)) rfl ?_
  exact ⟨o, rfl, VO.mono (fun i hi h => by dsimp only [New] at *; omega), E⟩
theorem apply_tf (hf : okL f = true) (m n : Int) (N : Nat) (hl : lenOk m n = true) (hN : lenV m n = (N : Int)) (h0 : 0 < N) (hN2 : N ≤ 1048576) (ca : ∀ w', Ext w w' → Calls Tryd.prog 20 #[v] w' fun e w2 => e = .returned (.int .i64 m) ∧ Ext w' w2) (cb : ∀ w', Ext w w' → Calls Tryd.prog 20 #[u] w' fun e w2 => e = .returned (.int .i64 n) ∧ Ext w' w2) (x y : List Bool) (hx : x.length ≠ N) (hy : y.length = N) (cp : ∀ w', Ext w w' → Calls Tryd.prog 22 #[v] w' fun e w2 => ∃ p, e = .returned (.tuple #[p, .bool true]) ∧ BitS w2 p x (fun i => i < w.heap.size ∨ New w'.heap.size i) ∧ Ext w' w2) (cq : ∀ w', Ext w w' → Calls Tryd.prog 22 #[u] w' fun e w2 => ∃ p, e = .returned (.tuple #[p, .bool true]) ∧ BitS w2 p y (fun i => i < w.heap.size ∨ New w'.heap.size i) ∧ Ext w' w2) (hF : Flat 8 v) (hG : Flat 8 u) :
    Calls Tryd.prog 6 #[.int .i64 f, v, u] w fun e w' => ∃ p, e = .returned (.tuple #[p, .int .i64 0]) ∧ VecS w' p (VD.bits (ttL (tblN f) (sprL x N) (sprL y N))) (New w.heap.size) ∧ Ext w w' := by
  have E := Ext.refl w
  have ct : ∀ w', Calls Tryd.prog 18 #[.int .i64 f] w' fun e w2 => e = .returned (.tuple #[.int .u8 (tblN f : Int), .bool true]) ∧ Ext w' w2 := fun w' => (table_any f w').mono fun e w2 h => ⟨by rw [h.1, hf], h.2 ▸ Ext.refl _⟩
  have cl : ∀ w', Calls Tryd.prog 19 #[.int .i64 m, .int .i64 n] w' fun e w2 => e = .returned (.tuple #[.int .i64 (lenV m n), .bool true]) ∧ Ext w' w2 := fun w' => (length_any m n w').mono fun e w2 h => ⟨by rw [h.1, hl], h.2 ▸ Ext.refl _⟩
  have e36 : ((N : Int) == 0) = false := by simp; omega
  have ep : ((x.length : Int) != (N : Int)) = true := by simp; omega
  have eq : ((y.length : Int) != (N : Int)) = false := by simp; omega
  rw [hN] at cl
  have cx : List.replicate N (bget x 0) = sprL x N := by unfold sprL; rw [if_neg hx]; rfl
  have cy : y = sprL y N := by unfold sprL; rw [if_pos hy]
  have hlen : (sprL x N).length = (sprL y N).length := by rw [sprL_length, sprL_length]
  have cv := fun p q w hp hq => truth_yes (tblN f) (tblN_lt f) p q (sprL x N) (sprL y N) w hp hq hlen
  have mp : ∀ w', Calls Tryd.prog 17 #[.int .i64 (N : Int), .bool (bget x 0)] w' (fun e w2 => ∃ v, e = .returned v ∧ OwnB w2 w'.heap.size v (sprL x N) ∧ Ext w' w2) := fun w' => by have := make_bool N (bget x 0) hN2 w'; rw [← cx]; exact this
  have LP := fun p w h => blen_any p x w h
  have LQ' := fun q w h => blen_any q y w h
  have AP := fun p w h => at_any p x 0 w h
  have AQ := fun q w h => at_any q y 0 w h
  have cy : sprL y N = y := cy.symm
  rw [cy] at cv
  have hQ : ttL (tblN f) (sprL x N) y = ttL (tblN f) (sprL x N) (sprL y N) := by rw [cy]
  rw [← hQ]
  clear hQ hf hl hN hx hy hlen
  generalize ttL (tblN f) (sprL x N) y = R at *
  generalize (tblN f : Int) = t at *
  generalize (x.length : Int) = mx at *
  generalize (y.length : Int) = my at *
  generalize bget x 0 = gx at *
  generalize bget y 0 = gy at *
  generalize (N : Int) = M at *
  clear cx
  generalize sprL x N = sx at *
  clear cy
  go_enter Tryd.func6, Tryd.ntmps6
  have TB4 : True := trivial
  have TB5 : True := trivial
  have TB6 : True := trivial
  go_wp2_with (first | (clear TB4; refine boxsV (v := v) rfl rfl rfl hF ?_; intro B4 w4 bB4 cB4 XB4 LB4 RB4; have z1 := XB4.size; replace E := E.trans XB4; clear RB4) | (clear TB5; refine boxsV (v := u) rfl rfl rfl hG ?_; intro B5 w5 bB5 cB5 XB5 LB5 RB5; have z2 := XB5.size; replace E := E.trans XB5; replace LB4 := LB4.ext XB5; clear RB5) | (clear TB6; refine allocsV rfl rfl ?_; intro B6 w6 bB6 cB6 XB6 LB6 RB6; have z3 := XB6.size; replace E := E.trans XB6; replace LB4 := LB4.ext XB6; replace LB5 := LB5.ext XB6))
  refine (ct _).mono ?_
  rintro e w18 ⟨rfl, x⟩
  have z4 := x.size
  replace E := E.trans x
  replace LB4 := LB4.ext x
  replace LB5 := LB5.ext x
  replace LB6 := LB6.ext x
  replace RB6 := RB6.ext x
  clear x
  go_wp2_with fail
  try simp only [Act.put, List.setIfInBounds_toArray, List.set_cons_zero, List.set_cons_succ]
  have DLB4 := LB4
  have DLB5 := LB5
  refine wp_region_held_drew (S := (fun w' => Ext w18 w')) (by kernel_rfl) ((Ext.refl w18).drew) (fun hHeld => ?_)
  have hq0 : w18.heap.size ≤ w18.drew.heap.size := Nat.le_refl _
  have z5 := (Ext.refl w18).drew.size
  replace E := E.trans (Ext.refl w18).drew
  replace LB4 := LB4.ext (Ext.refl w18).drew
  replace LB5 := LB5.ext (Ext.refl w18).drew
  replace LB6 := LB6.ext (Ext.refl w18).drew
  replace RB6 := RB6.ext (Ext.refl w18).drew
  refine wpAnyH_take (i := 0) (oi := { dst := some 25, op := Go.Op.load 34 (Go.Operand.tmp 4), type := 34, pos := "logic.go:66", after := #[], guard := none }) (v := v) rfl (by kernel_rfl) (by kernel_rfl) (by kernel_rfl) (fun _ _ _ h => h) (yieldV (by rfl) rfl rfl fun w' hx => DLB4.ext hx) hHeld ?_
  try simp only [Act.put, List.setIfInBounds_toArray, List.set_cons_zero, List.set_cons_succ]
  refine wpAnyH_take (i := 2) (oi := { dst := some 27, op := Go.Op.load 34 (Go.Operand.tmp 5), type := 34, pos := "logic.go:66", after := #[], guard := none }) (v := u) rfl (by kernel_rfl) (by kernel_rfl) (by kernel_rfl) (fun _ _ _ h => h) (yieldV (by rfl) rfl rfl fun w' hx => DLB5.ext hx) hHeld ?_
  try simp only [Act.put, List.setIfInBounds_toArray, List.set_cons_zero, List.set_cons_succ]
  refine wpAnyH_ready (rs := [1]) (by kernel_rfl) (by simp) ?_
  refine AllReadyH.cons (o := { dst := some 26, op := Go.Op.call { callee := Go.Callee.value (Go.Operand.func 20), args := #[Go.Operand.tmp 25], argTypes := #[34] }, type := 3, pos := "logic.go:66", after := #[{ on := 0, ground := Go.Ground.data }], guard := none }) rfl (fun K hK => ?_) (AllReadyH.nil)
  go_simp
  refine (ca _ E).mono ?_
  rintro e w26 ⟨rfl, x⟩
  have z8 := x.size
  replace E := E.trans x
  replace LB4 := LB4.ext x
  replace LB5 := LB5.ext x
  replace LB6 := LB6.ext x
  replace RB6 := RB6.ext x
  replace hHeld := Ext.trans hHeld x
  clear x
  refine hK.out _ _ hHeld (fun _ => ?_)
  clear hK K
  try simp only [Act.put, List.setIfInBounds_toArray, List.set_cons_zero, List.set_cons_succ]
  refine wpAnyH_ready (rs := [3]) (by kernel_rfl) (by simp) ?_
  refine AllReadyH.cons (o := { dst := some 28, op := Go.Op.call { callee := Go.Callee.value (Go.Operand.func 20), args := #[Go.Operand.tmp 27], argTypes := #[34] }, type := 3, pos := "logic.go:66", after := #[{ on := 2, ground := Go.Ground.data }, { on := 1, ground := Go.Ground.chain }], guard := none }) rfl (fun K hK => ?_) (AllReadyH.nil)
  go_simp
  refine (cb _ E).mono ?_
  rintro e w28 ⟨rfl, x⟩
  have z9 := x.size
  replace E := E.trans x
  replace LB4 := LB4.ext x
  replace LB5 := LB5.ext x
  replace LB6 := LB6.ext x
  replace RB6 := RB6.ext x
  replace hHeld := Ext.trans hHeld x
  clear x
  refine hK.out _ _ hHeld (fun _ => ?_)
  clear hK K
  try simp only [Act.put, List.setIfInBounds_toArray, List.set_cons_zero, List.set_cons_succ]
  refine wpAnyH_ready (rs := [4]) (by kernel_rfl) (by simp) ?_
  refine AllReadyH.cons (o := { dst := some 29, op := Go.Op.call { callee := Go.Callee.value (Go.Operand.func 19), args := #[Go.Operand.tmp 26, Go.Operand.tmp 28], argTypes := #[3, 3] }, type := 55, pos := "logic.go:66", after := #[{ on := 1, ground := Go.Ground.data }, { on := 3, ground := Go.Ground.data }, { on := 3, ground := Go.Ground.chain }], guard := none }) rfl (fun K hK => ?_) (AllReadyH.nil)
  go_simp
  refine (cl _).mono ?_
  rintro e w29 ⟨rfl, x⟩
  have z10 := x.size
  replace E := E.trans x
  replace LB4 := LB4.ext x
  replace LB5 := LB5.ext x
  replace LB6 := LB6.ext x
  replace RB6 := RB6.ext x
  replace hHeld := Ext.trans hHeld x
  clear x
  refine hK.out _ _ hHeld (fun _ => ?_)
  clear hK K
  try simp only [Act.put, List.setIfInBounds_toArray, List.set_cons_zero, List.set_cons_succ]
  refine wpAnyH_take (i := 5) (oi := { dst := some 24, op := Go.Op.move (Go.Operand.tmp 29), type := 55, pos := "logic.go:66", after := #[{ on := 4, ground := Go.Ground.data }], guard := none }) (v := ?v11) rfl (by kernel_rfl) (by kernel_rfl) (by kernel_rfl) (fun _ _ _ h => h) (Or.inl ⟨by rfl, ?hy11⟩) hHeld ?rest11
  case hy11 => (intro w hSw; (try dsimp only at hSw); go_simp; (first | done | with_reducible rfl))
  try simp only [Act.put, List.setIfInBounds_toArray, List.set_cons_zero, List.set_cons_succ]
  refine wpAnyH_take (i := 6) (oi := { dst := some 30, op := Go.Op.extract (Go.Operand.tmp 24) 0, type := 3, pos := "logic.go:66", after := #[{ on := 5, ground := Go.Ground.data }], guard := none }) (v := ?v12) rfl (by kernel_rfl) (by kernel_rfl) (by kernel_rfl) (fun _ _ _ h => h) (Or.inl ⟨by rfl, ?hy12⟩) hHeld ?rest12
  case hy12 => (intro w hSw; (try dsimp only at hSw); go_simp; (first | done | with_reducible rfl))
  try simp only [Act.put, List.setIfInBounds_toArray, List.set_cons_zero, List.set_cons_succ]
  refine wpAnyH_take (i := 7) (oi := { dst := some 31, op := Go.Op.extract (Go.Operand.tmp 24) 1, type := 4, pos := "logic.go:66", after := #[{ on := 5, ground := Go.Ground.data }, { on := 8, ground := Go.Ground.gcOnly Go.Departure.lateStores }], guard := none }) (v := ?v13) rfl (by kernel_rfl) (by kernel_rfl) (by kernel_rfl) (fun _ _ _ h => h) (Or.inl ⟨by rfl, ?hy13⟩) hHeld ?rest13
  case hy13 => (intro w hSw; (try dsimp only at hSw); go_simp; (first | done | with_reducible rfl))
  try simp only [Act.put, List.setIfInBounds_toArray, List.set_cons_zero, List.set_cons_succ]
  refine wpAnyH_take (i := 8) (oi := { dst := some 10, op := Go.Op.assign (Go.Operand.tmp 30), type := 3, pos := "logic.go:66", after := #[{ on := 6, ground := Go.Ground.data }, { on := 4, ground := Go.Ground.chain }, { on := 0, ground := Go.Ground.phase }, { on := 1, ground := Go.Ground.phase }, { on := 2, ground := Go.Ground.phase }, { on := 3, ground := Go.Ground.phase }, { on := 4, ground := Go.Ground.phase }, { on := 5, ground := Go.Ground.phase }, { on := 6, ground := Go.Ground.phase }, { on := 7, ground := Go.Ground.textOnly Go.Departure.lateStores }], guard := none }) (v := ?v14) rfl (by kernel_rfl) (by kernel_rfl) (by kernel_rfl) (fun _ _ _ h => h) (Or.inl ⟨by rfl, ?hy14⟩) hHeld ?rest14
  case hy14 => (intro w hSw; (try dsimp only at hSw); go_simp; (first | done | with_reducible rfl))
  try simp only [Act.put, List.setIfInBounds_toArray, List.set_cons_zero, List.set_cons_succ]
  refine wpAnyH_take (i := 9) (oi := { dst := some 9, op := Go.Op.assign (Go.Operand.tmp 31), type := 4, pos := "logic.go:66", after := #[{ on := 7, ground := Go.Ground.data }, { on := 8, ground := Go.Ground.chain }, { on := 0, ground := Go.Ground.phase }, { on := 1, ground := Go.Ground.phase }, { on := 2, ground := Go.Ground.phase }, { on := 3, ground := Go.Ground.phase }, { on := 4, ground := Go.Ground.phase }, { on := 5, ground := Go.Ground.phase }, { on := 6, ground := Go.Ground.phase }, { on := 7, ground := Go.Ground.phase }, { on := 8, ground := Go.Ground.phase }], guard := none }) (v := ?v15) rfl (by kernel_rfl) (by kernel_rfl) (by kernel_rfl) (fun _ _ _ h => h) (Or.inl ⟨by rfl, ?hy15⟩) hHeld ?rest15
  case hy15 => (intro w hSw; (try dsimp only at hSw); go_simp; (first | done | with_reducible rfl))
  try simp only [Act.put, List.setIfInBounds_toArray, List.set_cons_zero, List.set_cons_succ]
  refine wpAnyH_done (by kernel_rfl) ?_ _
  go_wp2_with (refine loadsV (B := B4) (by rfl) rfl rfl LB4 ?_)
  clear LB4
  refine (cp _ E).mono ?_
  rintro e w44 ⟨p, rfl, hq, x⟩
  have BP := hq.now
  have Fp := BP.is.flat
  clear hq
  have z16 := x.size
  replace E := E.trans x
  replace LB5 := LB5.ext x
  replace LB6 := LB6.ext x
  replace RB6 := RB6.ext x
  clear x
  have TB11 : True := trivial
  have TG18 : True := trivial
  go_wp2_with (first | (clear TB11; refine allocsB rfl rfl ?_; intro B11 w11 bB11 cB11 XB11 LB11 RB11; have z17 := XB11.size; replace E := E.trans XB11; replace LB5 := LB5.ext XB11; replace LB6 := LB6.ext XB11; replace RB6 := RB6.ext XB11; replace BP := BP.ext XB11) | (clear TG18; have hRl := (RB11).lt (Nat.zero_lt_succ _); refine storesB (B := B11) rfl rfl rfl (v := p) rfl RB11 Fp ?_; clear LB11; intro s18 G18 LB11 RQ; have z19 := G18.size; replace E := grown_ext E G18 (by omega); replace LB5 := LB5.grown G18 (by omega); replace LB6 := LB6.grown G18 (by omega); replace RB6 := RB6.grown G18 (by omega); replace BP := BP.grown G18 (by dsimp only [New]; omega); clear RB11; have RB11 := RQ; clear RQ hRl) | (refine loadsV (B := B5) (by rfl) rfl rfl LB5 ?_))
  clear LB5
  refine (cq _ E).mono ?_
  rintro e w49 ⟨q, rfl, hq, x⟩
  have BQ := hq.now
  have Fq := BQ.is.flat
  clear hq
  have z20 := x.size
  replace E := E.trans x
  replace LB6 := LB6.ext x
  replace RB6 := RB6.ext x
  replace BP := BP.ext x
  replace LB11 := LB11.ext x
  replace RB11 := RB11.ext x
  clear x
  have TB12 : True := trivial
  have TG22 : True := trivial
  go_wp2_with (first | (clear TB12; refine allocsB rfl rfl ?_; intro B12 w12 bB12 cB12 XB12 LB12 RB12; have z21 := XB12.size; replace E := E.trans XB12; replace LB6 := LB6.ext XB12; replace RB6 := RB6.ext XB12; replace BP := BP.ext XB12; replace LB11 := LB11.ext XB12; replace RB11 := RB11.ext XB12; replace BQ := BQ.ext XB12) | (clear TG22; have hRl := (RB12).lt (Nat.zero_lt_succ _); refine storesB (B := B12) rfl rfl rfl (v := q) rfl RB12 Fq ?_; clear LB12; intro s22 G22 LB12 RQ; have z23 := G22.size; replace E := grown_ext E G22 (by omega); replace LB6 := LB6.grown G22 (by omega); replace RB6 := RB6.grown G22 (by omega); replace BP := BP.grown G22 (by dsimp only [New]; omega); replace LB11 := LB11.grown G22 (by omega); replace RB11 := RB11.grown G22 (by omega); replace BQ := BQ.grown G22 (by dsimp only [New]; omega); clear RB12; have RB12 := RQ; clear RQ hRl; clear RB12) | (refine loadsB (B := B11) (by rfl) rfl rfl LB11 ?_))
  refine (LP p _ BP.is).mono ?_
  rintro e w60 ⟨rfl, x⟩
  have z24 := x.size
  replace E := E.trans x
  replace LB6 := LB6.ext x
  replace RB6 := RB6.ext x
  replace BP := BP.ext x
  replace LB11 := LB11.ext x
  replace RB11 := RB11.ext x
  replace BQ := BQ.ext x
  replace LB12 := LB12.ext x
  clear x
  go_wp2_with (refine loadsB (B := B11) (by rfl) rfl rfl LB11 ?_)
  refine (AP p _ BP.is).mono ?_
  rintro e w65 ⟨rfl, x⟩
  have z25 := x.size
  replace E := E.trans x
  replace LB6 := LB6.ext x
  replace RB6 := RB6.ext x
  replace BP := BP.ext x
  replace LB11 := LB11.ext x
  replace RB11 := RB11.ext x
  replace BQ := BQ.ext x
  replace LB12 := LB12.ext x
  clear x
  go_wp2_with fail
  clear BP
  refine (mp _).mono ?_
  rintro e w66 ⟨p2, rfl, hq, x⟩
  have BP2 := hq.bs.now
  have Fp2 := BP2.is.flat
  clear hq
  have z26 := x.size
  replace E := E.trans x
  replace LB6 := LB6.ext x
  replace RB6 := RB6.ext x
  replace LB11 := LB11.ext x
  replace RB11 := RB11.ext x
  replace BQ := BQ.ext x
  replace LB12 := LB12.ext x
  clear x
  have TG27 : True := trivial
  go_wp2_with (first | (clear TG27; have hRl := (RB11).lt (Nat.zero_lt_succ _); refine storesB (B := B11) rfl rfl rfl (v := p2) rfl RB11 Fp2 ?_; clear LB11; intro s27 G27 LB11 RQ; have z28 := G27.size; replace E := grown_ext E G27 (by omega); replace LB6 := LB6.grown G27 (by omega); replace RB6 := RB6.grown G27 (by omega); replace BQ := BQ.grown G27 (by dsimp only [New]; omega); replace LB12 := LB12.grown G27 (by omega); replace BP2 := BP2.grown G27 (by dsimp only [New]; omega); clear RB11; have RB11 := RQ; clear RQ hRl; clear RB11) | (refine loadsB (B := B12) (by rfl) rfl rfl LB12 ?_))
  refine (LQ' q _ BQ.is).mono ?_
  rintro e w68 ⟨rfl, x⟩
  have z29 := x.size
  replace E := E.trans x
  replace LB6 := LB6.ext x
  replace RB6 := RB6.ext x
  replace LB11 := LB11.ext x
  replace BQ := BQ.ext x
  replace LB12 := LB12.ext x
  replace BP2 := BP2.ext x
  clear x
  go_wp2_with (first | (refine loadsB (B := B11) (by rfl) rfl rfl LB11 ?_) | (refine loadsB (B := B12) (by rfl) rfl rfl LB12 ?_))
  clear LB11 LB12
  refine (cv p2 q _ BP2.is BQ.is).mono ?_
  rintro e w79 ⟨r, rfl, hq, x⟩
  clear BP2 BQ
  have BR := hq.bs.now
  have Fr := BR.is.flat
  clear hq
  have z30 := x.size
  replace E := E.trans x
  replace LB6 := LB6.ext x
  replace RB6 := RB6.ext x
  clear x
  have TB14 : True := trivial
  have TG32 : True := trivial
  go_wp2_with (first | (clear TB14; refine allocsB rfl rfl ?_; intro B14 w14 bB14 cB14 XB14 LB14 RB14; have z31 := XB14.size; replace E := E.trans XB14; replace LB6 := LB6.ext XB14; replace RB6 := RB6.ext XB14; replace BR := BR.ext XB14) | (clear TG32; have hRl := (RB14).lt (Nat.zero_lt_succ _); refine storesB (B := B14) rfl rfl rfl (v := r) rfl RB14 Fr ?_; clear LB14; intro s32 G32 LB14 RQ; have z33 := G32.size; replace E := grown_ext E G32 (by omega); replace LB6 := LB6.grown G32 (by omega); replace RB6 := RB6.grown G32 (by omega); replace BR := BR.grown G32 (by dsimp only [New]; omega); clear RB14; have RB14 := RQ; clear RQ hRl; clear RB14) | (refine loadsB (B := B14) (by rfl) rfl rfl LB14 ?_))
  clear LB14
  refine (VecS.bits_of r R _ BR.is).mono ?_
  rintro e w83 ⟨o, rfl, hq, x⟩
  have VO := hq _ BR
  have Fo := VO.is.flat
  clear hq
  have z34 := x.size
  replace E := E.trans x
  replace LB6 := LB6.ext x
  replace RB6 := RB6.ext x
  clear x
  have TG35 : True := trivial
  go_wp2_with (clear TG35; have hRl := (RB6).lt (Nat.zero_lt_succ _); refine storesV (B := B6) rfl rfl rfl (v := o) rfl RB6 Fo ?_; clear LB6; intro s35 G35 LB6 RQ; have z36 := G35.size; replace E := grown_ext E G35 (by omega); replace VO := VO.grown G35 (by dsimp only [New]; omega); clear RB6; have RB6 := RQ; clear RQ hRl; clear RB6)
  refine bodyPost_ret (results_lay2 rfl rfl rfl (ldV LB6)) rfl ?_
  exact ⟨o, rfl, VO.mono (fun i hi h => by dsimp only [New] at *; omega), E⟩
theorem apply_ft (hf : okL f = true) (m n : Int) (N : Nat) (hl : lenOk m n = true) (hN : lenV m n = (N : Int)) (h0 : 0 < N) (hN2 : N ≤ 1048576) (ca : ∀ w', Ext w w' → Calls Tryd.prog 20 #[v] w' fun e w2 => e = .returned (.int .i64 m) ∧ Ext w' w2) (cb : ∀ w', Ext w w' → Calls Tryd.prog 20 #[u] w' fun e w2 => e = .returned (.int .i64 n) ∧ Ext w' w2) (x y : List Bool) (hx : x.length = N) (hy : y.length ≠ N) (cp : ∀ w', Ext w w' → Calls Tryd.prog 22 #[v] w' fun e w2 => ∃ p, e = .returned (.tuple #[p, .bool true]) ∧ BitS w2 p x (fun i => i < w.heap.size ∨ New w'.heap.size i) ∧ Ext w' w2) (cq : ∀ w', Ext w w' → Calls Tryd.prog 22 #[u] w' fun e w2 => ∃ p, e = .returned (.tuple #[p, .bool true]) ∧ BitS w2 p y (fun i => i < w.heap.size ∨ New w'.heap.size i) ∧ Ext w' w2) (hF : Flat 8 v) (hG : Flat 8 u) :
    Calls Tryd.prog 6 #[.int .i64 f, v, u] w fun e w' => ∃ p, e = .returned (.tuple #[p, .int .i64 0]) ∧ VecS w' p (VD.bits (ttL (tblN f) (sprL x N) (sprL y N))) (New w.heap.size) ∧ Ext w w' := by
  have E := Ext.refl w
  have ct : ∀ w', Calls Tryd.prog 18 #[.int .i64 f] w' fun e w2 => e = .returned (.tuple #[.int .u8 (tblN f : Int), .bool true]) ∧ Ext w' w2 := fun w' => (table_any f w').mono fun e w2 h => ⟨by rw [h.1, hf], h.2 ▸ Ext.refl _⟩
  have cl : ∀ w', Calls Tryd.prog 19 #[.int .i64 m, .int .i64 n] w' fun e w2 => e = .returned (.tuple #[.int .i64 (lenV m n), .bool true]) ∧ Ext w' w2 := fun w' => (length_any m n w').mono fun e w2 h => ⟨by rw [h.1, hl], h.2 ▸ Ext.refl _⟩
  have e36 : ((N : Int) == 0) = false := by simp; omega
  have ep : ((x.length : Int) != (N : Int)) = false := by simp; omega
  have eq : ((y.length : Int) != (N : Int)) = true := by simp; omega
  rw [hN] at cl
  have cx : x = sprL x N := by unfold sprL; rw [if_pos hx]
  have cy : List.replicate N (bget y 0) = sprL y N := by unfold sprL; rw [if_neg hy]; rfl
  have hlen : (sprL x N).length = (sprL y N).length := by rw [sprL_length, sprL_length]
  have cv := fun p q w hp hq => truth_yes (tblN f) (tblN_lt f) p q (sprL x N) (sprL y N) w hp hq hlen
  have mq : ∀ w', Calls Tryd.prog 17 #[.int .i64 (N : Int), .bool (bget y 0)] w' (fun e w2 => ∃ v, e = .returned v ∧ OwnB w2 w'.heap.size v (sprL y N) ∧ Ext w' w2) := fun w' => by have := make_bool N (bget y 0) hN2 w'; rw [← cy]; exact this
  have LP := fun p w h => blen_any p x w h
  have LQ' := fun q w h => blen_any q y w h
  have AP := fun p w h => at_any p x 0 w h
  have AQ := fun q w h => at_any q y 0 w h
  have cx : sprL x N = x := cx.symm
  rw [cx] at cv
  have hQ : ttL (tblN f) x (sprL y N) = ttL (tblN f) (sprL x N) (sprL y N) := by rw [cx]
  rw [← hQ]
  clear hQ hf hl hN hx hy hlen
  generalize ttL (tblN f) x (sprL y N) = R at *
  generalize (tblN f : Int) = t at *
  generalize (x.length : Int) = mx at *
  generalize (y.length : Int) = my at *
  generalize bget x 0 = gx at *
  generalize bget y 0 = gy at *
  generalize (N : Int) = M at *
  clear cx
  clear cy
  generalize sprL y N = sy at *
  go_enter Tryd.func6, Tryd.ntmps6
  have TB4 : True := trivial
  have TB5 : True := trivial
  have TB6 : True := trivial
  go_wp2_with (first | (clear TB4; refine boxsV (v := v) rfl rfl rfl hF ?_; intro B4 w4 bB4 cB4 XB4 LB4 RB4; have z1 := XB4.size; replace E := E.trans XB4; clear RB4) | (clear TB5; refine boxsV (v := u) rfl rfl rfl hG ?_; intro B5 w5 bB5 cB5 XB5 LB5 RB5; have z2 := XB5.size; replace E := E.trans XB5; replace LB4 := LB4.ext XB5; clear RB5) | (clear TB6; refine allocsV rfl rfl ?_; intro B6 w6 bB6 cB6 XB6 LB6 RB6; have z3 := XB6.size; replace E := E.trans XB6; replace LB4 := LB4.ext XB6; replace LB5 := LB5.ext XB6))
  refine (ct _).mono ?_
  rintro e w18 ⟨rfl, x⟩
  have z4 := x.size
  replace E := E.trans x
  replace LB4 := LB4.ext x
  replace LB5 := LB5.ext x
  replace LB6 := LB6.ext x
  replace RB6 := RB6.ext x
  clear x
  go_wp2_with fail
  try simp only [Act.put, List.setIfInBounds_toArray, List.set_cons_zero, List.set_cons_succ]
  have DLB4 := LB4
  have DLB5 := LB5
  refine wp_region_held_drew (S := (fun w' => Ext w18 w')) (by kernel_rfl) ((Ext.refl w18).drew) (fun hHeld => ?_)
  have hq0 : w18.heap.size ≤ w18.drew.heap.size := Nat.le_refl _
  have z5 := (Ext.refl w18).drew.size
  replace E := E.trans (Ext.refl w18).drew
  replace LB4 := LB4.ext (Ext.refl w18).drew
  replace LB5 := LB5.ext (Ext.refl w18).drew
  replace LB6 := LB6.ext (Ext.refl w18).drew
  replace RB6 := RB6.ext (Ext.refl w18).drew
  refine wpAnyH_take (i := 0) (oi := { dst := some 25, op := Go.Op.load 34 (Go.Operand.tmp 4), type := 34, pos := "logic.go:66", after := #[], guard := none }) (v := v) rfl (by kernel_rfl) (by kernel_rfl) (by kernel_rfl) (fun _ _ _ h => h) (yieldV (by rfl) rfl rfl fun w' hx => DLB4.ext hx) hHeld ?_
  try simp only [Act.put, List.setIfInBounds_toArray, List.set_cons_zero, List.set_cons_succ]
  refine wpAnyH_take (i := 2) (oi := { dst := some 27, op := Go.Op.load 34 (Go.Operand.tmp 5), type := 34, pos := "logic.go:66", after := #[], guard := none }) (v := u) rfl (by kernel_rfl) (by kernel_rfl) (by kernel_rfl) (fun _ _ _ h => h) (yieldV (by rfl) rfl rfl fun w' hx => DLB5.ext hx) hHeld ?_
  try simp only [Act.put, List.setIfInBounds_toArray, List.set_cons_zero, List.set_cons_succ]
  refine wpAnyH_ready (rs := [1]) (by kernel_rfl) (by simp) ?_
  refine AllReadyH.cons (o := { dst := some 26, op := Go.Op.call { callee := Go.Callee.value (Go.Operand.func 20), args := #[Go.Operand.tmp 25], argTypes := #[34] }, type := 3, pos := "logic.go:66", after := #[{ on := 0, ground := Go.Ground.data }], guard := none }) rfl (fun K hK => ?_) (AllReadyH.nil)
  go_simp
  refine (ca _ E).mono ?_
  rintro e w26 ⟨rfl, x⟩
  have z8 := x.size
  replace E := E.trans x
  replace LB4 := LB4.ext x
  replace LB5 := LB5.ext x
  replace LB6 := LB6.ext x
  replace RB6 := RB6.ext x
  replace hHeld := Ext.trans hHeld x
  clear x
  refine hK.out _ _ hHeld (fun _ => ?_)
  clear hK K
  try simp only [Act.put, List.setIfInBounds_toArray, List.set_cons_zero, List.set_cons_succ]
  refine wpAnyH_ready (rs := [3]) (by kernel_rfl) (by simp) ?_
  refine AllReadyH.cons (o := { dst := some 28, op := Go.Op.call { callee := Go.Callee.value (Go.Operand.func 20), args := #[Go.Operand.tmp 27], argTypes := #[34] }, type := 3, pos := "logic.go:66", after := #[{ on := 2, ground := Go.Ground.data }, { on := 1, ground := Go.Ground.chain }], guard := none }) rfl (fun K hK => ?_) (AllReadyH.nil)
  go_simp
  refine (cb _ E).mono ?_
  rintro e w28 ⟨rfl, x⟩
  have z9 := x.size
  replace E := E.trans x
  replace LB4 := LB4.ext x
  replace LB5 := LB5.ext x
  replace LB6 := LB6.ext x
  replace RB6 := RB6.ext x
  replace hHeld := Ext.trans hHeld x
  clear x
  refine hK.out _ _ hHeld (fun _ => ?_)
  clear hK K
  try simp only [Act.put, List.setIfInBounds_toArray, List.set_cons_zero, List.set_cons_succ]
  refine wpAnyH_ready (rs := [4]) (by kernel_rfl) (by simp) ?_
  refine AllReadyH.cons (o := { dst := some 29, op := Go.Op.call { callee := Go.Callee.value (Go.Operand.func 19), args := #[Go.Operand.tmp 26, Go.Operand.tmp 28], argTypes := #[3, 3] }, type := 55, pos := "logic.go:66", after := #[{ on := 1, ground := Go.Ground.data }, { on := 3, ground := Go.Ground.data }, { on := 3, ground := Go.Ground.chain }], guard := none }) rfl (fun K hK => ?_) (AllReadyH.nil)
  go_simp
  refine (cl _).mono ?_
  rintro e w29 ⟨rfl, x⟩
  have z10 := x.size
  replace E := E.trans x
  replace LB4 := LB4.ext x
  replace LB5 := LB5.ext x
  replace LB6 := LB6.ext x
  replace RB6 := RB6.ext x
  replace hHeld := Ext.trans hHeld x
  clear x
  refine hK.out _ _ hHeld (fun _ => ?_)
  clear hK K
  try simp only [Act.put, List.setIfInBounds_toArray, List.set_cons_zero, List.set_cons_succ]
  refine wpAnyH_take (i := 5) (oi := { dst := some 24, op := Go.Op.move (Go.Operand.tmp 29), type := 55, pos := "logic.go:66", after := #[{ on := 4, ground := Go.Ground.data }], guard := none }) (v := ?v11) rfl (by kernel_rfl) (by kernel_rfl) (by kernel_rfl) (fun _ _ _ h => h) (Or.inl ⟨by rfl, ?hy11⟩) hHeld ?rest11
  case hy11 => (intro w hSw; (try dsimp only at hSw); go_simp; (first | done | with_reducible rfl))
  try simp only [Act.put, List.setIfInBounds_toArray, List.set_cons_zero, List.set_cons_succ]
  refine wpAnyH_take (i := 6) (oi := { dst := some 30, op := Go.Op.extract (Go.Operand.tmp 24) 0, type := 3, pos := "logic.go:66", after := #[{ on := 5, ground := Go.Ground.data }], guard := none }) (v := ?v12) rfl (by kernel_rfl) (by kernel_rfl) (by kernel_rfl) (fun _ _ _ h => h) (Or.inl ⟨by rfl, ?hy12⟩) hHeld ?rest12
  case hy12 => (intro w hSw; (try dsimp only at hSw); go_simp; (first | done | with_reducible rfl))
  try simp only [Act.put, List.setIfInBounds_toArray, List.set_cons_zero, List.set_cons_succ]
  refine wpAnyH_take (i := 7) (oi := { dst := some 31, op := Go.Op.extract (Go.Operand.tmp 24) 1, type := 4, pos := "logic.go:66", after := #[{ on := 5, ground := Go.Ground.data }, { on := 8, ground := Go.Ground.gcOnly Go.Departure.lateStores }], guard := none }) (v := ?v13) rfl (by kernel_rfl) (by kernel_rfl) (by kernel_rfl) (fun _ _ _ h => h) (Or.inl ⟨by rfl, ?hy13⟩) hHeld ?rest13
  case hy13 => (intro w hSw; (try dsimp only at hSw); go_simp; (first | done | with_reducible rfl))
  try simp only [Act.put, List.setIfInBounds_toArray, List.set_cons_zero, List.set_cons_succ]
  refine wpAnyH_take (i := 8) (oi := { dst := some 10, op := Go.Op.assign (Go.Operand.tmp 30), type := 3, pos := "logic.go:66", after := #[{ on := 6, ground := Go.Ground.data }, { on := 4, ground := Go.Ground.chain }, { on := 0, ground := Go.Ground.phase }, { on := 1, ground := Go.Ground.phase }, { on := 2, ground := Go.Ground.phase }, { on := 3, ground := Go.Ground.phase }, { on := 4, ground := Go.Ground.phase }, { on := 5, ground := Go.Ground.phase }, { on := 6, ground := Go.Ground.phase }, { on := 7, ground := Go.Ground.textOnly Go.Departure.lateStores }], guard := none }) (v := ?v14) rfl (by kernel_rfl) (by kernel_rfl) (by kernel_rfl) (fun _ _ _ h => h) (Or.inl ⟨by rfl, ?hy14⟩) hHeld ?rest14
  case hy14 => (intro w hSw; (try dsimp only at hSw); go_simp; (first | done | with_reducible rfl))
  try simp only [Act.put, List.setIfInBounds_toArray, List.set_cons_zero, List.set_cons_succ]
  refine wpAnyH_take (i := 9) (oi := { dst := some 9, op := Go.Op.assign (Go.Operand.tmp 31), type := 4, pos := "logic.go:66", after := #[{ on := 7, ground := Go.Ground.data }, { on := 8, ground := Go.Ground.chain }, { on := 0, ground := Go.Ground.phase }, { on := 1, ground := Go.Ground.phase }, { on := 2, ground := Go.Ground.phase }, { on := 3, ground := Go.Ground.phase }, { on := 4, ground := Go.Ground.phase }, { on := 5, ground := Go.Ground.phase }, { on := 6, ground := Go.Ground.phase }, { on := 7, ground := Go.Ground.phase }, { on := 8, ground := Go.Ground.phase }], guard := none }) (v := ?v15) rfl (by kernel_rfl) (by kernel_rfl) (by kernel_rfl) (fun _ _ _ h => h) (Or.inl ⟨by rfl, ?hy15⟩) hHeld ?rest15
  case hy15 => (intro w hSw; (try dsimp only at hSw); go_simp; (first | done | with_reducible rfl))
  try simp only [Act.put, List.setIfInBounds_toArray, List.set_cons_zero, List.set_cons_succ]
  refine wpAnyH_done (by kernel_rfl) ?_ _
  go_wp2_with (refine loadsV (B := B4) (by rfl) rfl rfl LB4 ?_)
  clear LB4
  refine (cp _ E).mono ?_
  rintro e w44 ⟨p, rfl, hq, x⟩
  have BP := hq.now
  have Fp := BP.is.flat
  clear hq
  have z16 := x.size
  replace E := E.trans x
  replace LB5 := LB5.ext x
  replace LB6 := LB6.ext x
  replace RB6 := RB6.ext x
  clear x
  have TB11 : True := trivial
  have TG18 : True := trivial
  go_wp2_with (first | (clear TB11; refine allocsB rfl rfl ?_; intro B11 w11 bB11 cB11 XB11 LB11 RB11; have z17 := XB11.size; replace E := E.trans XB11; replace LB5 := LB5.ext XB11; replace LB6 := LB6.ext XB11; replace RB6 := RB6.ext XB11; replace BP := BP.ext XB11) | (clear TG18; have hRl := (RB11).lt (Nat.zero_lt_succ _); refine storesB (B := B11) rfl rfl rfl (v := p) rfl RB11 Fp ?_; clear LB11; intro s18 G18 LB11 RQ; have z19 := G18.size; replace E := grown_ext E G18 (by omega); replace LB5 := LB5.grown G18 (by omega); replace LB6 := LB6.grown G18 (by omega); replace RB6 := RB6.grown G18 (by omega); replace BP := BP.grown G18 (by dsimp only [New]; omega); clear RB11; have RB11 := RQ; clear RQ hRl; clear RB11) | (refine loadsV (B := B5) (by rfl) rfl rfl LB5 ?_))
  clear LB5
  refine (cq _ E).mono ?_
  rintro e w49 ⟨q, rfl, hq, x⟩
  have BQ := hq.now
  have Fq := BQ.is.flat
  clear hq
  have z20 := x.size
  replace E := E.trans x
  replace LB6 := LB6.ext x
  replace RB6 := RB6.ext x
  replace BP := BP.ext x
  replace LB11 := LB11.ext x
  clear x
  have TB12 : True := trivial
  have TG22 : True := trivial
  go_wp2_with (first | (clear TB12; refine allocsB rfl rfl ?_; intro B12 w12 bB12 cB12 XB12 LB12 RB12; have z21 := XB12.size; replace E := E.trans XB12; replace LB6 := LB6.ext XB12; replace RB6 := RB6.ext XB12; replace BP := BP.ext XB12; replace LB11 := LB11.ext XB12; replace BQ := BQ.ext XB12) | (clear TG22; have hRl := (RB12).lt (Nat.zero_lt_succ _); refine storesB (B := B12) rfl rfl rfl (v := q) rfl RB12 Fq ?_; clear LB12; intro s22 G22 LB12 RQ; have z23 := G22.size; replace E := grown_ext E G22 (by omega); replace LB6 := LB6.grown G22 (by omega); replace RB6 := RB6.grown G22 (by omega); replace BP := BP.grown G22 (by dsimp only [New]; omega); replace LB11 := LB11.grown G22 (by omega); replace BQ := BQ.grown G22 (by dsimp only [New]; omega); clear RB12; have RB12 := RQ; clear RQ hRl) | (refine loadsB (B := B11) (by rfl) rfl rfl LB11 ?_))
  refine (LP p _ BP.is).mono ?_
  rintro e w60 ⟨rfl, x⟩
  have z24 := x.size
  replace E := E.trans x
  replace LB6 := LB6.ext x
  replace RB6 := RB6.ext x
  replace BP := BP.ext x
  replace LB11 := LB11.ext x
  replace BQ := BQ.ext x
  replace LB12 := LB12.ext x
  replace RB12 := RB12.ext x
  clear x
  go_wp2_with (refine loadsB (B := B12) (by rfl) rfl rfl LB12 ?_)
  refine (LQ' q _ BQ.is).mono ?_
  rintro e w68 ⟨rfl, x⟩
  have z25 := x.size
  replace E := E.trans x
  replace LB6 := LB6.ext x
  replace RB6 := RB6.ext x
  replace BP := BP.ext x
  replace LB11 := LB11.ext x
  replace BQ := BQ.ext x
  replace LB12 := LB12.ext x
  replace RB12 := RB12.ext x
  clear x
  go_wp2_with (refine loadsB (B := B12) (by rfl) rfl rfl LB12 ?_)
  refine (AQ q _ BQ.is).mono ?_
  rintro e w73 ⟨rfl, x⟩
  have z26 := x.size
  replace E := E.trans x
  replace LB6 := LB6.ext x
  replace RB6 := RB6.ext x
  replace BP := BP.ext x
  replace LB11 := LB11.ext x
  replace BQ := BQ.ext x
  replace LB12 := LB12.ext x
  replace RB12 := RB12.ext x
  clear x
  go_wp2_with fail
  clear BQ
  refine (mq _).mono ?_
  rintro e w74 ⟨q2, rfl, hq, x⟩
  have BQ2 := hq.bs.now
  have Fq2 := BQ2.is.flat
  clear hq
  have z27 := x.size
  replace E := E.trans x
  replace LB6 := LB6.ext x
  replace RB6 := RB6.ext x
  replace BP := BP.ext x
  replace LB11 := LB11.ext x
  replace LB12 := LB12.ext x
  replace RB12 := RB12.ext x
  clear x
  have TG28 : True := trivial
  go_wp2_with (first | (clear TG28; have hRl := (RB12).lt (Nat.zero_lt_succ _); refine storesB (B := B12) rfl rfl rfl (v := q2) rfl RB12 Fq2 ?_; clear LB12; intro s28 G28 LB12 RQ; have z29 := G28.size; replace E := grown_ext E G28 (by omega); replace LB6 := LB6.grown G28 (by omega); replace RB6 := RB6.grown G28 (by omega); replace BP := BP.grown G28 (by dsimp only [New]; omega); replace LB11 := LB11.grown G28 (by omega); replace BQ2 := BQ2.grown G28 (by dsimp only [New]; omega); clear RB12; have RB12 := RQ; clear RQ hRl; clear RB12) | (refine loadsB (B := B11) (by rfl) rfl rfl LB11 ?_) | (refine loadsB (B := B12) (by rfl) rfl rfl LB12 ?_))
  clear LB11 LB12
  refine (cv p q2 _ BP.is BQ2.is).mono ?_
  rintro e w79 ⟨r, rfl, hq, x⟩
  clear BP BQ2
  have BR := hq.bs.now
  have Fr := BR.is.flat
  clear hq
  have z30 := x.size
  replace E := E.trans x
  replace LB6 := LB6.ext x
  replace RB6 := RB6.ext x
  clear x
  have TB14 : True := trivial
  have TG32 : True := trivial
  go_wp2_with (first | (clear TB14; refine allocsB rfl rfl ?_; intro B14 w14 bB14 cB14 XB14 LB14 RB14; have z31 := XB14.size; replace E := E.trans XB14; replace LB6 := LB6.ext XB14; replace RB6 := RB6.ext XB14; replace BR := BR.ext XB14) | (clear TG32; have hRl := (RB14).lt (Nat.zero_lt_succ _); refine storesB (B := B14) rfl rfl rfl (v := r) rfl RB14 Fr ?_; clear LB14; intro s32 G32 LB14 RQ; have z33 := G32.size; replace E := grown_ext E G32 (by omega); replace LB6 := LB6.grown G32 (by omega); replace RB6 := RB6.grown G32 (by omega); replace BR := BR.grown G32 (by dsimp only [New]; omega); clear RB14; have RB14 := RQ; clear RQ hRl; clear RB14) | (refine loadsB (B := B14) (by rfl) rfl rfl LB14 ?_))
  clear LB14
  refine (VecS.bits_of r R _ BR.is).mono ?_
  rintro e w83 ⟨o, rfl, hq, x⟩
  have VO := hq _ BR
  have Fo := VO.is.flat
  clear hq
  have z34 := x.size
  replace E := E.trans x
  replace LB6 := LB6.ext x
  replace RB6 := RB6.ext x
  clear x
  have TG35 : True := trivial
  go_wp2_with (clear TG35; have hRl := (RB6).lt (Nat.zero_lt_succ _); refine storesV (B := B6) rfl rfl rfl (v := o) rfl RB6 Fo ?_; clear LB6; intro s35 G35 LB6 RQ; have z36 := G35.size; replace E := grown_ext E G35 (by omega); replace VO := VO.grown G35 (by dsimp only [New]; omega); clear RB6; have RB6 := RQ; clear RQ hRl; clear RB6)
  refine bodyPost_ret (results_lay2 rfl rfl rfl (ldV LB6)) rfl ?_
  exact ⟨o, rfl, VO.mono (fun i hi h => by dsimp only [New] at *; omega), E⟩
end
end Go.Proofs.YtdfhefnjoekgbaaDoor
