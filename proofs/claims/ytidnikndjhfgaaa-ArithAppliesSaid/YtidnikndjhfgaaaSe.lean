/- arith.Apply. -/
import Derived.Test.YtidnikndjhfgaaaSd
import Derived.Test.YtidnikndjhfgaaaRa
namespace Go.Proofs.Ytidnikndjhfgaaa
open Go.ChangeShapes Go.WideShapes Go.RowKit Bv Fl
theorem lenV_pos {m n : Nat} (hl : lenOk (m : Int) (n : Int) = true) : ∃ N : Nat, lenV (m : Int) (n : Int) = (N : Int) ∧ (N = m ∨ m = 1) ∧ (N = n ∨ n = 1) ∧ (N = m ∨ N = n) := by
  simp only [lenOk, Bool.or_eq_true, beq_iff_eq] at hl
  unfold lenV
  by_cases h1 : (m : Int) = n
  · rw [if_pos h1]; exact ⟨m, rfl, by omega, by omega, by omega⟩
  · rw [if_neg h1]
    by_cases h2 : (m : Int) = 1
    · rw [if_pos h2]; exact ⟨n, rfl, by omega, by omega, by omega⟩
    · rw [if_neg h2, if_pos (by omega)]; exact ⟨m, rfl, by omega, by omega, by omega⟩
set_option maxHeartbeats 2000000
set_option maxRecDepth 100000
section
variable (f : Int) (v u : Value) (w : World)
theorem ar_bad1 (h : f < 1) (hF : Flat 8 v) (hG : Flat 8 u) :
    Calls Try.prog 38 #[.int .i64 f, v, u] w fun e w' => e = .returned (.tuple #[zeroVec, .int .i64 1]) ∧ Ext w w' := by
  have E := Ext.refl w
  go_enter Try.func38, Try.ntmps38
  have TB4 : True := trivial
  have TB5 : True := trivial
  have TB6 : True := trivial
  have TG4 : True := trivial
  go_wp2_with (first | (clear TB4; refine boxsV (v := v) rfl rfl rfl hF ?_; intro B4 w4 bB4 cB4 XB4 LB4 RB4; have z1 := XB4.size; replace E := E.trans XB4; clear LB4 RB4) | (clear TB5; refine boxsV (v := u) rfl rfl rfl hG ?_; intro B5 w5 bB5 cB5 XB5 LB5 RB5; have z2 := XB5.size; replace E := E.trans XB5; clear LB5 RB5) | (clear TB6; refine allocsV rfl rfl ?_; intro B6 w6 bB6 cB6 XB6 LB6 RB6; have z3 := XB6.size; replace E := E.trans XB6) | (clear TG4; have hRl := (RB6).lt (Nat.zero_lt_succ _); refine storesV (B := B6) rfl rfl rfl (v := zeroVec) rfl RB6 zeroVec_flat ?_; clear LB6; intro s4 G4 LB6 RQ; have z5 := G4.size; replace E := grown_ext E G4 (by omega); clear RB6; have RB6 := RQ; clear RQ hRl; clear RB6))
  refine bodyPost_ret (results_lay2 rfl rfl rfl (ldV LB6)) rfl ?_
  exact ⟨rfl, E⟩
theorem ar_bad2 (h : ¬ f < 1) (h2 : 8 < f) (hF : Flat 8 v) (hG : Flat 8 u) :
    Calls Try.prog 38 #[.int .i64 f, v, u] w fun e w' => e = .returned (.tuple #[zeroVec, .int .i64 1]) ∧ Ext w w' := by
  have E := Ext.refl w
  go_enter Try.func38, Try.ntmps38
  have TB4 : True := trivial
  have TB5 : True := trivial
  have TB6 : True := trivial
  have TG4 : True := trivial
  go_wp2_with (first | (clear TB4; refine boxsV (v := v) rfl rfl rfl hF ?_; intro B4 w4 bB4 cB4 XB4 LB4 RB4; have z1 := XB4.size; replace E := E.trans XB4; clear LB4 RB4) | (clear TB5; refine boxsV (v := u) rfl rfl rfl hG ?_; intro B5 w5 bB5 cB5 XB5 LB5 RB5; have z2 := XB5.size; replace E := E.trans XB5; clear LB5 RB5) | (clear TB6; refine allocsV rfl rfl ?_; intro B6 w6 bB6 cB6 XB6 LB6 RB6; have z3 := XB6.size; replace E := E.trans XB6) | (clear TG4; have hRl := (RB6).lt (Nat.zero_lt_succ _); refine storesV (B := B6) rfl rfl rfl (v := zeroVec) rfl RB6 zeroVec_flat ?_; clear LB6; intro s4 G4 LB6 RQ; have z5 := G4.size; replace E := grown_ext E G4 (by omega); clear RB6; have RB6 := RQ; clear RQ hRl; clear RB6))
  refine bodyPost_ret (results_lay2 rfl rfl rfl (ldV LB6)) rfl ?_
  exact ⟨rfl, E⟩
theorem ar_len (hf : 1 ≤ f ∧ f ≤ 8) (m n : Int) (ca : ∀ w', Ext w w' → Calls Try.prog 47 #[v] w' fun e w2 => e = .returned (.int .i64 m) ∧ Ext w' w2) (cb : ∀ w', Ext w w' → Calls Try.prog 47 #[u] w' fun e w2 => e = .returned (.int .i64 n) ∧ Ext w' w2) (hl : lenOk m n = false) (hF : Flat 8 v) (hG : Flat 8 u) :
    Calls Try.prog 38 #[.int .i64 f, v, u] w fun e w' => e = .returned (.tuple #[zeroVec, .int .i64 23]) ∧ Ext w w' := by
  have E := Ext.refl w
  obtain ⟨h1, h2⟩ := hf
  have cl : ∀ w', Calls Try.prog 29 #[.int .i64 m, .int .i64 n] w' fun e w2 => e = .returned (.tuple #[.int .i64 (lenV m n), .bool false]) ∧ Ext w' w2 := fun w' => (length_any m n w').mono fun e w2 h => ⟨by rw [h.1, hl], h.2 ▸ Ext.refl _⟩
  clear hl
  generalize lenV m n = N at *
  go_enter Try.func38, Try.ntmps38
  have TB4 : True := trivial
  have TB5 : True := trivial
  have TB6 : True := trivial
  go_wp2_with (first | (clear TB4; refine boxsV (v := v) rfl rfl rfl hF ?_; intro B4 w4 bB4 cB4 XB4 LB4 RB4; have z1 := XB4.size; replace E := E.trans XB4; clear RB4) | (clear TB5; refine boxsV (v := u) rfl rfl rfl hG ?_; intro B5 w5 bB5 cB5 XB5 LB5 RB5; have z2 := XB5.size; replace E := E.trans XB5; replace LB4 := LB4.ext XB5; clear RB5) | (clear TB6; refine allocsV rfl rfl ?_; intro B6 w6 bB6 cB6 XB6 LB6 RB6; have z3 := XB6.size; replace E := E.trans XB6; replace LB4 := LB4.ext XB6; replace LB5 := LB5.ext XB6))
  try simp only [Act.put, List.setIfInBounds_toArray, List.set_cons_zero, List.set_cons_succ]
  have hq4 : w6.heap.size ≤ w6.drew.heap.size := Nat.le_refl _
  have z5 := (Ext.refl w6).drew.size
  replace E := E.trans (Ext.refl w6).drew
  replace LB4 := LB4.ext (Ext.refl w6).drew
  replace LB5 := LB5.ext (Ext.refl w6).drew
  replace LB6 := LB6.ext (Ext.refl w6).drew
  replace RB6 := RB6.ext (Ext.refl w6).drew
  refine wp_region_held_drew (S := (fun w' => Lay 8 w' B4 v ∧ Lay 8 w' B5 u)) (by kernel_rfl) ⟨LB4, LB5⟩ (fun hHeld => ?_)
  refine wpAnyH_take (i := 0) (oi := { dst := some 20, op := Go.Op.load 41 (Go.Operand.tmp 4), type := 41, pos := "arith.go:64", after := #[], guard := none }) (v := v) rfl (by kernel_rfl) (by kernel_rfl) (by kernel_rfl) (fun _ _ _ h => h) (yieldV (by rfl) rfl rfl fun w' hx => hx.1) hHeld ?_
  try simp only [Act.put, List.setIfInBounds_toArray, List.set_cons_zero, List.set_cons_succ]
  refine wpAnyH_take (i := 2) (oi := { dst := some 22, op := Go.Op.load 41 (Go.Operand.tmp 5), type := 41, pos := "arith.go:64", after := #[], guard := none }) (v := u) rfl (by kernel_rfl) (by kernel_rfl) (by kernel_rfl) (fun _ _ _ h => h) (yieldV (by rfl) rfl rfl fun w' hx => hx.2) hHeld ?_
  try simp only [Act.put, List.setIfInBounds_toArray, List.set_cons_zero, List.set_cons_succ]
  refine wpAnyH_ready (rs := [1]) (by kernel_rfl) (by simp) ?_
  refine AllReadyH.cons (o := { dst := some 21, op := Go.Op.call { callee := Go.Callee.value (Go.Operand.func 47), args := #[Go.Operand.tmp 20], argTypes := #[41] }, type := 3, pos := "arith.go:64", after := #[{ on := 0, ground := Go.Ground.data }], guard := none }) rfl (fun K hK => ?_) (AllReadyH.nil)
  go_simp
  refine (ca _ E).mono ?_
  rintro e w21 ⟨rfl, x⟩
  have z8 := x.size
  replace E := E.trans x
  replace LB4 := LB4.ext x
  replace LB5 := LB5.ext x
  replace LB6 := LB6.ext x
  replace RB6 := RB6.ext x
  clear x
  clear hHeld
  have hHeld := And.intro LB4 (LB5)
  refine hK.out _ _ hHeld (fun _ => ?_)
  clear hK K
  try simp only [Act.put, List.setIfInBounds_toArray, List.set_cons_zero, List.set_cons_succ]
  refine wpAnyH_ready (rs := [3]) (by kernel_rfl) (by simp) ?_
  refine AllReadyH.cons (o := { dst := some 23, op := Go.Op.call { callee := Go.Callee.value (Go.Operand.func 47), args := #[Go.Operand.tmp 22], argTypes := #[41] }, type := 3, pos := "arith.go:64", after := #[{ on := 2, ground := Go.Ground.data }, { on := 1, ground := Go.Ground.chain }], guard := none }) rfl (fun K hK => ?_) (AllReadyH.nil)
  go_simp
  refine (cb _ E).mono ?_
  rintro e w23 ⟨rfl, x⟩
  have z9 := x.size
  replace E := E.trans x
  replace LB4 := LB4.ext x
  replace LB5 := LB5.ext x
  replace LB6 := LB6.ext x
  replace RB6 := RB6.ext x
  clear x
  clear hHeld
  have hHeld := And.intro LB4 (LB5)
  refine hK.out _ _ hHeld (fun _ => ?_)
  clear hK K
  try simp only [Act.put, List.setIfInBounds_toArray, List.set_cons_zero, List.set_cons_succ]
  refine wpAnyH_ready (rs := [4]) (by kernel_rfl) (by simp) ?_
  refine AllReadyH.cons (o := { dst := some 24, op := Go.Op.call { callee := Go.Callee.value (Go.Operand.func 29), args := #[Go.Operand.tmp 21, Go.Operand.tmp 23], argTypes := #[3, 3] }, type := 60, pos := "arith.go:64", after := #[{ on := 1, ground := Go.Ground.data }, { on := 3, ground := Go.Ground.data }, { on := 3, ground := Go.Ground.chain }], guard := none }) rfl (fun K hK => ?_) (AllReadyH.nil)
  go_simp
  refine (cl _).mono ?_
  rintro e w24 ⟨rfl, x⟩
  have z10 := x.size
  replace E := E.trans x
  replace LB4 := LB4.ext x
  replace LB5 := LB5.ext x
  replace LB6 := LB6.ext x
  replace RB6 := RB6.ext x
  clear x
  clear hHeld
  have hHeld := And.intro LB4 (LB5)
  refine hK.out _ _ hHeld (fun _ => ?_)
  clear hK K
  try simp only [Act.put, List.setIfInBounds_toArray, List.set_cons_zero, List.set_cons_succ]
  refine wpAnyH_take (i := 5) (oi := { dst := some 19, op := Go.Op.move (Go.Operand.tmp 24), type := 60, pos := "arith.go:64", after := #[{ on := 4, ground := Go.Ground.data }], guard := none }) (v := ?v11) rfl (by kernel_rfl) (by kernel_rfl) (by kernel_rfl) (fun _ _ _ h => h) (Or.inl ⟨by rfl, ?hy11⟩) hHeld ?rest11
  case hy11 => (intro w hSw; (try dsimp only at hSw); go_simp; (first | done | with_reducible rfl))
  try simp only [Act.put, List.setIfInBounds_toArray, List.set_cons_zero, List.set_cons_succ]
  refine wpAnyH_take (i := 6) (oi := { dst := some 25, op := Go.Op.extract (Go.Operand.tmp 19) 0, type := 3, pos := "arith.go:64", after := #[{ on := 5, ground := Go.Ground.data }], guard := none }) (v := ?v12) rfl (by kernel_rfl) (by kernel_rfl) (by kernel_rfl) (fun _ _ _ h => h) (Or.inl ⟨by rfl, ?hy12⟩) hHeld ?rest12
  case hy12 => (intro w hSw; (try dsimp only at hSw); go_simp; (first | done | with_reducible rfl))
  try simp only [Act.put, List.setIfInBounds_toArray, List.set_cons_zero, List.set_cons_succ]
  refine wpAnyH_take (i := 7) (oi := { dst := some 26, op := Go.Op.extract (Go.Operand.tmp 19) 1, type := 4, pos := "arith.go:64", after := #[{ on := 5, ground := Go.Ground.data }, { on := 8, ground := Go.Ground.gcOnly Go.Departure.lateStores }], guard := none }) (v := ?v13) rfl (by kernel_rfl) (by kernel_rfl) (by kernel_rfl) (fun _ _ _ h => h) (Or.inl ⟨by rfl, ?hy13⟩) hHeld ?rest13
  case hy13 => (intro w hSw; (try dsimp only at hSw); go_simp; (first | done | with_reducible rfl))
  try simp only [Act.put, List.setIfInBounds_toArray, List.set_cons_zero, List.set_cons_succ]
  refine wpAnyH_take (i := 8) (oi := { dst := some 8, op := Go.Op.assign (Go.Operand.tmp 25), type := 3, pos := "arith.go:64", after := #[{ on := 6, ground := Go.Ground.data }, { on := 4, ground := Go.Ground.chain }, { on := 0, ground := Go.Ground.phase }, { on := 1, ground := Go.Ground.phase }, { on := 2, ground := Go.Ground.phase }, { on := 3, ground := Go.Ground.phase }, { on := 4, ground := Go.Ground.phase }, { on := 5, ground := Go.Ground.phase }, { on := 6, ground := Go.Ground.phase }, { on := 7, ground := Go.Ground.textOnly Go.Departure.lateStores }], guard := none }) (v := ?v14) rfl (by kernel_rfl) (by kernel_rfl) (by kernel_rfl) (fun _ _ _ h => h) (Or.inl ⟨by rfl, ?hy14⟩) hHeld ?rest14
  case hy14 => (intro w hSw; (try dsimp only at hSw); go_simp; (first | done | with_reducible rfl))
  try simp only [Act.put, List.setIfInBounds_toArray, List.set_cons_zero, List.set_cons_succ]
  refine wpAnyH_take (i := 9) (oi := { dst := some 9, op := Go.Op.assign (Go.Operand.tmp 26), type := 4, pos := "arith.go:64", after := #[{ on := 7, ground := Go.Ground.data }, { on := 8, ground := Go.Ground.chain }, { on := 0, ground := Go.Ground.phase }, { on := 1, ground := Go.Ground.phase }, { on := 2, ground := Go.Ground.phase }, { on := 3, ground := Go.Ground.phase }, { on := 4, ground := Go.Ground.phase }, { on := 5, ground := Go.Ground.phase }, { on := 6, ground := Go.Ground.phase }, { on := 7, ground := Go.Ground.phase }, { on := 8, ground := Go.Ground.phase }], guard := none }) (v := ?v15) rfl (by kernel_rfl) (by kernel_rfl) (by kernel_rfl) (fun _ _ _ h => h) (Or.inl ⟨by rfl, ?hy15⟩) hHeld ?rest15
  case hy15 => (intro w hSw; (try dsimp only at hSw); go_simp; (first | done | with_reducible rfl))
  try simp only [Act.put, List.setIfInBounds_toArray, List.set_cons_zero, List.set_cons_succ]
  refine wpAnyH_done (by kernel_rfl) ?_ _
  have TG16 : True := trivial
  go_wp2_with (clear TG16; have hRl := (RB6).lt (Nat.zero_lt_succ _); refine storesV (B := B6) rfl rfl rfl (v := zeroVec) rfl RB6 zeroVec_flat ?_; clear LB6; intro s16 G16 LB6 RQ; have z17 := G16.size; replace E := grown_ext E G16 (by omega); replace LB4 := LB4.grown G16 (by omega); replace LB5 := LB5.grown G16 (by omega); clear RB6; have RB6 := RQ; clear RQ hRl; clear RB6)
  refine bodyPost_ret (results_lay2 rfl rfl rfl (ldV LB6)) rfl ?_
  exact ⟨rfl, E⟩
theorem ar_cls1 (hf : 1 ≤ f ∧ f ≤ 8) (m n : Int) (ca : ∀ w', Ext w w' → Calls Try.prog 47 #[v] w' fun e w2 => e = .returned (.int .i64 m) ∧ Ext w' w2) (cb : ∀ w', Ext w w' → Calls Try.prog 47 #[u] w' fun e w2 => e = .returned (.int .i64 n) ∧ Ext w' w2) (hl : lenOk m n = true) (ka : Int) (da : ∀ w', Ext w w' → Calls Try.prog 49 #[v] w' fun e w2 => e = .returned (.int .i64 ka) ∧ Ext w' w2) (e34 : (ka != 0) = true) (hF : Flat 8 v) (hG : Flat 8 u) :
    Calls Try.prog 38 #[.int .i64 f, v, u] w fun e w' => e = .returned (.tuple #[zeroVec, .int .i64 24]) ∧ Ext w w' := by
  have E := Ext.refl w
  obtain ⟨h1, h2⟩ := hf
  have cl : ∀ w', Calls Try.prog 29 #[.int .i64 m, .int .i64 n] w' fun e w2 => e = .returned (.tuple #[.int .i64 (lenV m n), .bool true]) ∧ Ext w' w2 := fun w' => (length_any m n w').mono fun e w2 h => ⟨by rw [h.1, hl], h.2 ▸ Ext.refl _⟩
  clear hl
  generalize lenV m n = N at *
  go_enter Try.func38, Try.ntmps38
  have TB4 : True := trivial
  have TB5 : True := trivial
  have TB6 : True := trivial
  go_wp2_with (first | (clear TB4; refine boxsV (v := v) rfl rfl rfl hF ?_; intro B4 w4 bB4 cB4 XB4 LB4 RB4; have z1 := XB4.size; replace E := E.trans XB4; clear RB4) | (clear TB5; refine boxsV (v := u) rfl rfl rfl hG ?_; intro B5 w5 bB5 cB5 XB5 LB5 RB5; have z2 := XB5.size; replace E := E.trans XB5; replace LB4 := LB4.ext XB5; clear RB5) | (clear TB6; refine allocsV rfl rfl ?_; intro B6 w6 bB6 cB6 XB6 LB6 RB6; have z3 := XB6.size; replace E := E.trans XB6; replace LB4 := LB4.ext XB6; replace LB5 := LB5.ext XB6))
  try simp only [Act.put, List.setIfInBounds_toArray, List.set_cons_zero, List.set_cons_succ]
  have hq4 : w6.heap.size ≤ w6.drew.heap.size := Nat.le_refl _
  have z5 := (Ext.refl w6).drew.size
  replace E := E.trans (Ext.refl w6).drew
  replace LB4 := LB4.ext (Ext.refl w6).drew
  replace LB5 := LB5.ext (Ext.refl w6).drew
  replace LB6 := LB6.ext (Ext.refl w6).drew
  replace RB6 := RB6.ext (Ext.refl w6).drew
  refine wp_region_held_drew (S := (fun w' => Lay 8 w' B4 v ∧ Lay 8 w' B5 u)) (by kernel_rfl) ⟨LB4, LB5⟩ (fun hHeld => ?_)
  refine wpAnyH_take (i := 0) (oi := { dst := some 20, op := Go.Op.load 41 (Go.Operand.tmp 4), type := 41, pos := "arith.go:64", after := #[], guard := none }) (v := v) rfl (by kernel_rfl) (by kernel_rfl) (by kernel_rfl) (fun _ _ _ h => h) (yieldV (by rfl) rfl rfl fun w' hx => hx.1) hHeld ?_
  try simp only [Act.put, List.setIfInBounds_toArray, List.set_cons_zero, List.set_cons_succ]
  refine wpAnyH_take (i := 2) (oi := { dst := some 22, op := Go.Op.load 41 (Go.Operand.tmp 5), type := 41, pos := "arith.go:64", after := #[], guard := none }) (v := u) rfl (by kernel_rfl) (by kernel_rfl) (by kernel_rfl) (fun _ _ _ h => h) (yieldV (by rfl) rfl rfl fun w' hx => hx.2) hHeld ?_
  try simp only [Act.put, List.setIfInBounds_toArray, List.set_cons_zero, List.set_cons_succ]
  refine wpAnyH_ready (rs := [1]) (by kernel_rfl) (by simp) ?_
  refine AllReadyH.cons (o := { dst := some 21, op := Go.Op.call { callee := Go.Callee.value (Go.Operand.func 47), args := #[Go.Operand.tmp 20], argTypes := #[41] }, type := 3, pos := "arith.go:64", after := #[{ on := 0, ground := Go.Ground.data }], guard := none }) rfl (fun K hK => ?_) (AllReadyH.nil)
  go_simp
  refine (ca _ E).mono ?_
  rintro e w21 ⟨rfl, x⟩
  have z8 := x.size
  replace E := E.trans x
  replace LB4 := LB4.ext x
  replace LB5 := LB5.ext x
  replace LB6 := LB6.ext x
  replace RB6 := RB6.ext x
  clear x
  clear hHeld
  have hHeld := And.intro LB4 (LB5)
  refine hK.out _ _ hHeld (fun _ => ?_)
  clear hK K
  try simp only [Act.put, List.setIfInBounds_toArray, List.set_cons_zero, List.set_cons_succ]
  refine wpAnyH_ready (rs := [3]) (by kernel_rfl) (by simp) ?_
  refine AllReadyH.cons (o := { dst := some 23, op := Go.Op.call { callee := Go.Callee.value (Go.Operand.func 47), args := #[Go.Operand.tmp 22], argTypes := #[41] }, type := 3, pos := "arith.go:64", after := #[{ on := 2, ground := Go.Ground.data }, { on := 1, ground := Go.Ground.chain }], guard := none }) rfl (fun K hK => ?_) (AllReadyH.nil)
  go_simp
  refine (cb _ E).mono ?_
  rintro e w23 ⟨rfl, x⟩
  have z9 := x.size
  replace E := E.trans x
  replace LB4 := LB4.ext x
  replace LB5 := LB5.ext x
  replace LB6 := LB6.ext x
  replace RB6 := RB6.ext x
  clear x
  clear hHeld
  have hHeld := And.intro LB4 (LB5)
  refine hK.out _ _ hHeld (fun _ => ?_)
  clear hK K
  try simp only [Act.put, List.setIfInBounds_toArray, List.set_cons_zero, List.set_cons_succ]
  refine wpAnyH_ready (rs := [4]) (by kernel_rfl) (by simp) ?_
  refine AllReadyH.cons (o := { dst := some 24, op := Go.Op.call { callee := Go.Callee.value (Go.Operand.func 29), args := #[Go.Operand.tmp 21, Go.Operand.tmp 23], argTypes := #[3, 3] }, type := 60, pos := "arith.go:64", after := #[{ on := 1, ground := Go.Ground.data }, { on := 3, ground := Go.Ground.data }, { on := 3, ground := Go.Ground.chain }], guard := none }) rfl (fun K hK => ?_) (AllReadyH.nil)
  go_simp
  refine (cl _).mono ?_
  rintro e w24 ⟨rfl, x⟩
  have z10 := x.size
  replace E := E.trans x
  replace LB4 := LB4.ext x
  replace LB5 := LB5.ext x
  replace LB6 := LB6.ext x
  replace RB6 := RB6.ext x
  clear x
  clear hHeld
  have hHeld := And.intro LB4 (LB5)
  refine hK.out _ _ hHeld (fun _ => ?_)
  clear hK K
  try simp only [Act.put, List.setIfInBounds_toArray, List.set_cons_zero, List.set_cons_succ]
  refine wpAnyH_take (i := 5) (oi := { dst := some 19, op := Go.Op.move (Go.Operand.tmp 24), type := 60, pos := "arith.go:64", after := #[{ on := 4, ground := Go.Ground.data }], guard := none }) (v := ?v11) rfl (by kernel_rfl) (by kernel_rfl) (by kernel_rfl) (fun _ _ _ h => h) (Or.inl ⟨by rfl, ?hy11⟩) hHeld ?rest11
  case hy11 => (intro w hSw; (try dsimp only at hSw); go_simp; (first | done | with_reducible rfl))
  try simp only [Act.put, List.setIfInBounds_toArray, List.set_cons_zero, List.set_cons_succ]
  refine wpAnyH_take (i := 6) (oi := { dst := some 25, op := Go.Op.extract (Go.Operand.tmp 19) 0, type := 3, pos := "arith.go:64", after := #[{ on := 5, ground := Go.Ground.data }], guard := none }) (v := ?v12) rfl (by kernel_rfl) (by kernel_rfl) (by kernel_rfl) (fun _ _ _ h => h) (Or.inl ⟨by rfl, ?hy12⟩) hHeld ?rest12
  case hy12 => (intro w hSw; (try dsimp only at hSw); go_simp; (first | done | with_reducible rfl))
  try simp only [Act.put, List.setIfInBounds_toArray, List.set_cons_zero, List.set_cons_succ]
  refine wpAnyH_take (i := 7) (oi := { dst := some 26, op := Go.Op.extract (Go.Operand.tmp 19) 1, type := 4, pos := "arith.go:64", after := #[{ on := 5, ground := Go.Ground.data }, { on := 8, ground := Go.Ground.gcOnly Go.Departure.lateStores }], guard := none }) (v := ?v13) rfl (by kernel_rfl) (by kernel_rfl) (by kernel_rfl) (fun _ _ _ h => h) (Or.inl ⟨by rfl, ?hy13⟩) hHeld ?rest13
  case hy13 => (intro w hSw; (try dsimp only at hSw); go_simp; (first | done | with_reducible rfl))
  try simp only [Act.put, List.setIfInBounds_toArray, List.set_cons_zero, List.set_cons_succ]
  refine wpAnyH_take (i := 8) (oi := { dst := some 8, op := Go.Op.assign (Go.Operand.tmp 25), type := 3, pos := "arith.go:64", after := #[{ on := 6, ground := Go.Ground.data }, { on := 4, ground := Go.Ground.chain }, { on := 0, ground := Go.Ground.phase }, { on := 1, ground := Go.Ground.phase }, { on := 2, ground := Go.Ground.phase }, { on := 3, ground := Go.Ground.phase }, { on := 4, ground := Go.Ground.phase }, { on := 5, ground := Go.Ground.phase }, { on := 6, ground := Go.Ground.phase }, { on := 7, ground := Go.Ground.textOnly Go.Departure.lateStores }], guard := none }) (v := ?v14) rfl (by kernel_rfl) (by kernel_rfl) (by kernel_rfl) (fun _ _ _ h => h) (Or.inl ⟨by rfl, ?hy14⟩) hHeld ?rest14
  case hy14 => (intro w hSw; (try dsimp only at hSw); go_simp; (first | done | with_reducible rfl))
  try simp only [Act.put, List.setIfInBounds_toArray, List.set_cons_zero, List.set_cons_succ]
  refine wpAnyH_take (i := 9) (oi := { dst := some 9, op := Go.Op.assign (Go.Operand.tmp 26), type := 4, pos := "arith.go:64", after := #[{ on := 7, ground := Go.Ground.data }, { on := 8, ground := Go.Ground.chain }, { on := 0, ground := Go.Ground.phase }, { on := 1, ground := Go.Ground.phase }, { on := 2, ground := Go.Ground.phase }, { on := 3, ground := Go.Ground.phase }, { on := 4, ground := Go.Ground.phase }, { on := 5, ground := Go.Ground.phase }, { on := 6, ground := Go.Ground.phase }, { on := 7, ground := Go.Ground.phase }, { on := 8, ground := Go.Ground.phase }], guard := none }) (v := ?v15) rfl (by kernel_rfl) (by kernel_rfl) (by kernel_rfl) (fun _ _ _ h => h) (Or.inl ⟨by rfl, ?hy15⟩) hHeld ?rest15
  case hy15 => (intro w hSw; (try dsimp only at hSw); go_simp; (first | done | with_reducible rfl))
  try simp only [Act.put, List.setIfInBounds_toArray, List.set_cons_zero, List.set_cons_succ]
  refine wpAnyH_done (by kernel_rfl) ?_ _
  go_wp2_with (refine loadsV (B := B4) (by rfl) rfl rfl LB4 ?_)
  clear LB4 LB5
  refine (da _ E).mono ?_
  rintro e w33 ⟨rfl, x⟩
  have z16 := x.size
  replace E := E.trans x
  replace LB6 := LB6.ext x
  replace RB6 := RB6.ext x
  clear x
  have TG17 : True := trivial
  go_wp2_with (clear TG17; have hRl := (RB6).lt (Nat.zero_lt_succ _); refine storesV (B := B6) rfl rfl rfl (v := zeroVec) rfl RB6 zeroVec_flat ?_; clear LB6; intro s17 G17 LB6 RQ; have z18 := G17.size; replace E := grown_ext E G17 (by omega); clear RB6; have RB6 := RQ; clear RQ hRl; clear RB6)
  refine bodyPost_ret (results_lay2 rfl rfl rfl (ldV LB6)) rfl ?_
  exact ⟨rfl, E⟩
theorem ar_cls2 (hf : 1 ≤ f ∧ f ≤ 8) (m n : Int) (ca : ∀ w', Ext w w' → Calls Try.prog 47 #[v] w' fun e w2 => e = .returned (.int .i64 m) ∧ Ext w' w2) (cb : ∀ w', Ext w w' → Calls Try.prog 47 #[u] w' fun e w2 => e = .returned (.int .i64 n) ∧ Ext w' w2) (hl : lenOk m n = true) (ka : Int) (da : ∀ w', Ext w w' → Calls Try.prog 49 #[v] w' fun e w2 => e = .returned (.int .i64 ka) ∧ Ext w' w2) (e34 : (ka != 0) = false) (kb : Int) (db : ∀ w', Ext w w' → Calls Try.prog 49 #[u] w' fun e w2 => e = .returned (.int .i64 kb) ∧ Ext w' w2) (e38 : (kb != 0) = true) (hF : Flat 8 v) (hG : Flat 8 u) :
    Calls Try.prog 38 #[.int .i64 f, v, u] w fun e w' => e = .returned (.tuple #[zeroVec, .int .i64 24]) ∧ Ext w w' := by
  have E := Ext.refl w
  obtain ⟨h1, h2⟩ := hf
  have cl : ∀ w', Calls Try.prog 29 #[.int .i64 m, .int .i64 n] w' fun e w2 => e = .returned (.tuple #[.int .i64 (lenV m n), .bool true]) ∧ Ext w' w2 := fun w' => (length_any m n w').mono fun e w2 h => ⟨by rw [h.1, hl], h.2 ▸ Ext.refl _⟩
  clear hl
  generalize lenV m n = N at *
  go_enter Try.func38, Try.ntmps38
  have TB4 : True := trivial
  have TB5 : True := trivial
  have TB6 : True := trivial
  go_wp2_with (first | (clear TB4; refine boxsV (v := v) rfl rfl rfl hF ?_; intro B4 w4 bB4 cB4 XB4 LB4 RB4; have z1 := XB4.size; replace E := E.trans XB4; clear RB4) | (clear TB5; refine boxsV (v := u) rfl rfl rfl hG ?_; intro B5 w5 bB5 cB5 XB5 LB5 RB5; have z2 := XB5.size; replace E := E.trans XB5; replace LB4 := LB4.ext XB5; clear RB5) | (clear TB6; refine allocsV rfl rfl ?_; intro B6 w6 bB6 cB6 XB6 LB6 RB6; have z3 := XB6.size; replace E := E.trans XB6; replace LB4 := LB4.ext XB6; replace LB5 := LB5.ext XB6))
  try simp only [Act.put, List.setIfInBounds_toArray, List.set_cons_zero, List.set_cons_succ]
  have hq4 : w6.heap.size ≤ w6.drew.heap.size := Nat.le_refl _
  have z5 := (Ext.refl w6).drew.size
  replace E := E.trans (Ext.refl w6).drew
  replace LB4 := LB4.ext (Ext.refl w6).drew
  replace LB5 := LB5.ext (Ext.refl w6).drew
  replace LB6 := LB6.ext (Ext.refl w6).drew
  replace RB6 := RB6.ext (Ext.refl w6).drew
  refine wp_region_held_drew (S := (fun w' => Lay 8 w' B4 v ∧ Lay 8 w' B5 u)) (by kernel_rfl) ⟨LB4, LB5⟩ (fun hHeld => ?_)
  refine wpAnyH_take (i := 0) (oi := { dst := some 20, op := Go.Op.load 41 (Go.Operand.tmp 4), type := 41, pos := "arith.go:64", after := #[], guard := none }) (v := v) rfl (by kernel_rfl) (by kernel_rfl) (by kernel_rfl) (fun _ _ _ h => h) (yieldV (by rfl) rfl rfl fun w' hx => hx.1) hHeld ?_
  try simp only [Act.put, List.setIfInBounds_toArray, List.set_cons_zero, List.set_cons_succ]
  refine wpAnyH_take (i := 2) (oi := { dst := some 22, op := Go.Op.load 41 (Go.Operand.tmp 5), type := 41, pos := "arith.go:64", after := #[], guard := none }) (v := u) rfl (by kernel_rfl) (by kernel_rfl) (by kernel_rfl) (fun _ _ _ h => h) (yieldV (by rfl) rfl rfl fun w' hx => hx.2) hHeld ?_
  try simp only [Act.put, List.setIfInBounds_toArray, List.set_cons_zero, List.set_cons_succ]
  refine wpAnyH_ready (rs := [1]) (by kernel_rfl) (by simp) ?_
  refine AllReadyH.cons (o := { dst := some 21, op := Go.Op.call { callee := Go.Callee.value (Go.Operand.func 47), args := #[Go.Operand.tmp 20], argTypes := #[41] }, type := 3, pos := "arith.go:64", after := #[{ on := 0, ground := Go.Ground.data }], guard := none }) rfl (fun K hK => ?_) (AllReadyH.nil)
  go_simp
  refine (ca _ E).mono ?_
  rintro e w21 ⟨rfl, x⟩
  have z8 := x.size
  replace E := E.trans x
  replace LB4 := LB4.ext x
  replace LB5 := LB5.ext x
  replace LB6 := LB6.ext x
  replace RB6 := RB6.ext x
  clear x
  clear hHeld
  have hHeld := And.intro LB4 (LB5)
  refine hK.out _ _ hHeld (fun _ => ?_)
  clear hK K
  try simp only [Act.put, List.setIfInBounds_toArray, List.set_cons_zero, List.set_cons_succ]
  refine wpAnyH_ready (rs := [3]) (by kernel_rfl) (by simp) ?_
  refine AllReadyH.cons (o := { dst := some 23, op := Go.Op.call { callee := Go.Callee.value (Go.Operand.func 47), args := #[Go.Operand.tmp 22], argTypes := #[41] }, type := 3, pos := "arith.go:64", after := #[{ on := 2, ground := Go.Ground.data }, { on := 1, ground := Go.Ground.chain }], guard := none }) rfl (fun K hK => ?_) (AllReadyH.nil)
  go_simp
  refine (cb _ E).mono ?_
  rintro e w23 ⟨rfl, x⟩
  have z9 := x.size
  replace E := E.trans x
  replace LB4 := LB4.ext x
  replace LB5 := LB5.ext x
  replace LB6 := LB6.ext x
  replace RB6 := RB6.ext x
  clear x
  clear hHeld
  have hHeld := And.intro LB4 (LB5)
  refine hK.out _ _ hHeld (fun _ => ?_)
  clear hK K
  try simp only [Act.put, List.setIfInBounds_toArray, List.set_cons_zero, List.set_cons_succ]
  refine wpAnyH_ready (rs := [4]) (by kernel_rfl) (by simp) ?_
  refine AllReadyH.cons (o := { dst := some 24, op := Go.Op.call { callee := Go.Callee.value (Go.Operand.func 29), args := #[Go.Operand.tmp 21, Go.Operand.tmp 23], argTypes := #[3, 3] }, type := 60, pos := "arith.go:64", after := #[{ on := 1, ground := Go.Ground.data }, { on := 3, ground := Go.Ground.data }, { on := 3, ground := Go.Ground.chain }], guard := none }) rfl (fun K hK => ?_) (AllReadyH.nil)
  go_simp
  refine (cl _).mono ?_
  rintro e w24 ⟨rfl, x⟩
  have z10 := x.size
  replace E := E.trans x
  replace LB4 := LB4.ext x
  replace LB5 := LB5.ext x
  replace LB6 := LB6.ext x
  replace RB6 := RB6.ext x
  clear x
  clear hHeld
  have hHeld := And.intro LB4 (LB5)
  refine hK.out _ _ hHeld (fun _ => ?_)
  clear hK K
  try simp only [Act.put, List.setIfInBounds_toArray, List.set_cons_zero, List.set_cons_succ]
  refine wpAnyH_take (i := 5) (oi := { dst := some 19, op := Go.Op.move (Go.Operand.tmp 24), type := 60, pos := "arith.go:64", after := #[{ on := 4, ground := Go.Ground.data }], guard := none }) (v := ?v11) rfl (by kernel_rfl) (by kernel_rfl) (by kernel_rfl) (fun _ _ _ h => h) (Or.inl ⟨by rfl, ?hy11⟩) hHeld ?rest11
  case hy11 => (intro w hSw; (try dsimp only at hSw); go_simp; (first | done | with_reducible rfl))
  try simp only [Act.put, List.setIfInBounds_toArray, List.set_cons_zero, List.set_cons_succ]
  refine wpAnyH_take (i := 6) (oi := { dst := some 25, op := Go.Op.extract (Go.Operand.tmp 19) 0, type := 3, pos := "arith.go:64", after := #[{ on := 5, ground := Go.Ground.data }], guard := none }) (v := ?v12) rfl (by kernel_rfl) (by kernel_rfl) (by kernel_rfl) (fun _ _ _ h => h) (Or.inl ⟨by rfl, ?hy12⟩) hHeld ?rest12
  case hy12 => (intro w hSw; (try dsimp only at hSw); go_simp; (first | done | with_reducible rfl))
  try simp only [Act.put, List.setIfInBounds_toArray, List.set_cons_zero, List.set_cons_succ]
  refine wpAnyH_take (i := 7) (oi := { dst := some 26, op := Go.Op.extract (Go.Operand.tmp 19) 1, type := 4, pos := "arith.go:64", after := #[{ on := 5, ground := Go.Ground.data }, { on := 8, ground := Go.Ground.gcOnly Go.Departure.lateStores }], guard := none }) (v := ?v13) rfl (by kernel_rfl) (by kernel_rfl) (by kernel_rfl) (fun _ _ _ h => h) (Or.inl ⟨by rfl, ?hy13⟩) hHeld ?rest13
  case hy13 => (intro w hSw; (try dsimp only at hSw); go_simp; (first | done | with_reducible rfl))
  try simp only [Act.put, List.setIfInBounds_toArray, List.set_cons_zero, List.set_cons_succ]
  refine wpAnyH_take (i := 8) (oi := { dst := some 8, op := Go.Op.assign (Go.Operand.tmp 25), type := 3, pos := "arith.go:64", after := #[{ on := 6, ground := Go.Ground.data }, { on := 4, ground := Go.Ground.chain }, { on := 0, ground := Go.Ground.phase }, { on := 1, ground := Go.Ground.phase }, { on := 2, ground := Go.Ground.phase }, { on := 3, ground := Go.Ground.phase }, { on := 4, ground := Go.Ground.phase }, { on := 5, ground := Go.Ground.phase }, { on := 6, ground := Go.Ground.phase }, { on := 7, ground := Go.Ground.textOnly Go.Departure.lateStores }], guard := none }) (v := ?v14) rfl (by kernel_rfl) (by kernel_rfl) (by kernel_rfl) (fun _ _ _ h => h) (Or.inl ⟨by rfl, ?hy14⟩) hHeld ?rest14
  case hy14 => (intro w hSw; (try dsimp only at hSw); go_simp; (first | done | with_reducible rfl))
  try simp only [Act.put, List.setIfInBounds_toArray, List.set_cons_zero, List.set_cons_succ]
  refine wpAnyH_take (i := 9) (oi := { dst := some 9, op := Go.Op.assign (Go.Operand.tmp 26), type := 4, pos := "arith.go:64", after := #[{ on := 7, ground := Go.Ground.data }, { on := 8, ground := Go.Ground.chain }, { on := 0, ground := Go.Ground.phase }, { on := 1, ground := Go.Ground.phase }, { on := 2, ground := Go.Ground.phase }, { on := 3, ground := Go.Ground.phase }, { on := 4, ground := Go.Ground.phase }, { on := 5, ground := Go.Ground.phase }, { on := 6, ground := Go.Ground.phase }, { on := 7, ground := Go.Ground.phase }, { on := 8, ground := Go.Ground.phase }], guard := none }) (v := ?v15) rfl (by kernel_rfl) (by kernel_rfl) (by kernel_rfl) (fun _ _ _ h => h) (Or.inl ⟨by rfl, ?hy15⟩) hHeld ?rest15
  case hy15 => (intro w hSw; (try dsimp only at hSw); go_simp; (first | done | with_reducible rfl))
  try simp only [Act.put, List.setIfInBounds_toArray, List.set_cons_zero, List.set_cons_succ]
  refine wpAnyH_done (by kernel_rfl) ?_ _
  go_wp2_with (refine loadsV (B := B4) (by rfl) rfl rfl LB4 ?_)
  clear LB4
  refine (da _ E).mono ?_
  rintro e w33 ⟨rfl, x⟩
  have z16 := x.size
  replace E := E.trans x
  replace LB5 := LB5.ext x
  replace LB6 := LB6.ext x
  replace RB6 := RB6.ext x
  clear x
  go_wp2_with (refine loadgV (B := B5) (by rfl) rfl rfl LB5 ?_)
  clear LB5
  refine (db _ E).mono ?_
  rintro e w37 ⟨rfl, x⟩
  have z17 := x.size
  replace E := E.trans x
  replace LB6 := LB6.ext x
  replace RB6 := RB6.ext x
  clear x
  have TG18 : True := trivial
  go_wp2_with (clear TG18; have hRl := (RB6).lt (Nat.zero_lt_succ _); refine storesV (B := B6) rfl rfl rfl (v := zeroVec) rfl RB6 zeroVec_flat ?_; clear LB6; intro s18 G18 LB6 RQ; have z19 := G18.size; replace E := grown_ext E G18 (by omega); clear RB6; have RB6 := RQ; clear RQ hRl; clear RB6)
  refine bodyPost_ret (results_lay2 rfl rfl rfl (ldV LB6)) rfl ?_
  exact ⟨rfl, E⟩
theorem ar_wh (hf : 1 ≤ f ∧ f ≤ 8) (m n : Int) (ca : ∀ w', Ext w w' → Calls Try.prog 47 #[v] w' fun e w2 => e = .returned (.int .i64 m) ∧ Ext w' w2) (cb : ∀ w', Ext w w' → Calls Try.prog 47 #[u] w' fun e w2 => e = .returned (.int .i64 n) ∧ Ext w' w2) (hl : lenOk m n = true) (da : ∀ w', Ext w w' → Calls Try.prog 49 #[v] w' fun e w2 => e = .returned (.int .i64 0) ∧ Ext w' w2) (db : ∀ w', Ext w w' → Calls Try.prog 49 #[u] w' fun e w2 => e = .returned (.int .i64 0) ∧ Ext w' w2) (N : Nat) (hN : lenV m n = (N : Int)) (e4 : (f != 4) = true) (e8 : (f != 8) = true) (L : List Nat) (cw : ∀ w', Ext w w' → Calls Try.prog 69 #[.int .i64 f, .int .i64 (N : Int), v, u] w' fun e w2 => ∃ p, e = .returned (.tuple #[p, .bool true]) ∧ NumS w2 p (leastL L) L (New w'.heap.size) ∧ Ext w' w2)  (hF : Flat 8 v) (hG : Flat 8 u) :
    Calls Try.prog 38 #[.int .i64 f, v, u] w fun e w' => ∃ p, e = .returned (.tuple #[p, .int .i64 0]) ∧ NumS w' p (leastL L) L (New w.heap.size) ∧ Ext w w' := by
  have E := Ext.refl w
  obtain ⟨h1, h2⟩ := hf
  have cl : ∀ w', Calls Try.prog 29 #[.int .i64 m, .int .i64 n] w' fun e w2 => e = .returned (.tuple #[.int .i64 (lenV m n), .bool true]) ∧ Ext w' w2 := fun w' => (length_any m n w').mono fun e w2 h => ⟨by rw [h.1, hl], h.2 ▸ Ext.refl _⟩
  rw [hN] at cl
  clear hl hN
  go_enter Try.func38, Try.ntmps38
  have TB4 : True := trivial
  have TB5 : True := trivial
  have TB6 : True := trivial
  go_wp2_with (first | (clear TB4; refine boxsV (v := v) rfl rfl rfl hF ?_; intro B4 w4 bB4 cB4 XB4 LB4 RB4; have z1 := XB4.size; replace E := E.trans XB4; clear RB4) | (clear TB5; refine boxsV (v := u) rfl rfl rfl hG ?_; intro B5 w5 bB5 cB5 XB5 LB5 RB5; have z2 := XB5.size; replace E := E.trans XB5; replace LB4 := LB4.ext XB5; clear RB5) | (clear TB6; refine allocsV rfl rfl ?_; intro B6 w6 bB6 cB6 XB6 LB6 RB6; have z3 := XB6.size; replace E := E.trans XB6; replace LB4 := LB4.ext XB6; replace LB5 := LB5.ext XB6))
  try simp only [Act.put, List.setIfInBounds_toArray, List.set_cons_zero, List.set_cons_succ]
  have hq4 : w6.heap.size ≤ w6.drew.heap.size := Nat.le_refl _
  have z5 := (Ext.refl w6).drew.size
  replace E := E.trans (Ext.refl w6).drew
  replace LB4 := LB4.ext (Ext.refl w6).drew
  replace LB5 := LB5.ext (Ext.refl w6).drew
  replace LB6 := LB6.ext (Ext.refl w6).drew
  replace RB6 := RB6.ext (Ext.refl w6).drew
  refine wp_region_held_drew (S := (fun w' => Lay 8 w' B4 v ∧ Lay 8 w' B5 u)) (by kernel_rfl) ⟨LB4, LB5⟩ (fun hHeld => ?_)
  refine wpAnyH_take (i := 0) (oi := { dst := some 20, op := Go.Op.load 41 (Go.Operand.tmp 4), type := 41, pos := "arith.go:64", after := #[], guard := none }) (v := v) rfl (by kernel_rfl) (by kernel_rfl) (by kernel_rfl) (fun _ _ _ h => h) (yieldV (by rfl) rfl rfl fun w' hx => hx.1) hHeld ?_
  try simp only [Act.put, List.setIfInBounds_toArray, List.set_cons_zero, List.set_cons_succ]
  refine wpAnyH_take (i := 2) (oi := { dst := some 22, op := Go.Op.load 41 (Go.Operand.tmp 5), type := 41, pos := "arith.go:64", after := #[], guard := none }) (v := u) rfl (by kernel_rfl) (by kernel_rfl) (by kernel_rfl) (fun _ _ _ h => h) (yieldV (by rfl) rfl rfl fun w' hx => hx.2) hHeld ?_
  try simp only [Act.put, List.setIfInBounds_toArray, List.set_cons_zero, List.set_cons_succ]
  refine wpAnyH_ready (rs := [1]) (by kernel_rfl) (by simp) ?_
  refine AllReadyH.cons (o := { dst := some 21, op := Go.Op.call { callee := Go.Callee.value (Go.Operand.func 47), args := #[Go.Operand.tmp 20], argTypes := #[41] }, type := 3, pos := "arith.go:64", after := #[{ on := 0, ground := Go.Ground.data }], guard := none }) rfl (fun K hK => ?_) (AllReadyH.nil)
  go_simp
  refine (ca _ E).mono ?_
  rintro e w21 ⟨rfl, x⟩
  have z8 := x.size
  replace E := E.trans x
  replace LB4 := LB4.ext x
  replace LB5 := LB5.ext x
  replace LB6 := LB6.ext x
  replace RB6 := RB6.ext x
  clear x
  clear hHeld
  have hHeld := And.intro LB4 (LB5)
  refine hK.out _ _ hHeld (fun _ => ?_)
  clear hK K
  try simp only [Act.put, List.setIfInBounds_toArray, List.set_cons_zero, List.set_cons_succ]
  refine wpAnyH_ready (rs := [3]) (by kernel_rfl) (by simp) ?_
  refine AllReadyH.cons (o := { dst := some 23, op := Go.Op.call { callee := Go.Callee.value (Go.Operand.func 47), args := #[Go.Operand.tmp 22], argTypes := #[41] }, type := 3, pos := "arith.go:64", after := #[{ on := 2, ground := Go.Ground.data }, { on := 1, ground := Go.Ground.chain }], guard := none }) rfl (fun K hK => ?_) (AllReadyH.nil)
  go_simp
  refine (cb _ E).mono ?_
  rintro e w23 ⟨rfl, x⟩
  have z9 := x.size
  replace E := E.trans x
  replace LB4 := LB4.ext x
  replace LB5 := LB5.ext x
  replace LB6 := LB6.ext x
  replace RB6 := RB6.ext x
  clear x
  clear hHeld
  have hHeld := And.intro LB4 (LB5)
  refine hK.out _ _ hHeld (fun _ => ?_)
  clear hK K
  try simp only [Act.put, List.setIfInBounds_toArray, List.set_cons_zero, List.set_cons_succ]
  refine wpAnyH_ready (rs := [4]) (by kernel_rfl) (by simp) ?_
  refine AllReadyH.cons (o := { dst := some 24, op := Go.Op.call { callee := Go.Callee.value (Go.Operand.func 29), args := #[Go.Operand.tmp 21, Go.Operand.tmp 23], argTypes := #[3, 3] }, type := 60, pos := "arith.go:64", after := #[{ on := 1, ground := Go.Ground.data }, { on := 3, ground := Go.Ground.data }, { on := 3, ground := Go.Ground.chain }], guard := none }) rfl (fun K hK => ?_) (AllReadyH.nil)
  go_simp
  refine (cl _).mono ?_
  rintro e w24 ⟨rfl, x⟩
  have z10 := x.size
  replace E := E.trans x
  replace LB4 := LB4.ext x
  replace LB5 := LB5.ext x
  replace LB6 := LB6.ext x
  replace RB6 := RB6.ext x
  clear x
  clear hHeld
  have hHeld := And.intro LB4 (LB5)
  refine hK.out _ _ hHeld (fun _ => ?_)
  clear hK K
  try simp only [Act.put, List.setIfInBounds_toArray, List.set_cons_zero, List.set_cons_succ]
  refine wpAnyH_take (i := 5) (oi := { dst := some 19, op := Go.Op.move (Go.Operand.tmp 24), type := 60, pos := "arith.go:64", after := #[{ on := 4, ground := Go.Ground.data }], guard := none }) (v := ?v11) rfl (by kernel_rfl) (by kernel_rfl) (by kernel_rfl) (fun _ _ _ h => h) (Or.inl ⟨by rfl, ?hy11⟩) hHeld ?rest11
  case hy11 => (intro w hSw; (try dsimp only at hSw); go_simp; (first | done | with_reducible rfl))
  try simp only [Act.put, List.setIfInBounds_toArray, List.set_cons_zero, List.set_cons_succ]
  refine wpAnyH_take (i := 6) (oi := { dst := some 25, op := Go.Op.extract (Go.Operand.tmp 19) 0, type := 3, pos := "arith.go:64", after := #[{ on := 5, ground := Go.Ground.data }], guard := none }) (v := ?v12) rfl (by kernel_rfl) (by kernel_rfl) (by kernel_rfl) (fun _ _ _ h => h) (Or.inl ⟨by rfl, ?hy12⟩) hHeld ?rest12
  case hy12 => (intro w hSw; (try dsimp only at hSw); go_simp; (first | done | with_reducible rfl))
  try simp only [Act.put, List.setIfInBounds_toArray, List.set_cons_zero, List.set_cons_succ]
  refine wpAnyH_take (i := 7) (oi := { dst := some 26, op := Go.Op.extract (Go.Operand.tmp 19) 1, type := 4, pos := "arith.go:64", after := #[{ on := 5, ground := Go.Ground.data }, { on := 8, ground := Go.Ground.gcOnly Go.Departure.lateStores }], guard := none }) (v := ?v13) rfl (by kernel_rfl) (by kernel_rfl) (by kernel_rfl) (fun _ _ _ h => h) (Or.inl ⟨by rfl, ?hy13⟩) hHeld ?rest13
  case hy13 => (intro w hSw; (try dsimp only at hSw); go_simp; (first | done | with_reducible rfl))
  try simp only [Act.put, List.setIfInBounds_toArray, List.set_cons_zero, List.set_cons_succ]
  refine wpAnyH_take (i := 8) (oi := { dst := some 8, op := Go.Op.assign (Go.Operand.tmp 25), type := 3, pos := "arith.go:64", after := #[{ on := 6, ground := Go.Ground.data }, { on := 4, ground := Go.Ground.chain }, { on := 0, ground := Go.Ground.phase }, { on := 1, ground := Go.Ground.phase }, { on := 2, ground := Go.Ground.phase }, { on := 3, ground := Go.Ground.phase }, { on := 4, ground := Go.Ground.phase }, { on := 5, ground := Go.Ground.phase }, { on := 6, ground := Go.Ground.phase }, { on := 7, ground := Go.Ground.textOnly Go.Departure.lateStores }], guard := none }) (v := ?v14) rfl (by kernel_rfl) (by kernel_rfl) (by kernel_rfl) (fun _ _ _ h => h) (Or.inl ⟨by rfl, ?hy14⟩) hHeld ?rest14
  case hy14 => (intro w hSw; (try dsimp only at hSw); go_simp; (first | done | with_reducible rfl))
  try simp only [Act.put, List.setIfInBounds_toArray, List.set_cons_zero, List.set_cons_succ]
  refine wpAnyH_take (i := 9) (oi := { dst := some 9, op := Go.Op.assign (Go.Operand.tmp 26), type := 4, pos := "arith.go:64", after := #[{ on := 7, ground := Go.Ground.data }, { on := 8, ground := Go.Ground.chain }, { on := 0, ground := Go.Ground.phase }, { on := 1, ground := Go.Ground.phase }, { on := 2, ground := Go.Ground.phase }, { on := 3, ground := Go.Ground.phase }, { on := 4, ground := Go.Ground.phase }, { on := 5, ground := Go.Ground.phase }, { on := 6, ground := Go.Ground.phase }, { on := 7, ground := Go.Ground.phase }, { on := 8, ground := Go.Ground.phase }], guard := none }) (v := ?v15) rfl (by kernel_rfl) (by kernel_rfl) (by kernel_rfl) (fun _ _ _ h => h) (Or.inl ⟨by rfl, ?hy15⟩) hHeld ?rest15
  case hy15 => (intro w hSw; (try dsimp only at hSw); go_simp; (first | done | with_reducible rfl))
  try simp only [Act.put, List.setIfInBounds_toArray, List.set_cons_zero, List.set_cons_succ]
  refine wpAnyH_done (by kernel_rfl) ?_ _
  go_wp2_with (refine loadsV (B := B4) (by rfl) rfl rfl LB4 ?_)
  refine (da _ E).mono ?_
  rintro e w33 ⟨rfl, x⟩
  have z16 := x.size
  replace E := E.trans x
  replace LB4 := LB4.ext x
  replace LB5 := LB5.ext x
  replace LB6 := LB6.ext x
  replace RB6 := RB6.ext x
  clear x
  go_wp2_with (refine loadgV (B := B5) (by rfl) rfl rfl LB5 ?_)
  refine (db _ E).mono ?_
  rintro e w37 ⟨rfl, x⟩
  have z17 := x.size
  replace E := E.trans x
  replace LB4 := LB4.ext x
  replace LB5 := LB5.ext x
  replace LB6 := LB6.ext x
  replace RB6 := RB6.ext x
  clear x
  go_wp2_with (first | (refine loadsV (B := B4) (by rfl) rfl rfl LB4 ?_) | (refine loadsV (B := B5) (by rfl) rfl rfl LB5 ?_))
  clear LB4 LB5
  refine (cw _ E).mono ?_
  rintro e w52 ⟨p, rfl, hq, x⟩
  have NP := hq.now
  have Fp := NP.is.flat
  clear hq
  have z18 := x.size
  replace E := E.trans x
  replace LB6 := LB6.ext x
  replace RB6 := RB6.ext x
  clear x
  have TB10 : True := trivial
  have TG20 : True := trivial
  have TG22 : True := trivial
  go_wp2_with (first | (clear TB10; refine allocsV rfl rfl ?_; intro B10 w10 bB10 cB10 XB10 LB10 RB10; have z19 := XB10.size; replace E := E.trans XB10; replace LB6 := LB6.ext XB10; replace RB6 := RB6.ext XB10; replace NP := NP.ext XB10) | (clear TG20; have hRl := (RB10).lt (Nat.zero_lt_succ _); refine storesV (B := B10) rfl rfl rfl (v := p) rfl RB10 Fp ?_; clear LB10; intro s20 G20 LB10 RQ; have z21 := G20.size; replace E := grown_ext E G20 (by omega); replace LB6 := LB6.grown G20 (by omega); replace RB6 := RB6.grown G20 (by omega); replace NP := NP.grown G20 (by first | omega | (dsimp only [New]; omega)); clear RB10; have RB10 := RQ; clear RQ hRl; clear RB10) | (refine loadsV (B := B10) (by rfl) rfl rfl LB10 ?_) | (clear TG22; have hRl := (RB6).lt (Nat.zero_lt_succ _); refine storesV (B := B6) rfl rfl rfl (v := p) rfl RB6 Fp ?_; clear LB6; intro s22 G22 LB6 RQ; have z23 := G22.size; replace E := grown_ext E G22 (by omega); replace NP := NP.grown G22 (by first | omega | (dsimp only [New]; omega)); replace LB10 := LB10.grown G22 (by omega); clear RB6; have RB6 := RQ; clear RQ hRl; clear RB6))
  refine bodyPost_ret (results_lay2 rfl rfl rfl (ldV LB6)) rfl ?_
  exact ⟨p, rfl, NP.mono (fun i hi h => by dsimp only [New] at *; omega), E⟩
theorem ar_flw (hf : 1 ≤ f ∧ f ≤ 8) (m n : Int) (ca : ∀ w', Ext w w' → Calls Try.prog 47 #[v] w' fun e w2 => e = .returned (.int .i64 m) ∧ Ext w' w2) (cb : ∀ w', Ext w w' → Calls Try.prog 47 #[u] w' fun e w2 => e = .returned (.int .i64 n) ∧ Ext w' w2) (hl : lenOk m n = true) (da : ∀ w', Ext w w' → Calls Try.prog 49 #[v] w' fun e w2 => e = .returned (.int .i64 0) ∧ Ext w' w2) (db : ∀ w', Ext w w' → Calls Try.prog 49 #[u] w' fun e w2 => e = .returned (.int .i64 0) ∧ Ext w' w2) (N : Nat) (hN : lenV m n = (N : Int)) (e4 : (f != 4) = true) (e8 : (f != 8) = true) (cw : ∀ w', Ext w w' → Calls Try.prog 69 #[.int .i64 f, .int .i64 (N : Int), v, u] w' fun e w2 => ∃ p, e = .returned (.tuple #[p, .bool false]) ∧ Flat 8 p ∧ Ext w' w2) (L : List Nat) (cf : ∀ w', Ext w w' → Calls Try.prog 70 #[.int .i64 f, .int .i64 (N : Int), v, u] w' fun e w2 => ∃ p, e = .returned (.tuple #[p, .int .i64 0]) ∧ NumS w2 p (leastL L) L (New w'.heap.size) ∧ Ext w' w2)  (hF : Flat 8 v) (hG : Flat 8 u) :
    Calls Try.prog 38 #[.int .i64 f, v, u] w fun e w' => ∃ p, e = .returned (.tuple #[p, .int .i64 0]) ∧ NumS w' p (leastL L) L (New w.heap.size) ∧ Ext w w' := by
  have E := Ext.refl w
  obtain ⟨h1, h2⟩ := hf
  have cl : ∀ w', Calls Try.prog 29 #[.int .i64 m, .int .i64 n] w' fun e w2 => e = .returned (.tuple #[.int .i64 (lenV m n), .bool true]) ∧ Ext w' w2 := fun w' => (length_any m n w').mono fun e w2 h => ⟨by rw [h.1, hl], h.2 ▸ Ext.refl _⟩
  rw [hN] at cl
  clear hl hN
  go_enter Try.func38, Try.ntmps38
  have TB4 : True := trivial
  have TB5 : True := trivial
  have TB6 : True := trivial
  go_wp2_with (first | (clear TB4; refine boxsV (v := v) rfl rfl rfl hF ?_; intro B4 w4 bB4 cB4 XB4 LB4 RB4; have z1 := XB4.size; replace E := E.trans XB4; clear RB4) | (clear TB5; refine boxsV (v := u) rfl rfl rfl hG ?_; intro B5 w5 bB5 cB5 XB5 LB5 RB5; have z2 := XB5.size; replace E := E.trans XB5; replace LB4 := LB4.ext XB5; clear RB5) | (clear TB6; refine allocsV rfl rfl ?_; intro B6 w6 bB6 cB6 XB6 LB6 RB6; have z3 := XB6.size; replace E := E.trans XB6; replace LB4 := LB4.ext XB6; replace LB5 := LB5.ext XB6))
  try simp only [Act.put, List.setIfInBounds_toArray, List.set_cons_zero, List.set_cons_succ]
  have hq4 : w6.heap.size ≤ w6.drew.heap.size := Nat.le_refl _
  have z5 := (Ext.refl w6).drew.size
  replace E := E.trans (Ext.refl w6).drew
  replace LB4 := LB4.ext (Ext.refl w6).drew
  replace LB5 := LB5.ext (Ext.refl w6).drew
  replace LB6 := LB6.ext (Ext.refl w6).drew
  replace RB6 := RB6.ext (Ext.refl w6).drew
  refine wp_region_held_drew (S := (fun w' => Lay 8 w' B4 v ∧ Lay 8 w' B5 u)) (by kernel_rfl) ⟨LB4, LB5⟩ (fun hHeld => ?_)
  refine wpAnyH_take (i := 0) (oi := { dst := some 20, op := Go.Op.load 41 (Go.Operand.tmp 4), type := 41, pos := "arith.go:64", after := #[], guard := none }) (v := v) rfl (by kernel_rfl) (by kernel_rfl) (by kernel_rfl) (fun _ _ _ h => h) (yieldV (by rfl) rfl rfl fun w' hx => hx.1) hHeld ?_
  try simp only [Act.put, List.setIfInBounds_toArray, List.set_cons_zero, List.set_cons_succ]
  refine wpAnyH_take (i := 2) (oi := { dst := some 22, op := Go.Op.load 41 (Go.Operand.tmp 5), type := 41, pos := "arith.go:64", after := #[], guard := none }) (v := u) rfl (by kernel_rfl) (by kernel_rfl) (by kernel_rfl) (fun _ _ _ h => h) (yieldV (by rfl) rfl rfl fun w' hx => hx.2) hHeld ?_
  try simp only [Act.put, List.setIfInBounds_toArray, List.set_cons_zero, List.set_cons_succ]
  refine wpAnyH_ready (rs := [1]) (by kernel_rfl) (by simp) ?_
  refine AllReadyH.cons (o := { dst := some 21, op := Go.Op.call { callee := Go.Callee.value (Go.Operand.func 47), args := #[Go.Operand.tmp 20], argTypes := #[41] }, type := 3, pos := "arith.go:64", after := #[{ on := 0, ground := Go.Ground.data }], guard := none }) rfl (fun K hK => ?_) (AllReadyH.nil)
  go_simp
  refine (ca _ E).mono ?_
  rintro e w21 ⟨rfl, x⟩
  have z8 := x.size
  replace E := E.trans x
  replace LB4 := LB4.ext x
  replace LB5 := LB5.ext x
  replace LB6 := LB6.ext x
  replace RB6 := RB6.ext x
  clear x
  clear hHeld
  have hHeld := And.intro LB4 (LB5)
  refine hK.out _ _ hHeld (fun _ => ?_)
  clear hK K
  try simp only [Act.put, List.setIfInBounds_toArray, List.set_cons_zero, List.set_cons_succ]
  refine wpAnyH_ready (rs := [3]) (by kernel_rfl) (by simp) ?_
  refine AllReadyH.cons (o := { dst := some 23, op := Go.Op.call { callee := Go.Callee.value (Go.Operand.func 47), args := #[Go.Operand.tmp 22], argTypes := #[41] }, type := 3, pos := "arith.go:64", after := #[{ on := 2, ground := Go.Ground.data }, { on := 1, ground := Go.Ground.chain }], guard := none }) rfl (fun K hK => ?_) (AllReadyH.nil)
  go_simp
  refine (cb _ E).mono ?_
  rintro e w23 ⟨rfl, x⟩
  have z9 := x.size
  replace E := E.trans x
  replace LB4 := LB4.ext x
  replace LB5 := LB5.ext x
  replace LB6 := LB6.ext x
  replace RB6 := RB6.ext x
  clear x
  clear hHeld
  have hHeld := And.intro LB4 (LB5)
  refine hK.out _ _ hHeld (fun _ => ?_)
  clear hK K
  try simp only [Act.put, List.setIfInBounds_toArray, List.set_cons_zero, List.set_cons_succ]
  refine wpAnyH_ready (rs := [4]) (by kernel_rfl) (by simp) ?_
  refine AllReadyH.cons (o := { dst := some 24, op := Go.Op.call { callee := Go.Callee.value (Go.Operand.func 29), args := #[Go.Operand.tmp 21, Go.Operand.tmp 23], argTypes := #[3, 3] }, type := 60, pos := "arith.go:64", after := #[{ on := 1, ground := Go.Ground.data }, { on := 3, ground := Go.Ground.data }, { on := 3, ground := Go.Ground.chain }], guard := none }) rfl (fun K hK => ?_) (AllReadyH.nil)
  go_simp
  refine (cl _).mono ?_
  rintro e w24 ⟨rfl, x⟩
  have z10 := x.size
  replace E := E.trans x
  replace LB4 := LB4.ext x
  replace LB5 := LB5.ext x
  replace LB6 := LB6.ext x
  replace RB6 := RB6.ext x
  clear x
  clear hHeld
  have hHeld := And.intro LB4 (LB5)
  refine hK.out _ _ hHeld (fun _ => ?_)
  clear hK K
  try simp only [Act.put, List.setIfInBounds_toArray, List.set_cons_zero, List.set_cons_succ]
  refine wpAnyH_take (i := 5) (oi := { dst := some 19, op := Go.Op.move (Go.Operand.tmp 24), type := 60, pos := "arith.go:64", after := #[{ on := 4, ground := Go.Ground.data }], guard := none }) (v := ?v11) rfl (by kernel_rfl) (by kernel_rfl) (by kernel_rfl) (fun _ _ _ h => h) (Or.inl ⟨by rfl, ?hy11⟩) hHeld ?rest11
  case hy11 => (intro w hSw; (try dsimp only at hSw); go_simp; (first | done | with_reducible rfl))
  try simp only [Act.put, List.setIfInBounds_toArray, List.set_cons_zero, List.set_cons_succ]
  refine wpAnyH_take (i := 6) (oi := { dst := some 25, op := Go.Op.extract (Go.Operand.tmp 19) 0, type := 3, pos := "arith.go:64", after := #[{ on := 5, ground := Go.Ground.data }], guard := none }) (v := ?v12) rfl (by kernel_rfl) (by kernel_rfl) (by kernel_rfl) (fun _ _ _ h => h) (Or.inl ⟨by rfl, ?hy12⟩) hHeld ?rest12
  case hy12 => (intro w hSw; (try dsimp only at hSw); go_simp; (first | done | with_reducible rfl))
  try simp only [Act.put, List.setIfInBounds_toArray, List.set_cons_zero, List.set_cons_succ]
  refine wpAnyH_take (i := 7) (oi := { dst := some 26, op := Go.Op.extract (Go.Operand.tmp 19) 1, type := 4, pos := "arith.go:64", after := #[{ on := 5, ground := Go.Ground.data }, { on := 8, ground := Go.Ground.gcOnly Go.Departure.lateStores }], guard := none }) (v := ?v13) rfl (by kernel_rfl) (by kernel_rfl) (by kernel_rfl) (fun _ _ _ h => h) (Or.inl ⟨by rfl, ?hy13⟩) hHeld ?rest13
  case hy13 => (intro w hSw; (try dsimp only at hSw); go_simp; (first | done | with_reducible rfl))
  try simp only [Act.put, List.setIfInBounds_toArray, List.set_cons_zero, List.set_cons_succ]
  refine wpAnyH_take (i := 8) (oi := { dst := some 8, op := Go.Op.assign (Go.Operand.tmp 25), type := 3, pos := "arith.go:64", after := #[{ on := 6, ground := Go.Ground.data }, { on := 4, ground := Go.Ground.chain }, { on := 0, ground := Go.Ground.phase }, { on := 1, ground := Go.Ground.phase }, { on := 2, ground := Go.Ground.phase }, { on := 3, ground := Go.Ground.phase }, { on := 4, ground := Go.Ground.phase }, { on := 5, ground := Go.Ground.phase }, { on := 6, ground := Go.Ground.phase }, { on := 7, ground := Go.Ground.textOnly Go.Departure.lateStores }], guard := none }) (v := ?v14) rfl (by kernel_rfl) (by kernel_rfl) (by kernel_rfl) (fun _ _ _ h => h) (Or.inl ⟨by rfl, ?hy14⟩) hHeld ?rest14
  case hy14 => (intro w hSw; (try dsimp only at hSw); go_simp; (first | done | with_reducible rfl))
  try simp only [Act.put, List.setIfInBounds_toArray, List.set_cons_zero, List.set_cons_succ]
  refine wpAnyH_take (i := 9) (oi := { dst := some 9, op := Go.Op.assign (Go.Operand.tmp 26), type := 4, pos := "arith.go:64", after := #[{ on := 7, ground := Go.Ground.data }, { on := 8, ground := Go.Ground.chain }, { on := 0, ground := Go.Ground.phase }, { on := 1, ground := Go.Ground.phase }, { on := 2, ground := Go.Ground.phase }, { on := 3, ground := Go.Ground.phase }, { on := 4, ground := Go.Ground.phase }, { on := 5, ground := Go.Ground.phase }, { on := 6, ground := Go.Ground.phase }, { on := 7, ground := Go.Ground.phase }, { on := 8, ground := Go.Ground.phase }], guard := none }) (v := ?v15) rfl (by kernel_rfl) (by kernel_rfl) (by kernel_rfl) (fun _ _ _ h => h) (Or.inl ⟨by rfl, ?hy15⟩) hHeld ?rest15
  case hy15 => (intro w hSw; (try dsimp only at hSw); go_simp; (first | done | with_reducible rfl))
  try simp only [Act.put, List.setIfInBounds_toArray, List.set_cons_zero, List.set_cons_succ]
  refine wpAnyH_done (by kernel_rfl) ?_ _
  go_wp2_with (refine loadsV (B := B4) (by rfl) rfl rfl LB4 ?_)
  refine (da _ E).mono ?_
  rintro e w33 ⟨rfl, x⟩
  have z16 := x.size
  replace E := E.trans x
  replace LB4 := LB4.ext x
  replace LB5 := LB5.ext x
  replace LB6 := LB6.ext x
  replace RB6 := RB6.ext x
  clear x
  go_wp2_with (refine loadgV (B := B5) (by rfl) rfl rfl LB5 ?_)
  refine (db _ E).mono ?_
  rintro e w37 ⟨rfl, x⟩
  have z17 := x.size
  replace E := E.trans x
  replace LB4 := LB4.ext x
  replace LB5 := LB5.ext x
  replace LB6 := LB6.ext x
  replace RB6 := RB6.ext x
  clear x
  go_wp2_with (first | (refine loadsV (B := B4) (by rfl) rfl rfl LB4 ?_) | (refine loadsV (B := B5) (by rfl) rfl rfl LB5 ?_))
  refine (cw _ E).mono ?_
  rintro e w52 ⟨p0, rfl, Fp0, x⟩
  have z18 := x.size
  replace E := E.trans x
  replace LB4 := LB4.ext x
  replace LB5 := LB5.ext x
  replace LB6 := LB6.ext x
  replace RB6 := RB6.ext x
  clear x
  have TB10 : True := trivial
  have TG20 : True := trivial
  go_wp2_with (first | (clear TB10; refine allocsV rfl rfl ?_; intro B10 w10 bB10 cB10 XB10 LB10 RB10; have z19 := XB10.size; replace E := E.trans XB10; replace LB4 := LB4.ext XB10; replace LB5 := LB5.ext XB10; replace LB6 := LB6.ext XB10; replace RB6 := RB6.ext XB10; clear LB10) | (clear TG20; have hRl := (RB10).lt (Nat.zero_lt_succ _); refine storesV (B := B10) rfl rfl rfl (v := p0) rfl RB10 Fp0 ?_; intro s20 G20 LB10 RQ; have z21 := G20.size; replace E := grown_ext E G20 (by omega); replace LB4 := LB4.grown G20 (by omega); replace LB5 := LB5.grown G20 (by omega); replace LB6 := LB6.grown G20 (by omega); replace RB6 := RB6.grown G20 (by omega); clear RB10; have RB10 := RQ; clear RQ hRl; clear LB10 RB10) | (refine loadsV (B := B4) (by rfl) rfl rfl LB4 ?_) | (refine loadsV (B := B5) (by rfl) rfl rfl LB5 ?_))
  clear LB4 LB5
  refine (cf _ E).mono ?_
  rintro e w61 ⟨p, rfl, hq, x⟩
  have NP := hq.now
  have Fp := NP.is.flat
  clear hq
  have z22 := x.size
  replace E := E.trans x
  replace LB6 := LB6.ext x
  replace RB6 := RB6.ext x
  clear x
  have TG23 : True := trivial
  go_wp2_with (clear TG23; have hRl := (RB6).lt (Nat.zero_lt_succ _); refine storesV (B := B6) rfl rfl rfl (v := p) rfl RB6 Fp ?_; clear LB6; intro s23 G23 LB6 RQ; have z24 := G23.size; replace E := grown_ext E G23 (by omega); replace NP := NP.grown G23 (by first | omega | (dsimp only [New]; omega)); clear RB6; have RB6 := RQ; clear RQ hRl; clear RB6)
  refine bodyPost_ret (results_lay2 rfl rfl rfl (ldV LB6)) rfl ?_
  exact ⟨p, rfl, NP.mono (fun i hi h => by dsimp only [New] at *; omega), E⟩
theorem ar_few (hf : 1 ≤ f ∧ f ≤ 8) (m n : Int) (ca : ∀ w', Ext w w' → Calls Try.prog 47 #[v] w' fun e w2 => e = .returned (.int .i64 m) ∧ Ext w' w2) (cb : ∀ w', Ext w w' → Calls Try.prog 47 #[u] w' fun e w2 => e = .returned (.int .i64 n) ∧ Ext w' w2) (hl : lenOk m n = true) (da : ∀ w', Ext w w' → Calls Try.prog 49 #[v] w' fun e w2 => e = .returned (.int .i64 0) ∧ Ext w' w2) (db : ∀ w', Ext w w' → Calls Try.prog 49 #[u] w' fun e w2 => e = .returned (.int .i64 0) ∧ Ext w' w2) (N : Nat) (hN : lenV m n = (N : Int)) (e4 : (f != 4) = true) (e8 : (f != 8) = true) (cw : ∀ w', Ext w w' → Calls Try.prog 69 #[.int .i64 f, .int .i64 (N : Int), v, u] w' fun e w2 => ∃ p, e = .returned (.tuple #[p, .bool false]) ∧ Flat 8 p ∧ Ext w' w2) (er : Int) (cf : ∀ w', Ext w w' → Calls Try.prog 70 #[.int .i64 f, .int .i64 (N : Int), v, u] w' fun e w2 => e = .returned (.tuple #[zeroVec, .int .i64 er]) ∧ Ext w' w2)  (hF : Flat 8 v) (hG : Flat 8 u) :
    Calls Try.prog 38 #[.int .i64 f, v, u] w fun e w' => e = .returned (.tuple #[zeroVec, .int .i64 er]) ∧ Ext w w' := by
  have E := Ext.refl w
  obtain ⟨h1, h2⟩ := hf
  have cl : ∀ w', Calls Try.prog 29 #[.int .i64 m, .int .i64 n] w' fun e w2 => e = .returned (.tuple #[.int .i64 (lenV m n), .bool true]) ∧ Ext w' w2 := fun w' => (length_any m n w').mono fun e w2 h => ⟨by rw [h.1, hl], h.2 ▸ Ext.refl _⟩
  rw [hN] at cl
  clear hl hN
  go_enter Try.func38, Try.ntmps38
  have TB4 : True := trivial
  have TB5 : True := trivial
  have TB6 : True := trivial
  go_wp2_with (first | (clear TB4; refine boxsV (v := v) rfl rfl rfl hF ?_; intro B4 w4 bB4 cB4 XB4 LB4 RB4; have z1 := XB4.size; replace E := E.trans XB4; clear RB4) | (clear TB5; refine boxsV (v := u) rfl rfl rfl hG ?_; intro B5 w5 bB5 cB5 XB5 LB5 RB5; have z2 := XB5.size; replace E := E.trans XB5; replace LB4 := LB4.ext XB5; clear RB5) | (clear TB6; refine allocsV rfl rfl ?_; intro B6 w6 bB6 cB6 XB6 LB6 RB6; have z3 := XB6.size; replace E := E.trans XB6; replace LB4 := LB4.ext XB6; replace LB5 := LB5.ext XB6))
  try simp only [Act.put, List.setIfInBounds_toArray, List.set_cons_zero, List.set_cons_succ]
  have hq4 : w6.heap.size ≤ w6.drew.heap.size := Nat.le_refl _
  have z5 := (Ext.refl w6).drew.size
  replace E := E.trans (Ext.refl w6).drew
  replace LB4 := LB4.ext (Ext.refl w6).drew
  replace LB5 := LB5.ext (Ext.refl w6).drew
  replace LB6 := LB6.ext (Ext.refl w6).drew
  replace RB6 := RB6.ext (Ext.refl w6).drew
  refine wp_region_held_drew (S := (fun w' => Lay 8 w' B4 v ∧ Lay 8 w' B5 u)) (by kernel_rfl) ⟨LB4, LB5⟩ (fun hHeld => ?_)
  refine wpAnyH_take (i := 0) (oi := { dst := some 20, op := Go.Op.load 41 (Go.Operand.tmp 4), type := 41, pos := "arith.go:64", after := #[], guard := none }) (v := v) rfl (by kernel_rfl) (by kernel_rfl) (by kernel_rfl) (fun _ _ _ h => h) (yieldV (by rfl) rfl rfl fun w' hx => hx.1) hHeld ?_
  try simp only [Act.put, List.setIfInBounds_toArray, List.set_cons_zero, List.set_cons_succ]
  refine wpAnyH_take (i := 2) (oi := { dst := some 22, op := Go.Op.load 41 (Go.Operand.tmp 5), type := 41, pos := "arith.go:64", after := #[], guard := none }) (v := u) rfl (by kernel_rfl) (by kernel_rfl) (by kernel_rfl) (fun _ _ _ h => h) (yieldV (by rfl) rfl rfl fun w' hx => hx.2) hHeld ?_
  try simp only [Act.put, List.setIfInBounds_toArray, List.set_cons_zero, List.set_cons_succ]
  refine wpAnyH_ready (rs := [1]) (by kernel_rfl) (by simp) ?_
  refine AllReadyH.cons (o := { dst := some 21, op := Go.Op.call { callee := Go.Callee.value (Go.Operand.func 47), args := #[Go.Operand.tmp 20], argTypes := #[41] }, type := 3, pos := "arith.go:64", after := #[{ on := 0, ground := Go.Ground.data }], guard := none }) rfl (fun K hK => ?_) (AllReadyH.nil)
  go_simp
  refine (ca _ E).mono ?_
  rintro e w21 ⟨rfl, x⟩
  have z8 := x.size
  replace E := E.trans x
  replace LB4 := LB4.ext x
  replace LB5 := LB5.ext x
  replace LB6 := LB6.ext x
  replace RB6 := RB6.ext x
  clear x
  clear hHeld
  have hHeld := And.intro LB4 (LB5)
  refine hK.out _ _ hHeld (fun _ => ?_)
  clear hK K
  try simp only [Act.put, List.setIfInBounds_toArray, List.set_cons_zero, List.set_cons_succ]
  refine wpAnyH_ready (rs := [3]) (by kernel_rfl) (by simp) ?_
  refine AllReadyH.cons (o := { dst := some 23, op := Go.Op.call { callee := Go.Callee.value (Go.Operand.func 47), args := #[Go.Operand.tmp 22], argTypes := #[41] }, type := 3, pos := "arith.go:64", after := #[{ on := 2, ground := Go.Ground.data }, { on := 1, ground := Go.Ground.chain }], guard := none }) rfl (fun K hK => ?_) (AllReadyH.nil)
  go_simp
  refine (cb _ E).mono ?_
  rintro e w23 ⟨rfl, x⟩
  have z9 := x.size
  replace E := E.trans x
  replace LB4 := LB4.ext x
  replace LB5 := LB5.ext x
  replace LB6 := LB6.ext x
  replace RB6 := RB6.ext x
  clear x
  clear hHeld
  have hHeld := And.intro LB4 (LB5)
  refine hK.out _ _ hHeld (fun _ => ?_)
  clear hK K
  try simp only [Act.put, List.setIfInBounds_toArray, List.set_cons_zero, List.set_cons_succ]
  refine wpAnyH_ready (rs := [4]) (by kernel_rfl) (by simp) ?_
  refine AllReadyH.cons (o := { dst := some 24, op := Go.Op.call { callee := Go.Callee.value (Go.Operand.func 29), args := #[Go.Operand.tmp 21, Go.Operand.tmp 23], argTypes := #[3, 3] }, type := 60, pos := "arith.go:64", after := #[{ on := 1, ground := Go.Ground.data }, { on := 3, ground := Go.Ground.data }, { on := 3, ground := Go.Ground.chain }], guard := none }) rfl (fun K hK => ?_) (AllReadyH.nil)
  go_simp
  refine (cl _).mono ?_
  rintro e w24 ⟨rfl, x⟩
  have z10 := x.size
  replace E := E.trans x
  replace LB4 := LB4.ext x
  replace LB5 := LB5.ext x
  replace LB6 := LB6.ext x
  replace RB6 := RB6.ext x
  clear x
  clear hHeld
  have hHeld := And.intro LB4 (LB5)
  refine hK.out _ _ hHeld (fun _ => ?_)
  clear hK K
  try simp only [Act.put, List.setIfInBounds_toArray, List.set_cons_zero, List.set_cons_succ]
  refine wpAnyH_take (i := 5) (oi := { dst := some 19, op := Go.Op.move (Go.Operand.tmp 24), type := 60, pos := "arith.go:64", after := #[{ on := 4, ground := Go.Ground.data }], guard := none }) (v := ?v11) rfl (by kernel_rfl) (by kernel_rfl) (by kernel_rfl) (fun _ _ _ h => h) (Or.inl ⟨by rfl, ?hy11⟩) hHeld ?rest11
  case hy11 => (intro w hSw; (try dsimp only at hSw); go_simp; (first | done | with_reducible rfl))
  try simp only [Act.put, List.setIfInBounds_toArray, List.set_cons_zero, List.set_cons_succ]
  refine wpAnyH_take (i := 6) (oi := { dst := some 25, op := Go.Op.extract (Go.Operand.tmp 19) 0, type := 3, pos := "arith.go:64", after := #[{ on := 5, ground := Go.Ground.data }], guard := none }) (v := ?v12) rfl (by kernel_rfl) (by kernel_rfl) (by kernel_rfl) (fun _ _ _ h => h) (Or.inl ⟨by rfl, ?hy12⟩) hHeld ?rest12
  case hy12 => (intro w hSw; (try dsimp only at hSw); go_simp; (first | done | with_reducible rfl))
  try simp only [Act.put, List.setIfInBounds_toArray, List.set_cons_zero, List.set_cons_succ]
  refine wpAnyH_take (i := 7) (oi := { dst := some 26, op := Go.Op.extract (Go.Operand.tmp 19) 1, type := 4, pos := "arith.go:64", after := #[{ on := 5, ground := Go.Ground.data }, { on := 8, ground := Go.Ground.gcOnly Go.Departure.lateStores }], guard := none }) (v := ?v13) rfl (by kernel_rfl) (by kernel_rfl) (by kernel_rfl) (fun _ _ _ h => h) (Or.inl ⟨by rfl, ?hy13⟩) hHeld ?rest13
  case hy13 => (intro w hSw; (try dsimp only at hSw); go_simp; (first | done | with_reducible rfl))
  try simp only [Act.put, List.setIfInBounds_toArray, List.set_cons_zero, List.set_cons_succ]
  refine wpAnyH_take (i := 8) (oi := { dst := some 8, op := Go.Op.assign (Go.Operand.tmp 25), type := 3, pos := "arith.go:64", after := #[{ on := 6, ground := Go.Ground.data }, { on := 4, ground := Go.Ground.chain }, { on := 0, ground := Go.Ground.phase }, { on := 1, ground := Go.Ground.phase }, { on := 2, ground := Go.Ground.phase }, { on := 3, ground := Go.Ground.phase }, { on := 4, ground := Go.Ground.phase }, { on := 5, ground := Go.Ground.phase }, { on := 6, ground := Go.Ground.phase }, { on := 7, ground := Go.Ground.textOnly Go.Departure.lateStores }], guard := none }) (v := ?v14) rfl (by kernel_rfl) (by kernel_rfl) (by kernel_rfl) (fun _ _ _ h => h) (Or.inl ⟨by rfl, ?hy14⟩) hHeld ?rest14
  case hy14 => (intro w hSw; (try dsimp only at hSw); go_simp; (first | done | with_reducible rfl))
  try simp only [Act.put, List.setIfInBounds_toArray, List.set_cons_zero, List.set_cons_succ]
  refine wpAnyH_take (i := 9) (oi := { dst := some 9, op := Go.Op.assign (Go.Operand.tmp 26), type := 4, pos := "arith.go:64", after := #[{ on := 7, ground := Go.Ground.data }, { on := 8, ground := Go.Ground.chain }, { on := 0, ground := Go.Ground.phase }, { on := 1, ground := Go.Ground.phase }, { on := 2, ground := Go.Ground.phase }, { on := 3, ground := Go.Ground.phase }, { on := 4, ground := Go.Ground.phase }, { on := 5, ground := Go.Ground.phase }, { on := 6, ground := Go.Ground.phase }, { on := 7, ground := Go.Ground.phase }, { on := 8, ground := Go.Ground.phase }], guard := none }) (v := ?v15) rfl (by kernel_rfl) (by kernel_rfl) (by kernel_rfl) (fun _ _ _ h => h) (Or.inl ⟨by rfl, ?hy15⟩) hHeld ?rest15
  case hy15 => (intro w hSw; (try dsimp only at hSw); go_simp; (first | done | with_reducible rfl))
  try simp only [Act.put, List.setIfInBounds_toArray, List.set_cons_zero, List.set_cons_succ]
  refine wpAnyH_done (by kernel_rfl) ?_ _
  go_wp2_with (refine loadsV (B := B4) (by rfl) rfl rfl LB4 ?_)
  refine (da _ E).mono ?_
  rintro e w33 ⟨rfl, x⟩
  have z16 := x.size
  replace E := E.trans x
  replace LB4 := LB4.ext x
  replace LB5 := LB5.ext x
  replace LB6 := LB6.ext x
  replace RB6 := RB6.ext x
  clear x
  go_wp2_with (refine loadgV (B := B5) (by rfl) rfl rfl LB5 ?_)
  refine (db _ E).mono ?_
  rintro e w37 ⟨rfl, x⟩
  have z17 := x.size
  replace E := E.trans x
  replace LB4 := LB4.ext x
  replace LB5 := LB5.ext x
  replace LB6 := LB6.ext x
  replace RB6 := RB6.ext x
  clear x
  go_wp2_with (first | (refine loadsV (B := B4) (by rfl) rfl rfl LB4 ?_) | (refine loadsV (B := B5) (by rfl) rfl rfl LB5 ?_))
  refine (cw _ E).mono ?_
  rintro e w52 ⟨p0, rfl, Fp0, x⟩
  have z18 := x.size
  replace E := E.trans x
  replace LB4 := LB4.ext x
  replace LB5 := LB5.ext x
  replace LB6 := LB6.ext x
  replace RB6 := RB6.ext x
  clear x
  have TB10 : True := trivial
  have TG20 : True := trivial
  go_wp2_with (first | (clear TB10; refine allocsV rfl rfl ?_; intro B10 w10 bB10 cB10 XB10 LB10 RB10; have z19 := XB10.size; replace E := E.trans XB10; replace LB4 := LB4.ext XB10; replace LB5 := LB5.ext XB10; replace LB6 := LB6.ext XB10; replace RB6 := RB6.ext XB10; clear LB10) | (clear TG20; have hRl := (RB10).lt (Nat.zero_lt_succ _); refine storesV (B := B10) rfl rfl rfl (v := p0) rfl RB10 Fp0 ?_; intro s20 G20 LB10 RQ; have z21 := G20.size; replace E := grown_ext E G20 (by omega); replace LB4 := LB4.grown G20 (by omega); replace LB5 := LB5.grown G20 (by omega); replace LB6 := LB6.grown G20 (by omega); replace RB6 := RB6.grown G20 (by omega); clear RB10; have RB10 := RQ; clear RQ hRl; clear LB10 RB10) | (refine loadsV (B := B4) (by rfl) rfl rfl LB4 ?_) | (refine loadsV (B := B5) (by rfl) rfl rfl LB5 ?_))
  clear LB4 LB5
  refine (cf _ E).mono ?_
  rintro e w61 ⟨rfl, x⟩
  have z22 := x.size
  replace E := E.trans x
  replace LB6 := LB6.ext x
  replace RB6 := RB6.ext x
  clear x
  have TG23 : True := trivial
  go_wp2_with (clear TG23; have hRl := (RB6).lt (Nat.zero_lt_succ _); refine storesV (B := B6) rfl rfl rfl (v := zeroVec) rfl RB6 zeroVec_flat ?_; clear LB6; intro s23 G23 LB6 RQ; have z24 := G23.size; replace E := grown_ext E G23 (by omega); clear RB6; have RB6 := RQ; clear RQ hRl; clear RB6)
  refine bodyPost_ret (results_lay2 rfl rfl rfl (ldV LB6)) rfl ?_
  exact ⟨rfl, E⟩
theorem ar_fl4 (hf : 1 ≤ f ∧ f ≤ 8) (m n : Int) (ca : ∀ w', Ext w w' → Calls Try.prog 47 #[v] w' fun e w2 => e = .returned (.int .i64 m) ∧ Ext w' w2) (cb : ∀ w', Ext w w' → Calls Try.prog 47 #[u] w' fun e w2 => e = .returned (.int .i64 n) ∧ Ext w' w2) (hl : lenOk m n = true) (da : ∀ w', Ext w w' → Calls Try.prog 49 #[v] w' fun e w2 => e = .returned (.int .i64 0) ∧ Ext w' w2) (db : ∀ w', Ext w w' → Calls Try.prog 49 #[u] w' fun e w2 => e = .returned (.int .i64 0) ∧ Ext w' w2) (N : Nat) (hN : lenV m n = (N : Int)) (e4 : (f != 4) = false) (L : List Nat) (cf : ∀ w', Ext w w' → Calls Try.prog 70 #[.int .i64 f, .int .i64 (N : Int), v, u] w' fun e w2 => ∃ p, e = .returned (.tuple #[p, .int .i64 0]) ∧ NumS w2 p (leastL L) L (New w'.heap.size) ∧ Ext w' w2)  (hF : Flat 8 v) (hG : Flat 8 u) :
    Calls Try.prog 38 #[.int .i64 f, v, u] w fun e w' => ∃ p, e = .returned (.tuple #[p, .int .i64 0]) ∧ NumS w' p (leastL L) L (New w.heap.size) ∧ Ext w w' := by
  have E := Ext.refl w
  obtain ⟨h1, h2⟩ := hf
  have cl : ∀ w', Calls Try.prog 29 #[.int .i64 m, .int .i64 n] w' fun e w2 => e = .returned (.tuple #[.int .i64 (lenV m n), .bool true]) ∧ Ext w' w2 := fun w' => (length_any m n w').mono fun e w2 h => ⟨by rw [h.1, hl], h.2 ▸ Ext.refl _⟩
  rw [hN] at cl
  clear hl hN
  go_enter Try.func38, Try.ntmps38
  have TB4 : True := trivial
  have TB5 : True := trivial
  have TB6 : True := trivial
  go_wp2_with (first | (clear TB4; refine boxsV (v := v) rfl rfl rfl hF ?_; intro B4 w4 bB4 cB4 XB4 LB4 RB4; have z1 := XB4.size; replace E := E.trans XB4; clear RB4) | (clear TB5; refine boxsV (v := u) rfl rfl rfl hG ?_; intro B5 w5 bB5 cB5 XB5 LB5 RB5; have z2 := XB5.size; replace E := E.trans XB5; replace LB4 := LB4.ext XB5; clear RB5) | (clear TB6; refine allocsV rfl rfl ?_; intro B6 w6 bB6 cB6 XB6 LB6 RB6; have z3 := XB6.size; replace E := E.trans XB6; replace LB4 := LB4.ext XB6; replace LB5 := LB5.ext XB6))
  try simp only [Act.put, List.setIfInBounds_toArray, List.set_cons_zero, List.set_cons_succ]
  have hq4 : w6.heap.size ≤ w6.drew.heap.size := Nat.le_refl _
  have z5 := (Ext.refl w6).drew.size
  replace E := E.trans (Ext.refl w6).drew
  replace LB4 := LB4.ext (Ext.refl w6).drew
  replace LB5 := LB5.ext (Ext.refl w6).drew
  replace LB6 := LB6.ext (Ext.refl w6).drew
  replace RB6 := RB6.ext (Ext.refl w6).drew
  refine wp_region_held_drew (S := (fun w' => Lay 8 w' B4 v ∧ Lay 8 w' B5 u)) (by kernel_rfl) ⟨LB4, LB5⟩ (fun hHeld => ?_)
  refine wpAnyH_take (i := 0) (oi := { dst := some 20, op := Go.Op.load 41 (Go.Operand.tmp 4), type := 41, pos := "arith.go:64", after := #[], guard := none }) (v := v) rfl (by kernel_rfl) (by kernel_rfl) (by kernel_rfl) (fun _ _ _ h => h) (yieldV (by rfl) rfl rfl fun w' hx => hx.1) hHeld ?_
  try simp only [Act.put, List.setIfInBounds_toArray, List.set_cons_zero, List.set_cons_succ]
  refine wpAnyH_take (i := 2) (oi := { dst := some 22, op := Go.Op.load 41 (Go.Operand.tmp 5), type := 41, pos := "arith.go:64", after := #[], guard := none }) (v := u) rfl (by kernel_rfl) (by kernel_rfl) (by kernel_rfl) (fun _ _ _ h => h) (yieldV (by rfl) rfl rfl fun w' hx => hx.2) hHeld ?_
  try simp only [Act.put, List.setIfInBounds_toArray, List.set_cons_zero, List.set_cons_succ]
  refine wpAnyH_ready (rs := [1]) (by kernel_rfl) (by simp) ?_
  refine AllReadyH.cons (o := { dst := some 21, op := Go.Op.call { callee := Go.Callee.value (Go.Operand.func 47), args := #[Go.Operand.tmp 20], argTypes := #[41] }, type := 3, pos := "arith.go:64", after := #[{ on := 0, ground := Go.Ground.data }], guard := none }) rfl (fun K hK => ?_) (AllReadyH.nil)
  go_simp
  refine (ca _ E).mono ?_
  rintro e w21 ⟨rfl, x⟩
  have z8 := x.size
  replace E := E.trans x
  replace LB4 := LB4.ext x
  replace LB5 := LB5.ext x
  replace LB6 := LB6.ext x
  replace RB6 := RB6.ext x
  clear x
  clear hHeld
  have hHeld := And.intro LB4 (LB5)
  refine hK.out _ _ hHeld (fun _ => ?_)
  clear hK K
  try simp only [Act.put, List.setIfInBounds_toArray, List.set_cons_zero, List.set_cons_succ]
  refine wpAnyH_ready (rs := [3]) (by kernel_rfl) (by simp) ?_
  refine AllReadyH.cons (o := { dst := some 23, op := Go.Op.call { callee := Go.Callee.value (Go.Operand.func 47), args := #[Go.Operand.tmp 22], argTypes := #[41] }, type := 3, pos := "arith.go:64", after := #[{ on := 2, ground := Go.Ground.data }, { on := 1, ground := Go.Ground.chain }], guard := none }) rfl (fun K hK => ?_) (AllReadyH.nil)
  go_simp
  refine (cb _ E).mono ?_
  rintro e w23 ⟨rfl, x⟩
  have z9 := x.size
  replace E := E.trans x
  replace LB4 := LB4.ext x
  replace LB5 := LB5.ext x
  replace LB6 := LB6.ext x
  replace RB6 := RB6.ext x
  clear x
  clear hHeld
  have hHeld := And.intro LB4 (LB5)
  refine hK.out _ _ hHeld (fun _ => ?_)
  clear hK K
  try simp only [Act.put, List.setIfInBounds_toArray, List.set_cons_zero, List.set_cons_succ]
  refine wpAnyH_ready (rs := [4]) (by kernel_rfl) (by simp) ?_
  refine AllReadyH.cons (o := { dst := some 24, op := Go.Op.call { callee := Go.Callee.value (Go.Operand.func 29), args := #[Go.Operand.tmp 21, Go.Operand.tmp 23], argTypes := #[3, 3] }, type := 60, pos := "arith.go:64", after := #[{ on := 1, ground := Go.Ground.data }, { on := 3, ground := Go.Ground.data }, { on := 3, ground := Go.Ground.chain }], guard := none }) rfl (fun K hK => ?_) (AllReadyH.nil)
  go_simp
  refine (cl _).mono ?_
  rintro e w24 ⟨rfl, x⟩
  have z10 := x.size
  replace E := E.trans x
  replace LB4 := LB4.ext x
  replace LB5 := LB5.ext x
  replace LB6 := LB6.ext x
  replace RB6 := RB6.ext x
  clear x
  clear hHeld
  have hHeld := And.intro LB4 (LB5)
  refine hK.out _ _ hHeld (fun _ => ?_)
  clear hK K
  try simp only [Act.put, List.setIfInBounds_toArray, List.set_cons_zero, List.set_cons_succ]
  refine wpAnyH_take (i := 5) (oi := { dst := some 19, op := Go.Op.move (Go.Operand.tmp 24), type := 60, pos := "arith.go:64", after := #[{ on := 4, ground := Go.Ground.data }], guard := none }) (v := ?v11) rfl (by kernel_rfl) (by kernel_rfl) (by kernel_rfl) (fun _ _ _ h => h) (Or.inl ⟨by rfl, ?hy11⟩) hHeld ?rest11
  case hy11 => (intro w hSw; (try dsimp only at hSw); go_simp; (first | done | with_reducible rfl))
  try simp only [Act.put, List.setIfInBounds_toArray, List.set_cons_zero, List.set_cons_succ]
  refine wpAnyH_take (i := 6) (oi := { dst := some 25, op := Go.Op.extract (Go.Operand.tmp 19) 0, type := 3, pos := "arith.go:64", after := #[{ on := 5, ground := Go.Ground.data }], guard := none }) (v := ?v12) rfl (by kernel_rfl) (by kernel_rfl) (by kernel_rfl) (fun _ _ _ h => h) (Or.inl ⟨by rfl, ?hy12⟩) hHeld ?rest12
  case hy12 => (intro w hSw; (try dsimp only at hSw); go_simp; (first | done | with_reducible rfl))
  try simp only [Act.put, List.setIfInBounds_toArray, List.set_cons_zero, List.set_cons_succ]
  refine wpAnyH_take (i := 7) (oi := { dst := some 26, op := Go.Op.extract (Go.Operand.tmp 19) 1, type := 4, pos := "arith.go:64", after := #[{ on := 5, ground := Go.Ground.data }, { on := 8, ground := Go.Ground.gcOnly Go.Departure.lateStores }], guard := none }) (v := ?v13) rfl (by kernel_rfl) (by kernel_rfl) (by kernel_rfl) (fun _ _ _ h => h) (Or.inl ⟨by rfl, ?hy13⟩) hHeld ?rest13
  case hy13 => (intro w hSw; (try dsimp only at hSw); go_simp; (first | done | with_reducible rfl))
  try simp only [Act.put, List.setIfInBounds_toArray, List.set_cons_zero, List.set_cons_succ]
  refine wpAnyH_take (i := 8) (oi := { dst := some 8, op := Go.Op.assign (Go.Operand.tmp 25), type := 3, pos := "arith.go:64", after := #[{ on := 6, ground := Go.Ground.data }, { on := 4, ground := Go.Ground.chain }, { on := 0, ground := Go.Ground.phase }, { on := 1, ground := Go.Ground.phase }, { on := 2, ground := Go.Ground.phase }, { on := 3, ground := Go.Ground.phase }, { on := 4, ground := Go.Ground.phase }, { on := 5, ground := Go.Ground.phase }, { on := 6, ground := Go.Ground.phase }, { on := 7, ground := Go.Ground.textOnly Go.Departure.lateStores }], guard := none }) (v := ?v14) rfl (by kernel_rfl) (by kernel_rfl) (by kernel_rfl) (fun _ _ _ h => h) (Or.inl ⟨by rfl, ?hy14⟩) hHeld ?rest14
  case hy14 => (intro w hSw; (try dsimp only at hSw); go_simp; (first | done | with_reducible rfl))
  try simp only [Act.put, List.setIfInBounds_toArray, List.set_cons_zero, List.set_cons_succ]
  refine wpAnyH_take (i := 9) (oi := { dst := some 9, op := Go.Op.assign (Go.Operand.tmp 26), type := 4, pos := "arith.go:64", after := #[{ on := 7, ground := Go.Ground.data }, { on := 8, ground := Go.Ground.chain }, { on := 0, ground := Go.Ground.phase }, { on := 1, ground := Go.Ground.phase }, { on := 2, ground := Go.Ground.phase }, { on := 3, ground := Go.Ground.phase }, { on := 4, ground := Go.Ground.phase }, { on := 5, ground := Go.Ground.phase }, { on := 6, ground := Go.Ground.phase }, { on := 7, ground := Go.Ground.phase }, { on := 8, ground := Go.Ground.phase }], guard := none }) (v := ?v15) rfl (by kernel_rfl) (by kernel_rfl) (by kernel_rfl) (fun _ _ _ h => h) (Or.inl ⟨by rfl, ?hy15⟩) hHeld ?rest15
  case hy15 => (intro w hSw; (try dsimp only at hSw); go_simp; (first | done | with_reducible rfl))
  try simp only [Act.put, List.setIfInBounds_toArray, List.set_cons_zero, List.set_cons_succ]
  refine wpAnyH_done (by kernel_rfl) ?_ _
  go_wp2_with (refine loadsV (B := B4) (by rfl) rfl rfl LB4 ?_)
  refine (da _ E).mono ?_
  rintro e w33 ⟨rfl, x⟩
  have z16 := x.size
  replace E := E.trans x
  replace LB4 := LB4.ext x
  replace LB5 := LB5.ext x
  replace LB6 := LB6.ext x
  replace RB6 := RB6.ext x
  clear x
  go_wp2_with (refine loadgV (B := B5) (by rfl) rfl rfl LB5 ?_)
  refine (db _ E).mono ?_
  rintro e w37 ⟨rfl, x⟩
  have z17 := x.size
  replace E := E.trans x
  replace LB4 := LB4.ext x
  replace LB5 := LB5.ext x
  replace LB6 := LB6.ext x
  replace RB6 := RB6.ext x
  clear x
  go_wp2_with (first | (refine loadsV (B := B4) (by rfl) rfl rfl LB4 ?_) | (refine loadsV (B := B5) (by rfl) rfl rfl LB5 ?_))
  clear LB4 LB5
  refine (cf _ E).mono ?_
  rintro e w61 ⟨p, rfl, hq, x⟩
  have NP := hq.now
  have Fp := NP.is.flat
  clear hq
  have z18 := x.size
  replace E := E.trans x
  replace LB6 := LB6.ext x
  replace RB6 := RB6.ext x
  clear x
  have TG19 : True := trivial
  go_wp2_with (clear TG19; have hRl := (RB6).lt (Nat.zero_lt_succ _); refine storesV (B := B6) rfl rfl rfl (v := p) rfl RB6 Fp ?_; clear LB6; intro s19 G19 LB6 RQ; have z20 := G19.size; replace E := grown_ext E G19 (by omega); replace NP := NP.grown G19 (by first | omega | (dsimp only [New]; omega)); clear RB6; have RB6 := RQ; clear RQ hRl; clear RB6)
  refine bodyPost_ret (results_lay2 rfl rfl rfl (ldV LB6)) rfl ?_
  exact ⟨p, rfl, NP.mono (fun i hi h => by dsimp only [New] at *; omega), E⟩
theorem ar_fe4 (hf : 1 ≤ f ∧ f ≤ 8) (m n : Int) (ca : ∀ w', Ext w w' → Calls Try.prog 47 #[v] w' fun e w2 => e = .returned (.int .i64 m) ∧ Ext w' w2) (cb : ∀ w', Ext w w' → Calls Try.prog 47 #[u] w' fun e w2 => e = .returned (.int .i64 n) ∧ Ext w' w2) (hl : lenOk m n = true) (da : ∀ w', Ext w w' → Calls Try.prog 49 #[v] w' fun e w2 => e = .returned (.int .i64 0) ∧ Ext w' w2) (db : ∀ w', Ext w w' → Calls Try.prog 49 #[u] w' fun e w2 => e = .returned (.int .i64 0) ∧ Ext w' w2) (N : Nat) (hN : lenV m n = (N : Int)) (e4 : (f != 4) = false) (er : Int) (cf : ∀ w', Ext w w' → Calls Try.prog 70 #[.int .i64 f, .int .i64 (N : Int), v, u] w' fun e w2 => e = .returned (.tuple #[zeroVec, .int .i64 er]) ∧ Ext w' w2)  (hF : Flat 8 v) (hG : Flat 8 u) :
    Calls Try.prog 38 #[.int .i64 f, v, u] w fun e w' => e = .returned (.tuple #[zeroVec, .int .i64 er]) ∧ Ext w w' := by
  have E := Ext.refl w
  obtain ⟨h1, h2⟩ := hf
  have cl : ∀ w', Calls Try.prog 29 #[.int .i64 m, .int .i64 n] w' fun e w2 => e = .returned (.tuple #[.int .i64 (lenV m n), .bool true]) ∧ Ext w' w2 := fun w' => (length_any m n w').mono fun e w2 h => ⟨by rw [h.1, hl], h.2 ▸ Ext.refl _⟩
  rw [hN] at cl
  clear hl hN
  go_enter Try.func38, Try.ntmps38
  have TB4 : True := trivial
  have TB5 : True := trivial
  have TB6 : True := trivial
  go_wp2_with (first | (clear TB4; refine boxsV (v := v) rfl rfl rfl hF ?_; intro B4 w4 bB4 cB4 XB4 LB4 RB4; have z1 := XB4.size; replace E := E.trans XB4; clear RB4) | (clear TB5; refine boxsV (v := u) rfl rfl rfl hG ?_; intro B5 w5 bB5 cB5 XB5 LB5 RB5; have z2 := XB5.size; replace E := E.trans XB5; replace LB4 := LB4.ext XB5; clear RB5) | (clear TB6; refine allocsV rfl rfl ?_; intro B6 w6 bB6 cB6 XB6 LB6 RB6; have z3 := XB6.size; replace E := E.trans XB6; replace LB4 := LB4.ext XB6; replace LB5 := LB5.ext XB6))
  try simp only [Act.put, List.setIfInBounds_toArray, List.set_cons_zero, List.set_cons_succ]
  have hq4 : w6.heap.size ≤ w6.drew.heap.size := Nat.le_refl _
  have z5 := (Ext.refl w6).drew.size
  replace E := E.trans (Ext.refl w6).drew
  replace LB4 := LB4.ext (Ext.refl w6).drew
  replace LB5 := LB5.ext (Ext.refl w6).drew
  replace LB6 := LB6.ext (Ext.refl w6).drew
  replace RB6 := RB6.ext (Ext.refl w6).drew
  refine wp_region_held_drew (S := (fun w' => Lay 8 w' B4 v ∧ Lay 8 w' B5 u)) (by kernel_rfl) ⟨LB4, LB5⟩ (fun hHeld => ?_)
  refine wpAnyH_take (i := 0) (oi := { dst := some 20, op := Go.Op.load 41 (Go.Operand.tmp 4), type := 41, pos := "arith.go:64", after := #[], guard := none }) (v := v) rfl (by kernel_rfl) (by kernel_rfl) (by kernel_rfl) (fun _ _ _ h => h) (yieldV (by rfl) rfl rfl fun w' hx => hx.1) hHeld ?_
  try simp only [Act.put, List.setIfInBounds_toArray, List.set_cons_zero, List.set_cons_succ]
  refine wpAnyH_take (i := 2) (oi := { dst := some 22, op := Go.Op.load 41 (Go.Operand.tmp 5), type := 41, pos := "arith.go:64", after := #[], guard := none }) (v := u) rfl (by kernel_rfl) (by kernel_rfl) (by kernel_rfl) (fun _ _ _ h => h) (yieldV (by rfl) rfl rfl fun w' hx => hx.2) hHeld ?_
  try simp only [Act.put, List.setIfInBounds_toArray, List.set_cons_zero, List.set_cons_succ]
  refine wpAnyH_ready (rs := [1]) (by kernel_rfl) (by simp) ?_
  refine AllReadyH.cons (o := { dst := some 21, op := Go.Op.call { callee := Go.Callee.value (Go.Operand.func 47), args := #[Go.Operand.tmp 20], argTypes := #[41] }, type := 3, pos := "arith.go:64", after := #[{ on := 0, ground := Go.Ground.data }], guard := none }) rfl (fun K hK => ?_) (AllReadyH.nil)
  go_simp
  refine (ca _ E).mono ?_
  rintro e w21 ⟨rfl, x⟩
  have z8 := x.size
  replace E := E.trans x
  replace LB4 := LB4.ext x
  replace LB5 := LB5.ext x
  replace LB6 := LB6.ext x
  replace RB6 := RB6.ext x
  clear x
  clear hHeld
  have hHeld := And.intro LB4 (LB5)
  refine hK.out _ _ hHeld (fun _ => ?_)
  clear hK K
  try simp only [Act.put, List.setIfInBounds_toArray, List.set_cons_zero, List.set_cons_succ]
  refine wpAnyH_ready (rs := [3]) (by kernel_rfl) (by simp) ?_
  refine AllReadyH.cons (o := { dst := some 23, op := Go.Op.call { callee := Go.Callee.value (Go.Operand.func 47), args := #[Go.Operand.tmp 22], argTypes := #[41] }, type := 3, pos := "arith.go:64", after := #[{ on := 2, ground := Go.Ground.data }, { on := 1, ground := Go.Ground.chain }], guard := none }) rfl (fun K hK => ?_) (AllReadyH.nil)
  go_simp
  refine (cb _ E).mono ?_
  rintro e w23 ⟨rfl, x⟩
  have z9 := x.size
  replace E := E.trans x
  replace LB4 := LB4.ext x
  replace LB5 := LB5.ext x
  replace LB6 := LB6.ext x
  replace RB6 := RB6.ext x
  clear x
  clear hHeld
  have hHeld := And.intro LB4 (LB5)
  refine hK.out _ _ hHeld (fun _ => ?_)
  clear hK K
  try simp only [Act.put, List.setIfInBounds_toArray, List.set_cons_zero, List.set_cons_succ]
  refine wpAnyH_ready (rs := [4]) (by kernel_rfl) (by simp) ?_
  refine AllReadyH.cons (o := { dst := some 24, op := Go.Op.call { callee := Go.Callee.value (Go.Operand.func 29), args := #[Go.Operand.tmp 21, Go.Operand.tmp 23], argTypes := #[3, 3] }, type := 60, pos := "arith.go:64", after := #[{ on := 1, ground := Go.Ground.data }, { on := 3, ground := Go.Ground.data }, { on := 3, ground := Go.Ground.chain }], guard := none }) rfl (fun K hK => ?_) (AllReadyH.nil)
  go_simp
  refine (cl _).mono ?_
  rintro e w24 ⟨rfl, x⟩
  have z10 := x.size
  replace E := E.trans x
  replace LB4 := LB4.ext x
  replace LB5 := LB5.ext x
  replace LB6 := LB6.ext x
  replace RB6 := RB6.ext x
  clear x
  clear hHeld
  have hHeld := And.intro LB4 (LB5)
  refine hK.out _ _ hHeld (fun _ => ?_)
  clear hK K
  try simp only [Act.put, List.setIfInBounds_toArray, List.set_cons_zero, List.set_cons_succ]
  refine wpAnyH_take (i := 5) (oi := { dst := some 19, op := Go.Op.move (Go.Operand.tmp 24), type := 60, pos := "arith.go:64", after := #[{ on := 4, ground := Go.Ground.data }], guard := none }) (v := ?v11) rfl (by kernel_rfl) (by kernel_rfl) (by kernel_rfl) (fun _ _ _ h => h) (Or.inl ⟨by rfl, ?hy11⟩) hHeld ?rest11
  case hy11 => (intro w hSw; (try dsimp only at hSw); go_simp; (first | done | with_reducible rfl))
  try simp only [Act.put, List.setIfInBounds_toArray, List.set_cons_zero, List.set_cons_succ]
  refine wpAnyH_take (i := 6) (oi := { dst := some 25, op := Go.Op.extract (Go.Operand.tmp 19) 0, type := 3, pos := "arith.go:64", after := #[{ on := 5, ground := Go.Ground.data }], guard := none }) (v := ?v12) rfl (by kernel_rfl) (by kernel_rfl) (by kernel_rfl) (fun _ _ _ h => h) (Or.inl ⟨by rfl, ?hy12⟩) hHeld ?rest12
  case hy12 => (intro w hSw; (try dsimp only at hSw); go_simp; (first | done | with_reducible rfl))
  try simp only [Act.put, List.setIfInBounds_toArray, List.set_cons_zero, List.set_cons_succ]
  refine wpAnyH_take (i := 7) (oi := { dst := some 26, op := Go.Op.extract (Go.Operand.tmp 19) 1, type := 4, pos := "arith.go:64", after := #[{ on := 5, ground := Go.Ground.data }, { on := 8, ground := Go.Ground.gcOnly Go.Departure.lateStores }], guard := none }) (v := ?v13) rfl (by kernel_rfl) (by kernel_rfl) (by kernel_rfl) (fun _ _ _ h => h) (Or.inl ⟨by rfl, ?hy13⟩) hHeld ?rest13
  case hy13 => (intro w hSw; (try dsimp only at hSw); go_simp; (first | done | with_reducible rfl))
  try simp only [Act.put, List.setIfInBounds_toArray, List.set_cons_zero, List.set_cons_succ]
  refine wpAnyH_take (i := 8) (oi := { dst := some 8, op := Go.Op.assign (Go.Operand.tmp 25), type := 3, pos := "arith.go:64", after := #[{ on := 6, ground := Go.Ground.data }, { on := 4, ground := Go.Ground.chain }, { on := 0, ground := Go.Ground.phase }, { on := 1, ground := Go.Ground.phase }, { on := 2, ground := Go.Ground.phase }, { on := 3, ground := Go.Ground.phase }, { on := 4, ground := Go.Ground.phase }, { on := 5, ground := Go.Ground.phase }, { on := 6, ground := Go.Ground.phase }, { on := 7, ground := Go.Ground.textOnly Go.Departure.lateStores }], guard := none }) (v := ?v14) rfl (by kernel_rfl) (by kernel_rfl) (by kernel_rfl) (fun _ _ _ h => h) (Or.inl ⟨by rfl, ?hy14⟩) hHeld ?rest14
  case hy14 => (intro w hSw; (try dsimp only at hSw); go_simp; (first | done | with_reducible rfl))
  try simp only [Act.put, List.setIfInBounds_toArray, List.set_cons_zero, List.set_cons_succ]
  refine wpAnyH_take (i := 9) (oi := { dst := some 9, op := Go.Op.assign (Go.Operand.tmp 26), type := 4, pos := "arith.go:64", after := #[{ on := 7, ground := Go.Ground.data }, { on := 8, ground := Go.Ground.chain }, { on := 0, ground := Go.Ground.phase }, { on := 1, ground := Go.Ground.phase }, { on := 2, ground := Go.Ground.phase }, { on := 3, ground := Go.Ground.phase }, { on := 4, ground := Go.Ground.phase }, { on := 5, ground := Go.Ground.phase }, { on := 6, ground := Go.Ground.phase }, { on := 7, ground := Go.Ground.phase }, { on := 8, ground := Go.Ground.phase }], guard := none }) (v := ?v15) rfl (by kernel_rfl) (by kernel_rfl) (by kernel_rfl) (fun _ _ _ h => h) (Or.inl ⟨by rfl, ?hy15⟩) hHeld ?rest15
  case hy15 => (intro w hSw; (try dsimp only at hSw); go_simp; (first | done | with_reducible rfl))
  try simp only [Act.put, List.setIfInBounds_toArray, List.set_cons_zero, List.set_cons_succ]
  refine wpAnyH_done (by kernel_rfl) ?_ _
  go_wp2_with (refine loadsV (B := B4) (by rfl) rfl rfl LB4 ?_)
  refine (da _ E).mono ?_
  rintro e w33 ⟨rfl, x⟩
  have z16 := x.size
  replace E := E.trans x
  replace LB4 := LB4.ext x
  replace LB5 := LB5.ext x
  replace LB6 := LB6.ext x
  replace RB6 := RB6.ext x
  clear x
  go_wp2_with (refine loadgV (B := B5) (by rfl) rfl rfl LB5 ?_)
  refine (db _ E).mono ?_
  rintro e w37 ⟨rfl, x⟩
  have z17 := x.size
  replace E := E.trans x
  replace LB4 := LB4.ext x
  replace LB5 := LB5.ext x
  replace LB6 := LB6.ext x
  replace RB6 := RB6.ext x
  clear x
  go_wp2_with (first | (refine loadsV (B := B4) (by rfl) rfl rfl LB4 ?_) | (refine loadsV (B := B5) (by rfl) rfl rfl LB5 ?_))
  clear LB4 LB5
  refine (cf _ E).mono ?_
  rintro e w61 ⟨rfl, x⟩
  have z18 := x.size
  replace E := E.trans x
  replace LB6 := LB6.ext x
  replace RB6 := RB6.ext x
  clear x
  have TG19 : True := trivial
  go_wp2_with (clear TG19; have hRl := (RB6).lt (Nat.zero_lt_succ _); refine storesV (B := B6) rfl rfl rfl (v := zeroVec) rfl RB6 zeroVec_flat ?_; clear LB6; intro s19 G19 LB6 RQ; have z20 := G19.size; replace E := grown_ext E G19 (by omega); clear RB6; have RB6 := RQ; clear RQ hRl; clear RB6)
  refine bodyPost_ret (results_lay2 rfl rfl rfl (ldV LB6)) rfl ?_
  exact ⟨rfl, E⟩
theorem ar_fl8 (hf : 1 ≤ f ∧ f ≤ 8) (m n : Int) (ca : ∀ w', Ext w w' → Calls Try.prog 47 #[v] w' fun e w2 => e = .returned (.int .i64 m) ∧ Ext w' w2) (cb : ∀ w', Ext w w' → Calls Try.prog 47 #[u] w' fun e w2 => e = .returned (.int .i64 n) ∧ Ext w' w2) (hl : lenOk m n = true) (da : ∀ w', Ext w w' → Calls Try.prog 49 #[v] w' fun e w2 => e = .returned (.int .i64 0) ∧ Ext w' w2) (db : ∀ w', Ext w w' → Calls Try.prog 49 #[u] w' fun e w2 => e = .returned (.int .i64 0) ∧ Ext w' w2) (N : Nat) (hN : lenV m n = (N : Int)) (e4 : (f != 4) = true) (e8 : (f != 8) = false) (L : List Nat) (cf : ∀ w', Ext w w' → Calls Try.prog 70 #[.int .i64 f, .int .i64 (N : Int), v, u] w' fun e w2 => ∃ p, e = .returned (.tuple #[p, .int .i64 0]) ∧ NumS w2 p (leastL L) L (New w'.heap.size) ∧ Ext w' w2)  (hF : Flat 8 v) (hG : Flat 8 u) :
    Calls Try.prog 38 #[.int .i64 f, v, u] w fun e w' => ∃ p, e = .returned (.tuple #[p, .int .i64 0]) ∧ NumS w' p (leastL L) L (New w.heap.size) ∧ Ext w w' := by
  have E := Ext.refl w
  obtain ⟨h1, h2⟩ := hf
  have cl : ∀ w', Calls Try.prog 29 #[.int .i64 m, .int .i64 n] w' fun e w2 => e = .returned (.tuple #[.int .i64 (lenV m n), .bool true]) ∧ Ext w' w2 := fun w' => (length_any m n w').mono fun e w2 h => ⟨by rw [h.1, hl], h.2 ▸ Ext.refl _⟩
  rw [hN] at cl
  clear hl hN
  go_enter Try.func38, Try.ntmps38
  have TB4 : True := trivial
  have TB5 : True := trivial
  have TB6 : True := trivial
  go_wp2_with (first | (clear TB4; refine boxsV (v := v) rfl rfl rfl hF ?_; intro B4 w4 bB4 cB4 XB4 LB4 RB4; have z1 := XB4.size; replace E := E.trans XB4; clear RB4) | (clear TB5; refine boxsV (v := u) rfl rfl rfl hG ?_; intro B5 w5 bB5 cB5 XB5 LB5 RB5; have z2 := XB5.size; replace E := E.trans XB5; replace LB4 := LB4.ext XB5; clear RB5) | (clear TB6; refine allocsV rfl rfl ?_; intro B6 w6 bB6 cB6 XB6 LB6 RB6; have z3 := XB6.size; replace E := E.trans XB6; replace LB4 := LB4.ext XB6; replace LB5 := LB5.ext XB6))
  try simp only [Act.put, List.setIfInBounds_toArray, List.set_cons_zero, List.set_cons_succ]
  have hq4 : w6.heap.size ≤ w6.drew.heap.size := Nat.le_refl _
  have z5 := (Ext.refl w6).drew.size
  replace E := E.trans (Ext.refl w6).drew
  replace LB4 := LB4.ext (Ext.refl w6).drew
  replace LB5 := LB5.ext (Ext.refl w6).drew
  replace LB6 := LB6.ext (Ext.refl w6).drew
  replace RB6 := RB6.ext (Ext.refl w6).drew
  refine wp_region_held_drew (S := (fun w' => Lay 8 w' B4 v ∧ Lay 8 w' B5 u)) (by kernel_rfl) ⟨LB4, LB5⟩ (fun hHeld => ?_)
  refine wpAnyH_take (i := 0) (oi := { dst := some 20, op := Go.Op.load 41 (Go.Operand.tmp 4), type := 41, pos := "arith.go:64", after := #[], guard := none }) (v := v) rfl (by kernel_rfl) (by kernel_rfl) (by kernel_rfl) (fun _ _ _ h => h) (yieldV (by rfl) rfl rfl fun w' hx => hx.1) hHeld ?_
  try simp only [Act.put, List.setIfInBounds_toArray, List.set_cons_zero, List.set_cons_succ]
  refine wpAnyH_take (i := 2) (oi := { dst := some 22, op := Go.Op.load 41 (Go.Operand.tmp 5), type := 41, pos := "arith.go:64", after := #[], guard := none }) (v := u) rfl (by kernel_rfl) (by kernel_rfl) (by kernel_rfl) (fun _ _ _ h => h) (yieldV (by rfl) rfl rfl fun w' hx => hx.2) hHeld ?_
  try simp only [Act.put, List.setIfInBounds_toArray, List.set_cons_zero, List.set_cons_succ]
  refine wpAnyH_ready (rs := [1]) (by kernel_rfl) (by simp) ?_
  refine AllReadyH.cons (o := { dst := some 21, op := Go.Op.call { callee := Go.Callee.value (Go.Operand.func 47), args := #[Go.Operand.tmp 20], argTypes := #[41] }, type := 3, pos := "arith.go:64", after := #[{ on := 0, ground := Go.Ground.data }], guard := none }) rfl (fun K hK => ?_) (AllReadyH.nil)
  go_simp
  refine (ca _ E).mono ?_
  rintro e w21 ⟨rfl, x⟩
  have z8 := x.size
  replace E := E.trans x
  replace LB4 := LB4.ext x
  replace LB5 := LB5.ext x
  replace LB6 := LB6.ext x
  replace RB6 := RB6.ext x
  clear x
  clear hHeld
  have hHeld := And.intro LB4 (LB5)
  refine hK.out _ _ hHeld (fun _ => ?_)
  clear hK K
  try simp only [Act.put, List.setIfInBounds_toArray, List.set_cons_zero, List.set_cons_succ]
  refine wpAnyH_ready (rs := [3]) (by kernel_rfl) (by simp) ?_
  refine AllReadyH.cons (o := { dst := some 23, op := Go.Op.call { callee := Go.Callee.value (Go.Operand.func 47), args := #[Go.Operand.tmp 22], argTypes := #[41] }, type := 3, pos := "arith.go:64", after := #[{ on := 2, ground := Go.Ground.data }, { on := 1, ground := Go.Ground.chain }], guard := none }) rfl (fun K hK => ?_) (AllReadyH.nil)
  go_simp
  refine (cb _ E).mono ?_
  rintro e w23 ⟨rfl, x⟩
  have z9 := x.size
  replace E := E.trans x
  replace LB4 := LB4.ext x
  replace LB5 := LB5.ext x
  replace LB6 := LB6.ext x
  replace RB6 := RB6.ext x
  clear x
  clear hHeld
  have hHeld := And.intro LB4 (LB5)
  refine hK.out _ _ hHeld (fun _ => ?_)
  clear hK K
  try simp only [Act.put, List.setIfInBounds_toArray, List.set_cons_zero, List.set_cons_succ]
  refine wpAnyH_ready (rs := [4]) (by kernel_rfl) (by simp) ?_
  refine AllReadyH.cons (o := { dst := some 24, op := Go.Op.call { callee := Go.Callee.value (Go.Operand.func 29), args := #[Go.Operand.tmp 21, Go.Operand.tmp 23], argTypes := #[3, 3] }, type := 60, pos := "arith.go:64", after := #[{ on := 1, ground := Go.Ground.data }, { on := 3, ground := Go.Ground.data }, { on := 3, ground := Go.Ground.chain }], guard := none }) rfl (fun K hK => ?_) (AllReadyH.nil)
  go_simp
  refine (cl _).mono ?_
  rintro e w24 ⟨rfl, x⟩
  have z10 := x.size
  replace E := E.trans x
  replace LB4 := LB4.ext x
  replace LB5 := LB5.ext x
  replace LB6 := LB6.ext x
  replace RB6 := RB6.ext x
  clear x
  clear hHeld
  have hHeld := And.intro LB4 (LB5)
  refine hK.out _ _ hHeld (fun _ => ?_)
  clear hK K
  try simp only [Act.put, List.setIfInBounds_toArray, List.set_cons_zero, List.set_cons_succ]
  refine wpAnyH_take (i := 5) (oi := { dst := some 19, op := Go.Op.move (Go.Operand.tmp 24), type := 60, pos := "arith.go:64", after := #[{ on := 4, ground := Go.Ground.data }], guard := none }) (v := ?v11) rfl (by kernel_rfl) (by kernel_rfl) (by kernel_rfl) (fun _ _ _ h => h) (Or.inl ⟨by rfl, ?hy11⟩) hHeld ?rest11
  case hy11 => (intro w hSw; (try dsimp only at hSw); go_simp; (first | done | with_reducible rfl))
  try simp only [Act.put, List.setIfInBounds_toArray, List.set_cons_zero, List.set_cons_succ]
  refine wpAnyH_take (i := 6) (oi := { dst := some 25, op := Go.Op.extract (Go.Operand.tmp 19) 0, type := 3, pos := "arith.go:64", after := #[{ on := 5, ground := Go.Ground.data }], guard := none }) (v := ?v12) rfl (by kernel_rfl) (by kernel_rfl) (by kernel_rfl) (fun _ _ _ h => h) (Or.inl ⟨by rfl, ?hy12⟩) hHeld ?rest12
  case hy12 => (intro w hSw; (try dsimp only at hSw); go_simp; (first | done | with_reducible rfl))
  try simp only [Act.put, List.setIfInBounds_toArray, List.set_cons_zero, List.set_cons_succ]
  refine wpAnyH_take (i := 7) (oi := { dst := some 26, op := Go.Op.extract (Go.Operand.tmp 19) 1, type := 4, pos := "arith.go:64", after := #[{ on := 5, ground := Go.Ground.data }, { on := 8, ground := Go.Ground.gcOnly Go.Departure.lateStores }], guard := none }) (v := ?v13) rfl (by kernel_rfl) (by kernel_rfl) (by kernel_rfl) (fun _ _ _ h => h) (Or.inl ⟨by rfl, ?hy13⟩) hHeld ?rest13
  case hy13 => (intro w hSw; (try dsimp only at hSw); go_simp; (first | done | with_reducible rfl))
  try simp only [Act.put, List.setIfInBounds_toArray, List.set_cons_zero, List.set_cons_succ]
  refine wpAnyH_take (i := 8) (oi := { dst := some 8, op := Go.Op.assign (Go.Operand.tmp 25), type := 3, pos := "arith.go:64", after := #[{ on := 6, ground := Go.Ground.data }, { on := 4, ground := Go.Ground.chain }, { on := 0, ground := Go.Ground.phase }, { on := 1, ground := Go.Ground.phase }, { on := 2, ground := Go.Ground.phase }, { on := 3, ground := Go.Ground.phase }, { on := 4, ground := Go.Ground.phase }, { on := 5, ground := Go.Ground.phase }, { on := 6, ground := Go.Ground.phase }, { on := 7, ground := Go.Ground.textOnly Go.Departure.lateStores }], guard := none }) (v := ?v14) rfl (by kernel_rfl) (by kernel_rfl) (by kernel_rfl) (fun _ _ _ h => h) (Or.inl ⟨by rfl, ?hy14⟩) hHeld ?rest14
  case hy14 => (intro w hSw; (try dsimp only at hSw); go_simp; (first | done | with_reducible rfl))
  try simp only [Act.put, List.setIfInBounds_toArray, List.set_cons_zero, List.set_cons_succ]
  refine wpAnyH_take (i := 9) (oi := { dst := some 9, op := Go.Op.assign (Go.Operand.tmp 26), type := 4, pos := "arith.go:64", after := #[{ on := 7, ground := Go.Ground.data }, { on := 8, ground := Go.Ground.chain }, { on := 0, ground := Go.Ground.phase }, { on := 1, ground := Go.Ground.phase }, { on := 2, ground := Go.Ground.phase }, { on := 3, ground := Go.Ground.phase }, { on := 4, ground := Go.Ground.phase }, { on := 5, ground := Go.Ground.phase }, { on := 6, ground := Go.Ground.phase }, { on := 7, ground := Go.Ground.phase }, { on := 8, ground := Go.Ground.phase }], guard := none }) (v := ?v15) rfl (by kernel_rfl) (by kernel_rfl) (by kernel_rfl) (fun _ _ _ h => h) (Or.inl ⟨by rfl, ?hy15⟩) hHeld ?rest15
  case hy15 => (intro w hSw; (try dsimp only at hSw); go_simp; (first | done | with_reducible rfl))
  try simp only [Act.put, List.setIfInBounds_toArray, List.set_cons_zero, List.set_cons_succ]
  refine wpAnyH_done (by kernel_rfl) ?_ _
  go_wp2_with (refine loadsV (B := B4) (by rfl) rfl rfl LB4 ?_)
  refine (da _ E).mono ?_
  rintro e w33 ⟨rfl, x⟩
  have z16 := x.size
  replace E := E.trans x
  replace LB4 := LB4.ext x
  replace LB5 := LB5.ext x
  replace LB6 := LB6.ext x
  replace RB6 := RB6.ext x
  clear x
  go_wp2_with (refine loadgV (B := B5) (by rfl) rfl rfl LB5 ?_)
  refine (db _ E).mono ?_
  rintro e w37 ⟨rfl, x⟩
  have z17 := x.size
  replace E := E.trans x
  replace LB4 := LB4.ext x
  replace LB5 := LB5.ext x
  replace LB6 := LB6.ext x
  replace RB6 := RB6.ext x
  clear x
  go_wp2_with (first | (refine loadsV (B := B4) (by rfl) rfl rfl LB4 ?_) | (refine loadsV (B := B5) (by rfl) rfl rfl LB5 ?_))
  clear LB4 LB5
  refine (cf _ E).mono ?_
  rintro e w61 ⟨p, rfl, hq, x⟩
  have NP := hq.now
  have Fp := NP.is.flat
  clear hq
  have z18 := x.size
  replace E := E.trans x
  replace LB6 := LB6.ext x
  replace RB6 := RB6.ext x
  clear x
  have TG19 : True := trivial
  go_wp2_with (clear TG19; have hRl := (RB6).lt (Nat.zero_lt_succ _); refine storesV (B := B6) rfl rfl rfl (v := p) rfl RB6 Fp ?_; clear LB6; intro s19 G19 LB6 RQ; have z20 := G19.size; replace E := grown_ext E G19 (by omega); replace NP := NP.grown G19 (by first | omega | (dsimp only [New]; omega)); clear RB6; have RB6 := RQ; clear RQ hRl; clear RB6)
  refine bodyPost_ret (results_lay2 rfl rfl rfl (ldV LB6)) rfl ?_
  exact ⟨p, rfl, NP.mono (fun i hi h => by dsimp only [New] at *; omega), E⟩
theorem ar_fe8 (hf : 1 ≤ f ∧ f ≤ 8) (m n : Int) (ca : ∀ w', Ext w w' → Calls Try.prog 47 #[v] w' fun e w2 => e = .returned (.int .i64 m) ∧ Ext w' w2) (cb : ∀ w', Ext w w' → Calls Try.prog 47 #[u] w' fun e w2 => e = .returned (.int .i64 n) ∧ Ext w' w2) (hl : lenOk m n = true) (da : ∀ w', Ext w w' → Calls Try.prog 49 #[v] w' fun e w2 => e = .returned (.int .i64 0) ∧ Ext w' w2) (db : ∀ w', Ext w w' → Calls Try.prog 49 #[u] w' fun e w2 => e = .returned (.int .i64 0) ∧ Ext w' w2) (N : Nat) (hN : lenV m n = (N : Int)) (e4 : (f != 4) = true) (e8 : (f != 8) = false) (er : Int) (cf : ∀ w', Ext w w' → Calls Try.prog 70 #[.int .i64 f, .int .i64 (N : Int), v, u] w' fun e w2 => e = .returned (.tuple #[zeroVec, .int .i64 er]) ∧ Ext w' w2)  (hF : Flat 8 v) (hG : Flat 8 u) :
    Calls Try.prog 38 #[.int .i64 f, v, u] w fun e w' => e = .returned (.tuple #[zeroVec, .int .i64 er]) ∧ Ext w w' := by
  have E := Ext.refl w
  obtain ⟨h1, h2⟩ := hf
  have cl : ∀ w', Calls Try.prog 29 #[.int .i64 m, .int .i64 n] w' fun e w2 => e = .returned (.tuple #[.int .i64 (lenV m n), .bool true]) ∧ Ext w' w2 := fun w' => (length_any m n w').mono fun e w2 h => ⟨by rw [h.1, hl], h.2 ▸ Ext.refl _⟩
  rw [hN] at cl
  clear hl hN
  go_enter Try.func38, Try.ntmps38
  have TB4 : True := trivial
  have TB5 : True := trivial
  have TB6 : True := trivial
  go_wp2_with (first | (clear TB4; refine boxsV (v := v) rfl rfl rfl hF ?_; intro B4 w4 bB4 cB4 XB4 LB4 RB4; have z1 := XB4.size; replace E := E.trans XB4; clear RB4) | (clear TB5; refine boxsV (v := u) rfl rfl rfl hG ?_; intro B5 w5 bB5 cB5 XB5 LB5 RB5; have z2 := XB5.size; replace E := E.trans XB5; replace LB4 := LB4.ext XB5; clear RB5) | (clear TB6; refine allocsV rfl rfl ?_; intro B6 w6 bB6 cB6 XB6 LB6 RB6; have z3 := XB6.size; replace E := E.trans XB6; replace LB4 := LB4.ext XB6; replace LB5 := LB5.ext XB6))
  try simp only [Act.put, List.setIfInBounds_toArray, List.set_cons_zero, List.set_cons_succ]
  have hq4 : w6.heap.size ≤ w6.drew.heap.size := Nat.le_refl _
  have z5 := (Ext.refl w6).drew.size
  replace E := E.trans (Ext.refl w6).drew
  replace LB4 := LB4.ext (Ext.refl w6).drew
  replace LB5 := LB5.ext (Ext.refl w6).drew
  replace LB6 := LB6.ext (Ext.refl w6).drew
  replace RB6 := RB6.ext (Ext.refl w6).drew
  refine wp_region_held_drew (S := (fun w' => Lay 8 w' B4 v ∧ Lay 8 w' B5 u)) (by kernel_rfl) ⟨LB4, LB5⟩ (fun hHeld => ?_)
  refine wpAnyH_take (i := 0) (oi := { dst := some 20, op := Go.Op.load 41 (Go.Operand.tmp 4), type := 41, pos := "arith.go:64", after := #[], guard := none }) (v := v) rfl (by kernel_rfl) (by kernel_rfl) (by kernel_rfl) (fun _ _ _ h => h) (yieldV (by rfl) rfl rfl fun w' hx => hx.1) hHeld ?_
  try simp only [Act.put, List.setIfInBounds_toArray, List.set_cons_zero, List.set_cons_succ]
  refine wpAnyH_take (i := 2) (oi := { dst := some 22, op := Go.Op.load 41 (Go.Operand.tmp 5), type := 41, pos := "arith.go:64", after := #[], guard := none }) (v := u) rfl (by kernel_rfl) (by kernel_rfl) (by kernel_rfl) (fun _ _ _ h => h) (yieldV (by rfl) rfl rfl fun w' hx => hx.2) hHeld ?_
  try simp only [Act.put, List.setIfInBounds_toArray, List.set_cons_zero, List.set_cons_succ]
  refine wpAnyH_ready (rs := [1]) (by kernel_rfl) (by simp) ?_
  refine AllReadyH.cons (o := { dst := some 21, op := Go.Op.call { callee := Go.Callee.value (Go.Operand.func 47), args := #[Go.Operand.tmp 20], argTypes := #[41] }, type := 3, pos := "arith.go:64", after := #[{ on := 0, ground := Go.Ground.data }], guard := none }) rfl (fun K hK => ?_) (AllReadyH.nil)
  go_simp
  refine (ca _ E).mono ?_
  rintro e w21 ⟨rfl, x⟩
  have z8 := x.size
  replace E := E.trans x
  replace LB4 := LB4.ext x
  replace LB5 := LB5.ext x
  replace LB6 := LB6.ext x
  replace RB6 := RB6.ext x
  clear x
  clear hHeld
  have hHeld := And.intro LB4 (LB5)
  refine hK.out _ _ hHeld (fun _ => ?_)
  clear hK K
  try simp only [Act.put, List.setIfInBounds_toArray, List.set_cons_zero, List.set_cons_succ]
  refine wpAnyH_ready (rs := [3]) (by kernel_rfl) (by simp) ?_
  refine AllReadyH.cons (o := { dst := some 23, op := Go.Op.call { callee := Go.Callee.value (Go.Operand.func 47), args := #[Go.Operand.tmp 22], argTypes := #[41] }, type := 3, pos := "arith.go:64", after := #[{ on := 2, ground := Go.Ground.data }, { on := 1, ground := Go.Ground.chain }], guard := none }) rfl (fun K hK => ?_) (AllReadyH.nil)
  go_simp
  refine (cb _ E).mono ?_
  rintro e w23 ⟨rfl, x⟩
  have z9 := x.size
  replace E := E.trans x
  replace LB4 := LB4.ext x
  replace LB5 := LB5.ext x
  replace LB6 := LB6.ext x
  replace RB6 := RB6.ext x
  clear x
  clear hHeld
  have hHeld := And.intro LB4 (LB5)
  refine hK.out _ _ hHeld (fun _ => ?_)
  clear hK K
  try simp only [Act.put, List.setIfInBounds_toArray, List.set_cons_zero, List.set_cons_succ]
  refine wpAnyH_ready (rs := [4]) (by kernel_rfl) (by simp) ?_
  refine AllReadyH.cons (o := { dst := some 24, op := Go.Op.call { callee := Go.Callee.value (Go.Operand.func 29), args := #[Go.Operand.tmp 21, Go.Operand.tmp 23], argTypes := #[3, 3] }, type := 60, pos := "arith.go:64", after := #[{ on := 1, ground := Go.Ground.data }, { on := 3, ground := Go.Ground.data }, { on := 3, ground := Go.Ground.chain }], guard := none }) rfl (fun K hK => ?_) (AllReadyH.nil)
  go_simp
  refine (cl _).mono ?_
  rintro e w24 ⟨rfl, x⟩
  have z10 := x.size
  replace E := E.trans x
  replace LB4 := LB4.ext x
  replace LB5 := LB5.ext x
  replace LB6 := LB6.ext x
  replace RB6 := RB6.ext x
  clear x
  clear hHeld
  have hHeld := And.intro LB4 (LB5)
  refine hK.out _ _ hHeld (fun _ => ?_)
  clear hK K
  try simp only [Act.put, List.setIfInBounds_toArray, List.set_cons_zero, List.set_cons_succ]
  refine wpAnyH_take (i := 5) (oi := { dst := some 19, op := Go.Op.move (Go.Operand.tmp 24), type := 60, pos := "arith.go:64", after := #[{ on := 4, ground := Go.Ground.data }], guard := none }) (v := ?v11) rfl (by kernel_rfl) (by kernel_rfl) (by kernel_rfl) (fun _ _ _ h => h) (Or.inl ⟨by rfl, ?hy11⟩) hHeld ?rest11
  case hy11 => (intro w hSw; (try dsimp only at hSw); go_simp; (first | done | with_reducible rfl))
  try simp only [Act.put, List.setIfInBounds_toArray, List.set_cons_zero, List.set_cons_succ]
  refine wpAnyH_take (i := 6) (oi := { dst := some 25, op := Go.Op.extract (Go.Operand.tmp 19) 0, type := 3, pos := "arith.go:64", after := #[{ on := 5, ground := Go.Ground.data }], guard := none }) (v := ?v12) rfl (by kernel_rfl) (by kernel_rfl) (by kernel_rfl) (fun _ _ _ h => h) (Or.inl ⟨by rfl, ?hy12⟩) hHeld ?rest12
  case hy12 => (intro w hSw; (try dsimp only at hSw); go_simp; (first | done | with_reducible rfl))
  try simp only [Act.put, List.setIfInBounds_toArray, List.set_cons_zero, List.set_cons_succ]
  refine wpAnyH_take (i := 7) (oi := { dst := some 26, op := Go.Op.extract (Go.Operand.tmp 19) 1, type := 4, pos := "arith.go:64", after := #[{ on := 5, ground := Go.Ground.data }, { on := 8, ground := Go.Ground.gcOnly Go.Departure.lateStores }], guard := none }) (v := ?v13) rfl (by kernel_rfl) (by kernel_rfl) (by kernel_rfl) (fun _ _ _ h => h) (Or.inl ⟨by rfl, ?hy13⟩) hHeld ?rest13
  case hy13 => (intro w hSw; (try dsimp only at hSw); go_simp; (first | done | with_reducible rfl))
  try simp only [Act.put, List.setIfInBounds_toArray, List.set_cons_zero, List.set_cons_succ]
  refine wpAnyH_take (i := 8) (oi := { dst := some 8, op := Go.Op.assign (Go.Operand.tmp 25), type := 3, pos := "arith.go:64", after := #[{ on := 6, ground := Go.Ground.data }, { on := 4, ground := Go.Ground.chain }, { on := 0, ground := Go.Ground.phase }, { on := 1, ground := Go.Ground.phase }, { on := 2, ground := Go.Ground.phase }, { on := 3, ground := Go.Ground.phase }, { on := 4, ground := Go.Ground.phase }, { on := 5, ground := Go.Ground.phase }, { on := 6, ground := Go.Ground.phase }, { on := 7, ground := Go.Ground.textOnly Go.Departure.lateStores }], guard := none }) (v := ?v14) rfl (by kernel_rfl) (by kernel_rfl) (by kernel_rfl) (fun _ _ _ h => h) (Or.inl ⟨by rfl, ?hy14⟩) hHeld ?rest14
  case hy14 => (intro w hSw; (try dsimp only at hSw); go_simp; (first | done | with_reducible rfl))
  try simp only [Act.put, List.setIfInBounds_toArray, List.set_cons_zero, List.set_cons_succ]
  refine wpAnyH_take (i := 9) (oi := { dst := some 9, op := Go.Op.assign (Go.Operand.tmp 26), type := 4, pos := "arith.go:64", after := #[{ on := 7, ground := Go.Ground.data }, { on := 8, ground := Go.Ground.chain }, { on := 0, ground := Go.Ground.phase }, { on := 1, ground := Go.Ground.phase }, { on := 2, ground := Go.Ground.phase }, { on := 3, ground := Go.Ground.phase }, { on := 4, ground := Go.Ground.phase }, { on := 5, ground := Go.Ground.phase }, { on := 6, ground := Go.Ground.phase }, { on := 7, ground := Go.Ground.phase }, { on := 8, ground := Go.Ground.phase }], guard := none }) (v := ?v15) rfl (by kernel_rfl) (by kernel_rfl) (by kernel_rfl) (fun _ _ _ h => h) (Or.inl ⟨by rfl, ?hy15⟩) hHeld ?rest15
  case hy15 => (intro w hSw; (try dsimp only at hSw); go_simp; (first | done | with_reducible rfl))
  try simp only [Act.put, List.setIfInBounds_toArray, List.set_cons_zero, List.set_cons_succ]
  refine wpAnyH_done (by kernel_rfl) ?_ _
  go_wp2_with (refine loadsV (B := B4) (by rfl) rfl rfl LB4 ?_)
  refine (da _ E).mono ?_
  rintro e w33 ⟨rfl, x⟩
  have z16 := x.size
  replace E := E.trans x
  replace LB4 := LB4.ext x
  replace LB5 := LB5.ext x
  replace LB6 := LB6.ext x
  replace RB6 := RB6.ext x
  clear x
  go_wp2_with (refine loadgV (B := B5) (by rfl) rfl rfl LB5 ?_)
  refine (db _ E).mono ?_
  rintro e w37 ⟨rfl, x⟩
  have z17 := x.size
  replace E := E.trans x
  replace LB4 := LB4.ext x
  replace LB5 := LB5.ext x
  replace LB6 := LB6.ext x
  replace RB6 := RB6.ext x
  clear x
  go_wp2_with (first | (refine loadsV (B := B4) (by rfl) rfl rfl LB4 ?_) | (refine loadsV (B := B5) (by rfl) rfl rfl LB5 ?_))
  clear LB4 LB5
  refine (cf _ E).mono ?_
  rintro e w61 ⟨rfl, x⟩
  have z18 := x.size
  replace E := E.trans x
  replace LB6 := LB6.ext x
  replace RB6 := RB6.ext x
  clear x
  have TG19 : True := trivial
  go_wp2_with (clear TG19; have hRl := (RB6).lt (Nat.zero_lt_succ _); refine storesV (B := B6) rfl rfl rfl (v := zeroVec) rfl RB6 zeroVec_flat ?_; clear LB6; intro s19 G19 LB6 RQ; have z20 := G19.size; replace E := grown_ext E G19 (by omega); clear RB6; have RB6 := RQ; clear RQ hRl; clear RB6)
  refine bodyPost_ret (results_lay2 rfl rfl rfl (ldV LB6)) rfl ?_
  exact ⟨rfl, E⟩
end
/-- what comes of two lists of numbers: the error, the numbers -/
def arE (f : Int) (x y : List Nat) : Int := if f < 1 ∨ 8 < f then 1 else if lenOk (x.length : Int) (y.length : Int) = false then 23 else errF f x y (lenV (x.length : Int) (y.length : Int)).toNat
def arL (f : Int) (x y : List Nat) : List Nat := resL f x y (lenV (x.length : Int) (y.length : Int)).toNat
def ArU (er : Int) (L : List Nat) (w : World) (e : Ending) (w' : World) : Prop := ∃ p, e = .returned (.tuple #[p, .int .i64 er]) ∧ (er ≠ 0 → p = zeroVec) ∧ (er = 0 → NumS w' p (leastL L) L (New w.heap.size)) ∧ Ext w w'
theorem ar_u (f : Int) (v u : Value) (K J : Nat) (x y : List Nat) (hx1 : x.length ≤ 1048576) (hy1 : y.length ≤ 1048576) (w : World) (hv : IsNum w v K x) (hu : IsNum w u J y) : Calls Try.prog 38 #[.int .i64 f, v, u] w (ArU (arE f x y) (arL f x y) w) := by
  have hF := hv.flat
  have hG := hu.flat
  have ca : ∀ w', Ext w w' → Calls Try.prog 47 #[v] w' fun e w2 => e = .returned (.int .i64 (x.length : Int)) ∧ Ext w' w2 := fun w' h => nlen_any v K x w' (hv.ext h)
  have cb : ∀ w', Ext w w' → Calls Try.prog 47 #[u] w' fun e w2 => e = .returned (.int .i64 (y.length : Int)) ∧ Ext w' w2 := fun w' h => nlen_any u J y w' (hu.ext h)
  have da : ∀ w', Ext w w' → Calls Try.prog 49 #[v] w' fun e w2 => e = .returned (.int .i64 0) ∧ Ext w' w2 := fun w' h => nclass_any v K x w' (hv.ext h)
  have db : ∀ w', Ext w w' → Calls Try.prog 49 #[u] w' fun e w2 => e = .returned (.int .i64 0) ∧ Ext w' w2 := fun w' h => nclass_any u J y w' (hu.ext h)
  have err : ∀ k : Int, k ≠ 0 → arE f x y = k → Calls Try.prog 38 #[.int .i64 f, v, u] w (fun e w' => e = .returned (.tuple #[zeroVec, .int .i64 k]) ∧ Ext w w') → Calls Try.prog 38 #[.int .i64 f, v, u] w (ArU (arE f x y) (arL f x y) w) := by
    intro k hk hE h
    refine h.mono ?_
    rintro e w' ⟨rfl, hx⟩
    exact ⟨_, by rw [hE], fun _ => rfl, fun h => absurd h (by rw [hE]; exact hk), hx⟩
  have good : arE f x y = 0 → Calls Try.prog 38 #[.int .i64 f, v, u] w (fun e w' => ∃ p, e = .returned (.tuple #[p, .int .i64 0]) ∧ NumS w' p (leastL (arL f x y)) (arL f x y) (New w.heap.size) ∧ Ext w w') → Calls Try.prog 38 #[.int .i64 f, v, u] w (ArU (arE f x y) (arL f x y) w) := by
    intro hE h
    refine h.mono ?_
    rintro e w' ⟨p, rfl, hq, hx⟩
    exact ⟨p, by rw [hE], fun h => absurd hE h, fun _ => hq, hx⟩
  by_cases h1 : f < 1
  · exact err 1 (by decide) (by unfold arE; rw [if_pos (.inl h1)]) (ar_bad1 f v u w h1 hF hG)
  by_cases h2 : 8 < f
  · exact err 1 (by decide) (by unfold arE; rw [if_pos (.inr h2)]) (ar_bad2 f v u w h1 h2 hF hG)
  have hf : 1 ≤ f ∧ f ≤ 8 := by omega
  cases hle : lenOk (x.length : Int) (y.length : Int)
  · exact err 23 (by decide) (by unfold arE; rw [if_neg (by omega), if_pos hle]) (ar_len f v u w hf _ _ ca cb hle hF hG)
  obtain ⟨N, hN, hNm, hNn, hNo⟩ := lenV_pos hle
  have hN2 : N ≤ 1048576 := by omega
  have lx : x.length = N ∨ x.length = 1 := by omega
  have ly : y.length = N ∨ y.length = 1 := by omega
  have hE : arE f x y = errF f x y N := by unfold arE; rw [if_neg (by omega), if_neg (by rw [hle]; decide), hN, Int.toNat_natCast]
  have hL : arL f x y = resL f x y N := by unfold arL; rw [hN, Int.toNat_natCast]
  have cf := fun w' (h : Ext w w') => floats_r f v u K J x y N hN2 lx ly w' (hv.ext h) (hu.ext h)
  by_cases e0 : errF f x y N = 0
  · have cf0 : ∀ w', Ext w w' → Calls Try.prog 70 #[.int .i64 f, .int .i64 (N : Int), v, u] w' fun e w2 => ∃ p, e = .returned (.tuple #[p, .int .i64 0]) ∧ NumS w2 p (leastL (resL f x y N)) (resL f x y N) (New w'.heap.size) ∧ Ext w' w2 := fun w' h => (cf w' h).mono fun e w2 => by
      rintro ⟨p, rfl, _, h2, hx⟩
      exact ⟨p, by rw [e0], h2 e0, hx⟩
    refine good (by rw [hE, e0]) ?_
    rw [hL]
    by_cases f4 : f = 4
    · exact ar_fl4 f v u w hf _ _ ca cb hle da db N hN (by simp [f4]) _ cf0 hF hG
    by_cases f8 : f = 8
    · exact ar_fl8 f v u w hf _ _ ca cb hle da db N hN (by simpa using f4) (by simp [f8]) _ cf0 hF hG
    have hw : whF f := by unfold whF; omega
    by_cases hK : K ≤ 3
    · by_cases hJ : J ≤ 3
      · cases hA : whA f (toI x) (toI y) N
        · refine ar_flw f v u w hf _ _ ca cb hle da db N hN (by simpa using f4) (by simpa using f8) (fun w' h => ?_) _ cf0 hF hG
          have := wholes_r f hw v u K J hK hJ x y N hN2 lx ly w' (hv.ext h) (hu.ext h)
          rw [hA] at this
          refine this.mono ?_
          rintro e w2 ⟨p, rfl, hp, _, hx⟩
          exact ⟨p, rfl, hp, hx⟩
        · refine ar_wh f v u w hf _ _ ca cb hle da db N hN (by simpa using f4) (by simpa using f8) _ (fun w' h => ?_) hF hG
          have := wholes_r f hw v u K J hK hJ x y N hN2 lx ly w' (hv.ext h) (hu.ext h)
          rw [hA] at this
          refine this.mono ?_
          rintro e w2 ⟨p, rfl, _, hq, hx⟩
          exact ⟨p, rfl, hq rfl, hx⟩
      · obtain rfl : J = 4 := by have := hu.choose_spec.2.2.2.1; omega
        refine ar_flw f v u w hf _ _ ca cb hle da db N hN (by simpa using f4) (by simpa using f8) (fun w' h => ?_) _ cf0 hF hG
        refine (wholes_two f v u K hK x y N w' (hv.ext h) (hu.ext h)).mono ?_
        rintro e w2 ⟨rfl, hx⟩
        exact ⟨_, rfl, zeroVec_flat, hx⟩
    · obtain rfl : K = 4 := by have := hv.choose_spec.2.2.2.1; omega
      refine ar_flw f v u w hf _ _ ca cb hle da db N hN (by simpa using f4) (by simpa using f8) (fun w' h => ?_) _ cf0 hF hG
      refine (wholes_four f v u J x y N w' (hv.ext h) (hu.ext h)).mono ?_
      rintro e w2 ⟨rfl, hx⟩
      exact ⟨_, rfl, zeroVec_flat, hx⟩
  · have cf1 : ∀ w', Ext w w' → Calls Try.prog 70 #[.int .i64 f, .int .i64 (N : Int), v, u] w' fun e w2 => e = .returned (.tuple #[zeroVec, .int .i64 (errF f x y N)]) ∧ Ext w' w2 := fun w' h => (cf w' h).mono fun e w2 => by
      rintro ⟨p, rfl, h1, _, hx⟩
      exact ⟨by rw [h1 e0], hx⟩
    refine err _ e0 hE ?_
    by_cases f4 : f = 4
    · exact ar_fe4 f v u w hf _ _ ca cb hle da db N hN (by simp [f4]) _ cf1 hF hG
    by_cases f8 : f = 8
    · exact ar_fe8 f v u w hf _ _ ca cb hle da db N hN (by simpa using f4) (by simp [f8]) _ cf1 hF hG
    have hw : whF f := by unfold whF; omega
    refine ar_few f v u w hf _ _ ca cb hle da db N hN (by simpa using f4) (by simpa using f8) (fun w' h => ?_) _ cf1 hF hG
    by_cases hK : K ≤ 3
    · by_cases hJ : J ≤ 3
      · cases hA : whA f (toI x) (toI y) N
        · have := wholes_r f hw v u K J hK hJ x y N hN2 lx ly w' (hv.ext h) (hu.ext h)
          rw [hA] at this
          refine this.mono ?_
          rintro e w2 ⟨p, rfl, hp, _, hx⟩
          exact ⟨p, rfl, hp, hx⟩
        · exact absurd (res_wh hw (num_whole hv hK) (num_whole hu hJ) lx ly (whA_all hA)).2.1 e0
      · obtain rfl : J = 4 := by have := hu.choose_spec.2.2.2.1; omega
        refine (wholes_two f v u K hK x y N w' (hv.ext h) (hu.ext h)).mono ?_
        rintro e w2 ⟨rfl, hx⟩
        exact ⟨_, rfl, zeroVec_flat, hx⟩
    · obtain rfl : K = 4 := by have := hv.choose_spec.2.2.2.1; omega
      refine (wholes_four f v u J x y N w' (hv.ext h) (hu.ext h)).mono ?_
      rintro e w2 ⟨rfl, hx⟩
      exact ⟨_, rfl, zeroVec_flat, hx⟩
end Go.Proofs.Ytidnikndjhfgaaa
