/- relate.chars, relate.Apply. -/
import Derived.Test.YtdfhefnjoekgbaaRk
namespace Go.Proofs.Ytdfhefnjoekgbaa
open Go.ChangeShapes Go.WideShapes Go.RowKit Bv Fl
set_option maxHeartbeats 2000000
set_option maxRecDepth 100000
section
variable (f : Int) (v u : Value) (w : World)
theorem chars_dom (h1 : (f == 13) = false) (h2 : (f == 16) = false) (n : Int) (hF : Flat 8 v) (hG : Flat 8 u) : Calls Try.prog 78 #[.int .i64 f, .int .i64 n, v, u] w fun e w' => e = .returned (.tuple #[zeroVec, .int .i64 24]) ∧ Ext w w' := by
  have E := Ext.refl w
  go_enter Try.func78, Try.ntmps78
  have TB6 : True := trivial
  have TB7 : True := trivial
  have TB8 : True := trivial
  have TG4 : True := trivial
  go_wp2_with (first | (clear TB6; refine boxsV (v := v) rfl rfl rfl hF ?_; intro B6 w6 bB6 cB6 XB6 LB6 RB6; have z1 := XB6.size; replace E := E.trans XB6; clear LB6 RB6) | (clear TB7; refine boxsV (v := u) rfl rfl rfl hG ?_; intro B7 w7 bB7 cB7 XB7 LB7 RB7; have z2 := XB7.size; replace E := E.trans XB7; clear LB7 RB7) | (clear TB8; refine allocsV rfl rfl ?_; intro B8 w8 bB8 cB8 XB8 LB8 RB8; have z3 := XB8.size; replace E := E.trans XB8) | (clear TG4; have hRl := (RB8).lt (Nat.zero_lt_succ _); refine storesV (B := B8) rfl rfl rfl (v := zeroVec) rfl RB8 zeroVec_flat ?_; clear LB8; intro s4 G4 LB8 RQ; have z5 := G4.size; replace E := grown_ext E G4 (by omega); clear RB8; have RB8 := RQ; clear RQ hRl; clear RB8))
  refine bodyPost_ret (results_lay2 rfl rfl rfl (ldV LB8)) rfl ?_
  exact ⟨rfl, E⟩
theorem chars_eq (N : Nat) (hN2 : N ≤ 1048576) (hF : Flat 8 v) (hG : Flat 8 u) (ka kb : Int) (ca : ∀ w', Ext w w' → Calls Try.prog 56 #[v] w' fun e w2 => e = .returned (.int .i64 ka) ∧ Ext w' w2) (cb : ∀ w', Ext w w' → Calls Try.prog 56 #[u] w' fun e w2 => e = .returned (.int .i64 kb) ∧ Ext w' w2) (hk : (ka == kb) = true) (P Q : Nat → Int) (ck : ∀ k : Nat, k < N → ∃ i j : Int, (∀ w2, Ext w w2 → Calls Try.prog 94 #[v, .int .i64 (k : Nat)] w2 fun e w3 => e = .returned (.int .i64 i) ∧ Ext w2 w3) ∧ (∀ w2, Ext w w2 → Calls Try.prog 93 #[v, .int .i64 i] w2 fun e w3 => e = .returned (.int .i32 (P k)) ∧ Ext w2 w3) ∧ (∀ w2, Ext w w2 → Calls Try.prog 94 #[u, .int .i64 (k : Nat)] w2 fun e w3 => e = .returned (.int .i64 j) ∧ Ext w2 w3) ∧ (∀ w2, Ext w w2 → Calls Try.prog 93 #[u, .int .i64 j] w2 fun e w3 => e = .returned (.int .i32 (Q k)) ∧ Ext w2 w3)) :
    Calls Try.prog 78 #[.int .i64 13, .int .i64 (N : Int), v, u] w fun e w' => ∃ p, e = .returned (.tuple #[p, .int .i64 0]) ∧ VecS w' p (VD.bits (tabL N (fun k => P k == Q k))) (New w.heap.size) ∧ Ext w w' := by
  obtain ⟨FN, hFN⟩ : ∃ FN : Nat → Value, (fun k => Value.bool ((fun k => P k == Q k) k)) = FN := ⟨_, rfl⟩
  have HFN := Lib.hid fun k => congrFun hFN k
  obtain ⟨RL, hRL⟩ : ∃ RL, tabL N (fun k => P k == Q k) = RL := ⟨_, rfl⟩
  have hR : bools RL = fillL FN (.bool false) N N := by rw [fillL_full, ← hFN, ← hRL]; simp [bools, tabL]
  have hRl : RL.length = N := by rw [← hRL]; exact tabL_length _ _
  have cpk : ∀ g w, RowO 4 w g N (fillL FN (.bool false) N N) → Calls Try.prog 86 #[.slice (some ⟨g, 0, none⟩) N N] w fun e w' => ∃ p, e = .returned p ∧ OwnB w' w.heap.size p RL ∧ Ext w w' := fun g w h => by
    have h2 := h.sl
    rw [← hR] at h2
    have := pack_any (some ⟨g, 0, none⟩) N RL w (by rw [hRl]; exact hN2) (by rw [hRl]; exact Nat.le_refl _) (by rw [hRl]; exact h2)
    rwa [hRl] at this
  have cbo := fun p w h => VecS.bits_of p RL w h
  rw [hRL]
  clear hFN hR hRl hRL
  have E := Ext.refl w
  go_enter Try.func78, Try.ntmps78
  have TB6 : True := trivial
  have TB7 : True := trivial
  have TB8 : True := trivial
  have TM19 : True := trivial
  go_wp2_with (first | (clear TB6; refine boxsV (v := v) rfl rfl rfl hF ?_; intro B6 w6 bB6 cB6 XB6 LB6 RB6; have z1 := XB6.size; replace E := E.trans XB6; clear RB6) | (clear TB7; refine boxsV (v := u) rfl rfl rfl hG ?_; intro B7 w7 bB7 cB7 XB7 LB7 RB7; have z2 := XB7.size; replace E := E.trans XB7; replace LB6 := LB6.ext XB7; clear RB7) | (clear TB8; refine allocsV rfl rfl ?_; intro B8 w8 bB8 cB8 XB8 LB8 RB8; have z3 := XB8.size; replace E := E.trans XB8; replace LB6 := LB6.ext XB8; replace LB7 := LB7.ext XB8) | (clear TM19; refine maker_bool rfl rfl (n := N) rfl hN2 ?_; intro g19 w19 bg19 cg19 X19 Og19; have z4 := X19.size; replace E := E.trans X19; replace LB6 := LB6.ext X19; replace LB7 := LB7.ext X19; replace LB8 := LB8.ext X19; replace RB8 := RB8.ext X19; clear X19))
  go_loopw [22] (fun i wr => ∃ k : Nat, k ≤ N ∧ i = .int .i64 k ∧ Grw w19 g19 wr ∧ RowO 4 wr g19 N (fillL FN (.bool false) N k)) (fun i _ => N - (intOf i).toNat)
  case atStart => exact ⟨0, Nat.zero_le _, rfl, Grw.refl _ _, by rw [fillL_zero]; exact Og19⟩
  case round =>
    obtain ⟨k, hk', rfl, HG, O2⟩ := hrel
    clear Og19
    have Og19 := O2
    clear O2
    have z5 := HG.out.size
    replace E := grown_ext E HG.out (by omega)
    replace LB6 := LB6.grown HG.out (by omega)
    replace LB7 := LB7.grown HG.out (by omega)
    replace LB8 := LB8.grown HG.out (by omega)
    replace RB8 := RB8.grown HG.out (by omega)
    by_cases hlt : k < N
    · obtain ⟨ik, jk, c1, c2, c3, c4⟩ := ck k hlt
      have HFk := Lib.hid (HFN.out k)
      have HFK := Lib.hid (fillL_set FN (.bool false) hlt)
      clear ck
      try dsimp only at HFk
      generalize P k = pk at *
      generalize Q k = qk at *
      go_wp2_with fail
      try simp only [Act.put, List.setIfInBounds_toArray, List.set_cons_zero, List.set_cons_succ]
      have hq6 : wr.heap.size ≤ wr.drew.heap.size := Nat.le_refl _
      have z7 := (Ext.refl wr).drew.size
      replace E := E.trans (Ext.refl wr).drew
      replace LB6 := LB6.ext (Ext.refl wr).drew
      replace LB7 := LB7.ext (Ext.refl wr).drew
      replace LB8 := LB8.ext (Ext.refl wr).drew
      replace RB8 := RB8.ext (Ext.refl wr).drew
      replace Og19 := Og19.ext (Ext.refl wr).drew
      replace HG := HG.ext (Ext.refl wr).drew
      refine wp_region_held_drew (S := (fun w' => Lay 8 w' B6 v ∧ Lay 8 w' B7 u)) (by kernel_rfl) ⟨LB6, LB7⟩ (fun hHeld => ?_)
      refine wpAnyH_take (i := 0) (oi := { dst := some 25, op := Go.Op.load 34 (Go.Operand.tmp 6), type := 34, pos := "relate.go:110", after := #[], guard := none }) (v := v) rfl (by kernel_rfl) (by kernel_rfl) (by kernel_rfl) (fun _ _ _ h => h) (yieldV (by rfl) rfl rfl fun w' hx => hx.1) hHeld ?_
      try simp only [Act.put, List.setIfInBounds_toArray, List.set_cons_zero, List.set_cons_succ]
      refine wpAnyH_take (i := 2) (oi := { dst := some 27, op := Go.Op.load 34 (Go.Operand.tmp 7), type := 34, pos := "relate.go:110", after := #[], guard := none }) (v := u) rfl (by kernel_rfl) (by kernel_rfl) (by kernel_rfl) (fun _ _ _ h => h) (yieldV (by rfl) rfl rfl fun w' hx => hx.2) hHeld ?_
      try simp only [Act.put, List.setIfInBounds_toArray, List.set_cons_zero, List.set_cons_succ]
      refine wpAnyH_ready (rs := [1]) (by kernel_rfl) (by simp) ?_
      refine AllReadyH.cons (o := { dst := some 26, op := Go.Op.call { callee := Go.Callee.value (Go.Operand.func 56), args := #[Go.Operand.tmp 25], argTypes := #[34] }, type := 3, pos := "relate.go:110", after := #[{ on := 0, ground := Go.Ground.data }], guard := none }) rfl (fun K hK => ?_) (AllReadyH.nil)
      go_simp
      refine (ca _ E).mono ?_
      rintro e w26 ⟨rfl, x⟩
      have z10 := x.size
      replace E := E.trans x
      replace LB6 := LB6.ext x
      replace LB7 := LB7.ext x
      replace LB8 := LB8.ext x
      replace RB8 := RB8.ext x
      replace Og19 := Og19.ext x
      replace HG := HG.ext x
      clear x
      clear hHeld
      have hHeld := And.intro LB6 (LB7)
      refine hK.out _ _ hHeld (fun _ => ?_)
      clear hK K
      try simp only [Act.put, List.setIfInBounds_toArray, List.set_cons_zero, List.set_cons_succ]
      refine wpAnyH_ready (rs := [3]) (by kernel_rfl) (by simp) ?_
      refine AllReadyH.cons (o := { dst := some 28, op := Go.Op.call { callee := Go.Callee.value (Go.Operand.func 56), args := #[Go.Operand.tmp 27], argTypes := #[34] }, type := 3, pos := "relate.go:110", after := #[{ on := 2, ground := Go.Ground.data }, { on := 1, ground := Go.Ground.chain }], guard := none }) rfl (fun K hK => ?_) (AllReadyH.nil)
      go_simp
      refine (cb _ E).mono ?_
      rintro e w28 ⟨rfl, x⟩
      have z11 := x.size
      replace E := E.trans x
      replace LB6 := LB6.ext x
      replace LB7 := LB7.ext x
      replace LB8 := LB8.ext x
      replace RB8 := RB8.ext x
      replace Og19 := Og19.ext x
      replace HG := HG.ext x
      clear x
      clear hHeld
      have hHeld := And.intro LB6 (LB7)
      refine hK.out _ _ hHeld (fun _ => ?_)
      clear hK K
      try simp only [Act.put, List.setIfInBounds_toArray, List.set_cons_zero, List.set_cons_succ]
      refine wpAnyH_take (i := 4) (oi := { dst := some 29, op := Go.Op.binOp Go.BinOp.eql 3 (Go.Operand.tmp 26) (Go.Operand.tmp 28) 3, type := 4, pos := "relate.go:110", after := #[{ on := 1, ground := Go.Ground.data }, { on := 3, ground := Go.Ground.data }], guard := none }) (v := ?v12) rfl (by kernel_rfl) (by kernel_rfl) (by kernel_rfl) (fun _ _ _ h => h) (Or.inl ⟨by rfl, ?hy12⟩) hHeld ?rest12
      case hy12 => (intro w hSw; (try dsimp only at hSw); go_simp; (first | done | with_reducible rfl))
      try simp only [Act.put, List.setIfInBounds_toArray, List.set_cons_zero, List.set_cons_succ]
      refine wpAnyH_take (i := 5) (oi := { dst := some 30, op := Go.Op.move (Go.Operand.tmp 29), type := 4, pos := "relate.go:110", after := #[{ on := 4, ground := Go.Ground.data }, { on := 3, ground := Go.Ground.chain }], guard := none }) (v := ?v13) rfl (by kernel_rfl) (by kernel_rfl) (by kernel_rfl) (fun _ _ _ h => h) (Or.inl ⟨by rfl, ?hy13⟩) hHeld ?rest13
      case hy13 => (intro w hSw; (try dsimp only at hSw); go_simp; (first | done | with_reducible rfl))
      try simp only [Act.put, List.setIfInBounds_toArray, List.set_cons_zero, List.set_cons_succ]
      refine wpAnyH_take (i := 6) (oi := { dst := some 31, op := Go.Op.load 34 (Go.Operand.tmp 6), type := 34, pos := "relate.go:110", after := #[{ on := 5, ground := Go.Ground.guard }], guard := some (5, true) }) (v := v) rfl (by kernel_rfl) (by kernel_rfl) (by kernel_rfl) (fun _ _ _ h => h) (yieldV (by rfl) rfl rfl fun w' hx => hx.1) hHeld ?_
      try simp only [Act.put, List.setIfInBounds_toArray, List.set_cons_zero, List.set_cons_succ]
      refine wpAnyH_take (i := 7) (oi := { dst := some 32, op := Go.Op.load 34 (Go.Operand.tmp 6), type := 34, pos := "relate.go:110", after := #[{ on := 5, ground := Go.Ground.guard }], guard := some (5, true) }) (v := v) rfl (by kernel_rfl) (by kernel_rfl) (by kernel_rfl) (fun _ _ _ h => h) (yieldV (by rfl) rfl rfl fun w' hx => hx.1) hHeld ?_
      try simp only [Act.put, List.setIfInBounds_toArray, List.set_cons_zero, List.set_cons_succ]
      refine wpAnyH_take (i := 8) (oi := { dst := some 33, op := Go.Op.move (Go.Operand.tmp 11), type := 3, pos := "relate.go:110", after := #[{ on := 5, ground := Go.Ground.guard }], guard := some (5, true) }) (v := ?v16) rfl (by kernel_rfl) (by kernel_rfl) (by kernel_rfl) (fun _ _ _ h => h) (Or.inl ⟨by rfl, ?hy16⟩) hHeld ?rest16
      case hy16 => (intro w hSw; (try dsimp only at hSw); go_simp; (first | done | with_reducible rfl))
      try simp only [Act.put, List.setIfInBounds_toArray, List.set_cons_zero, List.set_cons_succ]
      refine wpAnyH_take (i := 11) (oi := { dst := some 36, op := Go.Op.load 34 (Go.Operand.tmp 7), type := 34, pos := "relate.go:110", after := #[{ on := 5, ground := Go.Ground.guard }], guard := some (5, true) }) (v := u) rfl (by kernel_rfl) (by kernel_rfl) (by kernel_rfl) (fun _ _ _ h => h) (yieldV (by rfl) rfl rfl fun w' hx => hx.2) hHeld ?_
      try simp only [Act.put, List.setIfInBounds_toArray, List.set_cons_zero, List.set_cons_succ]
      refine wpAnyH_take (i := 12) (oi := { dst := some 37, op := Go.Op.load 34 (Go.Operand.tmp 7), type := 34, pos := "relate.go:110", after := #[{ on := 5, ground := Go.Ground.guard }], guard := some (5, true) }) (v := u) rfl (by kernel_rfl) (by kernel_rfl) (by kernel_rfl) (fun _ _ _ h => h) (yieldV (by rfl) rfl rfl fun w' hx => hx.2) hHeld ?_
      try simp only [Act.put, List.setIfInBounds_toArray, List.set_cons_zero, List.set_cons_succ]
      refine wpAnyH_take (i := 13) (oi := { dst := some 38, op := Go.Op.move (Go.Operand.tmp 11), type := 3, pos := "relate.go:110", after := #[{ on := 5, ground := Go.Ground.guard }], guard := some (5, true) }) (v := ?v19) rfl (by kernel_rfl) (by kernel_rfl) (by kernel_rfl) (fun _ _ _ h => h) (Or.inl ⟨by rfl, ?hy19⟩) hHeld ?rest19
      case hy19 => (intro w hSw; (try dsimp only at hSw); go_simp; (first | done | with_reducible rfl))
      try simp only [Act.put, List.setIfInBounds_toArray, List.set_cons_zero, List.set_cons_succ]
      refine wpAnyH_ready (rs := [9]) (by kernel_rfl) (by simp) ?_
      refine AllReadyH.cons (o := { dst := some 34, op := Go.Op.call { callee := Go.Callee.value (Go.Operand.func 94), args := #[Go.Operand.tmp 32, Go.Operand.tmp 33], argTypes := #[34, 3] }, type := 3, pos := "relate.go:110", after := #[{ on := 7, ground := Go.Ground.data }, { on := 8, ground := Go.Ground.data }, { on := 5, ground := Go.Ground.chain }, { on := 5, ground := Go.Ground.guard }], guard := some (5, true) }) rfl (fun K hK => ?_) (AllReadyH.nil)
      go_simp
      refine (c1 _ E).mono ?_
      rintro e w34 ⟨rfl, x⟩
      have z20 := x.size
      replace E := E.trans x
      replace LB6 := LB6.ext x
      replace LB7 := LB7.ext x
      replace LB8 := LB8.ext x
      replace RB8 := RB8.ext x
      replace Og19 := Og19.ext x
      replace HG := HG.ext x
      clear x
      clear hHeld
      have hHeld := And.intro LB6 (LB7)
      refine hK.out _ _ hHeld (fun _ => ?_)
      clear hK K
      try simp only [Act.put, List.setIfInBounds_toArray, List.set_cons_zero, List.set_cons_succ]
      refine wpAnyH_ready (rs := [10]) (by kernel_rfl) (by simp) ?_
      refine AllReadyH.cons (o := { dst := some 35, op := Go.Op.call { callee := Go.Callee.value (Go.Operand.func 93), args := #[Go.Operand.tmp 31, Go.Operand.tmp 34], argTypes := #[34, 3] }, type := 21, pos := "relate.go:110", after := #[{ on := 6, ground := Go.Ground.data }, { on := 9, ground := Go.Ground.data }, { on := 9, ground := Go.Ground.chain }, { on := 5, ground := Go.Ground.guard }], guard := some (5, true) }) rfl (fun K hK => ?_) (AllReadyH.nil)
      go_simp
      refine (c2 _ E).mono ?_
      rintro e w35 ⟨rfl, x⟩
      have z21 := x.size
      replace E := E.trans x
      replace LB6 := LB6.ext x
      replace LB7 := LB7.ext x
      replace LB8 := LB8.ext x
      replace RB8 := RB8.ext x
      replace Og19 := Og19.ext x
      replace HG := HG.ext x
      clear x
      clear hHeld
      have hHeld := And.intro LB6 (LB7)
      refine hK.out _ _ hHeld (fun _ => ?_)
      clear hK K
      try simp only [Act.put, List.setIfInBounds_toArray, List.set_cons_zero, List.set_cons_succ]
      refine wpAnyH_ready (rs := [14]) (by kernel_rfl) (by simp) ?_
      refine AllReadyH.cons (o := { dst := some 39, op := Go.Op.call { callee := Go.Callee.value (Go.Operand.func 94), args := #[Go.Operand.tmp 37, Go.Operand.tmp 38], argTypes := #[34, 3] }, type := 3, pos := "relate.go:110", after := #[{ on := 12, ground := Go.Ground.data }, { on := 13, ground := Go.Ground.data }, { on := 10, ground := Go.Ground.chain }, { on := 5, ground := Go.Ground.guard }], guard := some (5, true) }) rfl (fun K hK => ?_) (AllReadyH.nil)
      go_simp
      refine (c3 _ E).mono ?_
      rintro e w39 ⟨rfl, x⟩
      have z22 := x.size
      replace E := E.trans x
      replace LB6 := LB6.ext x
      replace LB7 := LB7.ext x
      replace LB8 := LB8.ext x
      replace RB8 := RB8.ext x
      replace Og19 := Og19.ext x
      replace HG := HG.ext x
      clear x
      clear hHeld
      have hHeld := And.intro LB6 (LB7)
      refine hK.out _ _ hHeld (fun _ => ?_)
      clear hK K
      try simp only [Act.put, List.setIfInBounds_toArray, List.set_cons_zero, List.set_cons_succ]
      refine wpAnyH_ready (rs := [15]) (by kernel_rfl) (by simp) ?_
      refine AllReadyH.cons (o := { dst := some 40, op := Go.Op.call { callee := Go.Callee.value (Go.Operand.func 93), args := #[Go.Operand.tmp 36, Go.Operand.tmp 39], argTypes := #[34, 3] }, type := 21, pos := "relate.go:110", after := #[{ on := 11, ground := Go.Ground.data }, { on := 14, ground := Go.Ground.data }, { on := 14, ground := Go.Ground.chain }, { on := 5, ground := Go.Ground.guard }], guard := some (5, true) }) rfl (fun K hK => ?_) (AllReadyH.nil)
      go_simp
      refine (c4 _ E).mono ?_
      rintro e w40 ⟨rfl, x⟩
      have z23 := x.size
      replace E := E.trans x
      replace LB6 := LB6.ext x
      replace LB7 := LB7.ext x
      replace LB8 := LB8.ext x
      replace RB8 := RB8.ext x
      replace Og19 := Og19.ext x
      replace HG := HG.ext x
      clear x
      clear hHeld
      have hHeld := And.intro LB6 (LB7)
      refine hK.out _ _ hHeld (fun _ => ?_)
      clear hK K
      try simp only [Act.put, List.setIfInBounds_toArray, List.set_cons_zero, List.set_cons_succ]
      refine wpAnyH_take (i := 16) (oi := { dst := some 41, op := Go.Op.binOp Go.BinOp.eql 21 (Go.Operand.tmp 35) (Go.Operand.tmp 40) 21, type := 4, pos := "relate.go:110", after := #[{ on := 10, ground := Go.Ground.data }, { on := 15, ground := Go.Ground.data }, { on := 5, ground := Go.Ground.guard }], guard := some (5, true) }) (v := ?v24) rfl (by kernel_rfl) (by kernel_rfl) (by kernel_rfl) (fun _ _ _ h => h) (Or.inl ⟨by rfl, ?hy24⟩) hHeld ?rest24
      case hy24 => (intro w hSw; (try dsimp only at hSw); go_simp; (first | done | with_reducible rfl))
      try simp only [Act.put, List.setIfInBounds_toArray, List.set_cons_zero, List.set_cons_succ]
      refine wpAnyH_take (i := 17) (oi := { dst := some 42, op := Go.Op.pick (Go.Operand.tmp 30) (Go.Operand.tmp 41) (Go.Operand.const (Go.Value.bool false)), type := 4, pos := "relate.go:110", after := #[{ on := 5, ground := Go.Ground.data }, { on := 16, ground := Go.Ground.data }], guard := none }) (v := ?v25) rfl (by kernel_rfl) (by kernel_rfl) (by kernel_rfl) (fun _ _ _ h => h) (Or.inl ⟨by rfl, ?hy25⟩) hHeld ?rest25
      case hy25 => (intro w hSw; (try dsimp only at hSw); go_simp; (first | done | with_reducible rfl))
      try simp only [Act.put, List.setIfInBounds_toArray, List.set_cons_zero, List.set_cons_succ]
      refine wpAnyH_take (i := 18) (oi := { dst := some 12, op := Go.Op.assign (Go.Operand.tmp 42), type := 4, pos := "relate.go:110", after := #[{ on := 17, ground := Go.Ground.data }, { on := 15, ground := Go.Ground.chain }, { on := 0, ground := Go.Ground.phase }, { on := 1, ground := Go.Ground.phase }, { on := 2, ground := Go.Ground.phase }, { on := 3, ground := Go.Ground.phase }, { on := 4, ground := Go.Ground.phase }, { on := 5, ground := Go.Ground.phase }, { on := 6, ground := Go.Ground.phase }, { on := 7, ground := Go.Ground.phase }, { on := 8, ground := Go.Ground.phase }, { on := 9, ground := Go.Ground.phase }, { on := 10, ground := Go.Ground.phase }, { on := 11, ground := Go.Ground.phase }, { on := 12, ground := Go.Ground.phase }, { on := 13, ground := Go.Ground.phase }, { on := 14, ground := Go.Ground.phase }, { on := 15, ground := Go.Ground.phase }, { on := 16, ground := Go.Ground.phase }, { on := 17, ground := Go.Ground.phase }], guard := none }) (v := ?v26) rfl (by kernel_rfl) (by kernel_rfl) (by kernel_rfl) (fun _ _ _ h => h) (Or.inl ⟨by rfl, ?hy26⟩) hHeld ?rest26
      case hy26 => (intro w hSw; (try dsimp only at hSw); go_simp; (first | done | with_reducible rfl))
      try simp only [Act.put, List.setIfInBounds_toArray, List.set_cons_zero, List.set_cons_succ]
      refine wpAnyH_done (by kernel_rfl) ?_ _
      have TG27 : True := trivial
      go_wp2_with (clear TG27; have hRl := Og19.lt; refine storesr_bool rfl rfl (g := g19) (k := k) (n := N) (by rfl) rfl (by rfl) Og19 hlt ?_; clear Og19; intro s27 G27 Og19; have z28 := G27.size; replace E := grown_ext E G27 (by omega); replace LB6 := LB6.grown G27 (by omega); replace LB7 := LB7.grown G27 (by omega); replace LB8 := LB8.grown G27 (by omega); replace RB8 := RB8.grown G27 (by omega); replace HG := HG.grown G27 (by omega); clear hRl G27)
      exact ⟨⟨k + 1, by omega, by go_num, HG, by rw [← HFK.out, ← HFk.out]; exact Og19⟩, by simp [intOf]; omega⟩
    · have hkN : k = N := by omega
      rw [hkN] at Og19
      clear HG
      go_wp2_with fail
      clear LB6 LB7
      refine (cpk g19 _ Og19).mono ?_
      rintro e w52 ⟨p, rfl, hq, x⟩
      clear Og19
      have NP := hq.bs.now
      clear hq
      have z29 := x.size
      replace E := E.trans x
      replace LB8 := LB8.ext x
      replace RB8 := RB8.ext x
      clear x
      go_wp2_with fail
      refine (cbo p _ NP.is).mono ?_
      rintro e w53 ⟨o, rfl, hq, x⟩
      have VO := hq _ NP
      have Fo := VO.is.flat
      clear hq
      have z30 := x.size
      replace E := E.trans x
      replace LB8 := LB8.ext x
      replace RB8 := RB8.ext x
      replace NP := NP.ext x
      clear x
      have TG31 : True := trivial
      go_wp2_with (clear TG31; have hRl := (RB8).lt (Nat.zero_lt_succ _); refine storesV (B := B8) rfl rfl rfl (v := o) rfl RB8 Fo ?_; clear LB8; intro s31 G31 LB8 RQ; have z32 := G31.size; replace E := grown_ext E G31 (by omega); replace NP := NP.grown G31 (by first | omega | (dsimp only [New]; omega)); replace VO := VO.grown G31 (by first | omega | (dsimp only [New]; omega)); clear RB8; have RB8 := RQ; clear RQ hRl; clear RB8)
      refine bodyPost_ret (results_lay2 rfl rfl rfl (ldV LB8)) rfl ?_
      exact ⟨o, rfl, VO.mono (fun i hi h => by dsimp only [New] at *; omega), E⟩
theorem chars_ne (N : Nat) (hN2 : N ≤ 1048576) (hF : Flat 8 v) (hG : Flat 8 u) (ka kb : Int) (ca : ∀ w', Ext w w' → Calls Try.prog 56 #[v] w' fun e w2 => e = .returned (.int .i64 ka) ∧ Ext w' w2) (cb : ∀ w', Ext w w' → Calls Try.prog 56 #[u] w' fun e w2 => e = .returned (.int .i64 kb) ∧ Ext w' w2) (hk : (ka == kb) = true) (P Q : Nat → Int) (ck : ∀ k : Nat, k < N → ∃ i j : Int, (∀ w2, Ext w w2 → Calls Try.prog 94 #[v, .int .i64 (k : Nat)] w2 fun e w3 => e = .returned (.int .i64 i) ∧ Ext w2 w3) ∧ (∀ w2, Ext w w2 → Calls Try.prog 93 #[v, .int .i64 i] w2 fun e w3 => e = .returned (.int .i32 (P k)) ∧ Ext w2 w3) ∧ (∀ w2, Ext w w2 → Calls Try.prog 94 #[u, .int .i64 (k : Nat)] w2 fun e w3 => e = .returned (.int .i64 j) ∧ Ext w2 w3) ∧ (∀ w2, Ext w w2 → Calls Try.prog 93 #[u, .int .i64 j] w2 fun e w3 => e = .returned (.int .i32 (Q k)) ∧ Ext w2 w3)) :
    Calls Try.prog 78 #[.int .i64 16, .int .i64 (N : Int), v, u] w fun e w' => ∃ p, e = .returned (.tuple #[p, .int .i64 0]) ∧ VecS w' p (VD.bits (tabL N (fun k => P k != Q k))) (New w.heap.size) ∧ Ext w w' := by
  obtain ⟨FN, hFN⟩ : ∃ FN : Nat → Value, (fun k => Value.bool ((fun k => P k != Q k) k)) = FN := ⟨_, rfl⟩
  have HFN := Lib.hid fun k => congrFun hFN k
  obtain ⟨RL, hRL⟩ : ∃ RL, tabL N (fun k => P k != Q k) = RL := ⟨_, rfl⟩
  have hR : bools RL = fillL FN (.bool false) N N := by rw [fillL_full, ← hFN, ← hRL]; simp [bools, tabL]
  have hRl : RL.length = N := by rw [← hRL]; exact tabL_length _ _
  have cpk : ∀ g w, RowO 4 w g N (fillL FN (.bool false) N N) → Calls Try.prog 86 #[.slice (some ⟨g, 0, none⟩) N N] w fun e w' => ∃ p, e = .returned p ∧ OwnB w' w.heap.size p RL ∧ Ext w w' := fun g w h => by
    have h2 := h.sl
    rw [← hR] at h2
    have := pack_any (some ⟨g, 0, none⟩) N RL w (by rw [hRl]; exact hN2) (by rw [hRl]; exact Nat.le_refl _) (by rw [hRl]; exact h2)
    rwa [hRl] at this
  have cbo := fun p w h => VecS.bits_of p RL w h
  rw [hRL]
  clear hFN hR hRl hRL
  have E := Ext.refl w
  go_enter Try.func78, Try.ntmps78
  have TB6 : True := trivial
  have TB7 : True := trivial
  have TB8 : True := trivial
  have TM19 : True := trivial
  go_wp2_with (first | (clear TB6; refine boxsV (v := v) rfl rfl rfl hF ?_; intro B6 w6 bB6 cB6 XB6 LB6 RB6; have z1 := XB6.size; replace E := E.trans XB6; clear RB6) | (clear TB7; refine boxsV (v := u) rfl rfl rfl hG ?_; intro B7 w7 bB7 cB7 XB7 LB7 RB7; have z2 := XB7.size; replace E := E.trans XB7; replace LB6 := LB6.ext XB7; clear RB7) | (clear TB8; refine allocsV rfl rfl ?_; intro B8 w8 bB8 cB8 XB8 LB8 RB8; have z3 := XB8.size; replace E := E.trans XB8; replace LB6 := LB6.ext XB8; replace LB7 := LB7.ext XB8) | (clear TM19; refine maker_bool rfl rfl (n := N) rfl hN2 ?_; intro g19 w19 bg19 cg19 X19 Og19; have z4 := X19.size; replace E := E.trans X19; replace LB6 := LB6.ext X19; replace LB7 := LB7.ext X19; replace LB8 := LB8.ext X19; replace RB8 := RB8.ext X19; clear X19))
  go_loopw [22] (fun i wr => ∃ k : Nat, k ≤ N ∧ i = .int .i64 k ∧ Grw w19 g19 wr ∧ RowO 4 wr g19 N (fillL FN (.bool false) N k)) (fun i _ => N - (intOf i).toNat)
  case atStart => exact ⟨0, Nat.zero_le _, rfl, Grw.refl _ _, by rw [fillL_zero]; exact Og19⟩
  case round =>
    obtain ⟨k, hk', rfl, HG, O2⟩ := hrel
    clear Og19
    have Og19 := O2
    clear O2
    have z5 := HG.out.size
    replace E := grown_ext E HG.out (by omega)
    replace LB6 := LB6.grown HG.out (by omega)
    replace LB7 := LB7.grown HG.out (by omega)
    replace LB8 := LB8.grown HG.out (by omega)
    replace RB8 := RB8.grown HG.out (by omega)
    by_cases hlt : k < N
    · obtain ⟨ik, jk, c1, c2, c3, c4⟩ := ck k hlt
      have HFk := Lib.hid (HFN.out k)
      have HFK := Lib.hid (fillL_set FN (.bool false) hlt)
      clear ck
      try dsimp only at HFk
      generalize P k = pk at *
      generalize Q k = qk at *
      go_wp2_with fail
      try simp only [Act.put, List.setIfInBounds_toArray, List.set_cons_zero, List.set_cons_succ]
      have hq6 : wr.heap.size ≤ wr.drew.heap.size := Nat.le_refl _
      have z7 := (Ext.refl wr).drew.size
      replace E := E.trans (Ext.refl wr).drew
      replace LB6 := LB6.ext (Ext.refl wr).drew
      replace LB7 := LB7.ext (Ext.refl wr).drew
      replace LB8 := LB8.ext (Ext.refl wr).drew
      replace RB8 := RB8.ext (Ext.refl wr).drew
      replace Og19 := Og19.ext (Ext.refl wr).drew
      replace HG := HG.ext (Ext.refl wr).drew
      refine wp_region_held_drew (S := (fun w' => Lay 8 w' B6 v ∧ Lay 8 w' B7 u)) (by kernel_rfl) ⟨LB6, LB7⟩ (fun hHeld => ?_)
      refine wpAnyH_take (i := 0) (oi := { dst := some 25, op := Go.Op.load 34 (Go.Operand.tmp 6), type := 34, pos := "relate.go:110", after := #[], guard := none }) (v := v) rfl (by kernel_rfl) (by kernel_rfl) (by kernel_rfl) (fun _ _ _ h => h) (yieldV (by rfl) rfl rfl fun w' hx => hx.1) hHeld ?_
      try simp only [Act.put, List.setIfInBounds_toArray, List.set_cons_zero, List.set_cons_succ]
      refine wpAnyH_take (i := 2) (oi := { dst := some 27, op := Go.Op.load 34 (Go.Operand.tmp 7), type := 34, pos := "relate.go:110", after := #[], guard := none }) (v := u) rfl (by kernel_rfl) (by kernel_rfl) (by kernel_rfl) (fun _ _ _ h => h) (yieldV (by rfl) rfl rfl fun w' hx => hx.2) hHeld ?_
      try simp only [Act.put, List.setIfInBounds_toArray, List.set_cons_zero, List.set_cons_succ]
      refine wpAnyH_ready (rs := [1]) (by kernel_rfl) (by simp) ?_
      refine AllReadyH.cons (o := { dst := some 26, op := Go.Op.call { callee := Go.Callee.value (Go.Operand.func 56), args := #[Go.Operand.tmp 25], argTypes := #[34] }, type := 3, pos := "relate.go:110", after := #[{ on := 0, ground := Go.Ground.data }], guard := none }) rfl (fun K hK => ?_) (AllReadyH.nil)
      go_simp
      refine (ca _ E).mono ?_
      rintro e w26 ⟨rfl, x⟩
      have z10 := x.size
      replace E := E.trans x
      replace LB6 := LB6.ext x
      replace LB7 := LB7.ext x
      replace LB8 := LB8.ext x
      replace RB8 := RB8.ext x
      replace Og19 := Og19.ext x
      replace HG := HG.ext x
      clear x
      clear hHeld
      have hHeld := And.intro LB6 (LB7)
      refine hK.out _ _ hHeld (fun _ => ?_)
      clear hK K
      try simp only [Act.put, List.setIfInBounds_toArray, List.set_cons_zero, List.set_cons_succ]
      refine wpAnyH_ready (rs := [3]) (by kernel_rfl) (by simp) ?_
      refine AllReadyH.cons (o := { dst := some 28, op := Go.Op.call { callee := Go.Callee.value (Go.Operand.func 56), args := #[Go.Operand.tmp 27], argTypes := #[34] }, type := 3, pos := "relate.go:110", after := #[{ on := 2, ground := Go.Ground.data }, { on := 1, ground := Go.Ground.chain }], guard := none }) rfl (fun K hK => ?_) (AllReadyH.nil)
      go_simp
      refine (cb _ E).mono ?_
      rintro e w28 ⟨rfl, x⟩
      have z11 := x.size
      replace E := E.trans x
      replace LB6 := LB6.ext x
      replace LB7 := LB7.ext x
      replace LB8 := LB8.ext x
      replace RB8 := RB8.ext x
      replace Og19 := Og19.ext x
      replace HG := HG.ext x
      clear x
      clear hHeld
      have hHeld := And.intro LB6 (LB7)
      refine hK.out _ _ hHeld (fun _ => ?_)
      clear hK K
      try simp only [Act.put, List.setIfInBounds_toArray, List.set_cons_zero, List.set_cons_succ]
      refine wpAnyH_take (i := 4) (oi := { dst := some 29, op := Go.Op.binOp Go.BinOp.eql 3 (Go.Operand.tmp 26) (Go.Operand.tmp 28) 3, type := 4, pos := "relate.go:110", after := #[{ on := 1, ground := Go.Ground.data }, { on := 3, ground := Go.Ground.data }], guard := none }) (v := ?v12) rfl (by kernel_rfl) (by kernel_rfl) (by kernel_rfl) (fun _ _ _ h => h) (Or.inl ⟨by rfl, ?hy12⟩) hHeld ?rest12
      case hy12 => (intro w hSw; (try dsimp only at hSw); go_simp; (first | done | with_reducible rfl))
      try simp only [Act.put, List.setIfInBounds_toArray, List.set_cons_zero, List.set_cons_succ]
      refine wpAnyH_take (i := 5) (oi := { dst := some 30, op := Go.Op.move (Go.Operand.tmp 29), type := 4, pos := "relate.go:110", after := #[{ on := 4, ground := Go.Ground.data }, { on := 3, ground := Go.Ground.chain }], guard := none }) (v := ?v13) rfl (by kernel_rfl) (by kernel_rfl) (by kernel_rfl) (fun _ _ _ h => h) (Or.inl ⟨by rfl, ?hy13⟩) hHeld ?rest13
      case hy13 => (intro w hSw; (try dsimp only at hSw); go_simp; (first | done | with_reducible rfl))
      try simp only [Act.put, List.setIfInBounds_toArray, List.set_cons_zero, List.set_cons_succ]
      refine wpAnyH_take (i := 6) (oi := { dst := some 31, op := Go.Op.load 34 (Go.Operand.tmp 6), type := 34, pos := "relate.go:110", after := #[{ on := 5, ground := Go.Ground.guard }], guard := some (5, true) }) (v := v) rfl (by kernel_rfl) (by kernel_rfl) (by kernel_rfl) (fun _ _ _ h => h) (yieldV (by rfl) rfl rfl fun w' hx => hx.1) hHeld ?_
      try simp only [Act.put, List.setIfInBounds_toArray, List.set_cons_zero, List.set_cons_succ]
      refine wpAnyH_take (i := 7) (oi := { dst := some 32, op := Go.Op.load 34 (Go.Operand.tmp 6), type := 34, pos := "relate.go:110", after := #[{ on := 5, ground := Go.Ground.guard }], guard := some (5, true) }) (v := v) rfl (by kernel_rfl) (by kernel_rfl) (by kernel_rfl) (fun _ _ _ h => h) (yieldV (by rfl) rfl rfl fun w' hx => hx.1) hHeld ?_
      try simp only [Act.put, List.setIfInBounds_toArray, List.set_cons_zero, List.set_cons_succ]
      refine wpAnyH_take (i := 8) (oi := { dst := some 33, op := Go.Op.move (Go.Operand.tmp 11), type := 3, pos := "relate.go:110", after := #[{ on := 5, ground := Go.Ground.guard }], guard := some (5, true) }) (v := ?v16) rfl (by kernel_rfl) (by kernel_rfl) (by kernel_rfl) (fun _ _ _ h => h) (Or.inl ⟨by rfl, ?hy16⟩) hHeld ?rest16
      case hy16 => (intro w hSw; (try dsimp only at hSw); go_simp; (first | done | with_reducible rfl))
      try simp only [Act.put, List.setIfInBounds_toArray, List.set_cons_zero, List.set_cons_succ]
      refine wpAnyH_take (i := 11) (oi := { dst := some 36, op := Go.Op.load 34 (Go.Operand.tmp 7), type := 34, pos := "relate.go:110", after := #[{ on := 5, ground := Go.Ground.guard }], guard := some (5, true) }) (v := u) rfl (by kernel_rfl) (by kernel_rfl) (by kernel_rfl) (fun _ _ _ h => h) (yieldV (by rfl) rfl rfl fun w' hx => hx.2) hHeld ?_
      try simp only [Act.put, List.setIfInBounds_toArray, List.set_cons_zero, List.set_cons_succ]
      refine wpAnyH_take (i := 12) (oi := { dst := some 37, op := Go.Op.load 34 (Go.Operand.tmp 7), type := 34, pos := "relate.go:110", after := #[{ on := 5, ground := Go.Ground.guard }], guard := some (5, true) }) (v := u) rfl (by kernel_rfl) (by kernel_rfl) (by kernel_rfl) (fun _ _ _ h => h) (yieldV (by rfl) rfl rfl fun w' hx => hx.2) hHeld ?_
      try simp only [Act.put, List.setIfInBounds_toArray, List.set_cons_zero, List.set_cons_succ]
      refine wpAnyH_take (i := 13) (oi := { dst := some 38, op := Go.Op.move (Go.Operand.tmp 11), type := 3, pos := "relate.go:110", after := #[{ on := 5, ground := Go.Ground.guard }], guard := some (5, true) }) (v := ?v19) rfl (by kernel_rfl) (by kernel_rfl) (by kernel_rfl) (fun _ _ _ h => h) (Or.inl ⟨by rfl, ?hy19⟩) hHeld ?rest19
      case hy19 => (intro w hSw; (try dsimp only at hSw); go_simp; (first | done | with_reducible rfl))
      try simp only [Act.put, List.setIfInBounds_toArray, List.set_cons_zero, List.set_cons_succ]
      refine wpAnyH_ready (rs := [9]) (by kernel_rfl) (by simp) ?_
      refine AllReadyH.cons (o := { dst := some 34, op := Go.Op.call { callee := Go.Callee.value (Go.Operand.func 94), args := #[Go.Operand.tmp 32, Go.Operand.tmp 33], argTypes := #[34, 3] }, type := 3, pos := "relate.go:110", after := #[{ on := 7, ground := Go.Ground.data }, { on := 8, ground := Go.Ground.data }, { on := 5, ground := Go.Ground.chain }, { on := 5, ground := Go.Ground.guard }], guard := some (5, true) }) rfl (fun K hK => ?_) (AllReadyH.nil)
      go_simp
      refine (c1 _ E).mono ?_
      rintro e w34 ⟨rfl, x⟩
      have z20 := x.size
      replace E := E.trans x
      replace LB6 := LB6.ext x
      replace LB7 := LB7.ext x
      replace LB8 := LB8.ext x
      replace RB8 := RB8.ext x
      replace Og19 := Og19.ext x
      replace HG := HG.ext x
      clear x
      clear hHeld
      have hHeld := And.intro LB6 (LB7)
      refine hK.out _ _ hHeld (fun _ => ?_)
      clear hK K
      try simp only [Act.put, List.setIfInBounds_toArray, List.set_cons_zero, List.set_cons_succ]
      refine wpAnyH_ready (rs := [10]) (by kernel_rfl) (by simp) ?_
      refine AllReadyH.cons (o := { dst := some 35, op := Go.Op.call { callee := Go.Callee.value (Go.Operand.func 93), args := #[Go.Operand.tmp 31, Go.Operand.tmp 34], argTypes := #[34, 3] }, type := 21, pos := "relate.go:110", after := #[{ on := 6, ground := Go.Ground.data }, { on := 9, ground := Go.Ground.data }, { on := 9, ground := Go.Ground.chain }, { on := 5, ground := Go.Ground.guard }], guard := some (5, true) }) rfl (fun K hK => ?_) (AllReadyH.nil)
      go_simp
      refine (c2 _ E).mono ?_
      rintro e w35 ⟨rfl, x⟩
      have z21 := x.size
      replace E := E.trans x
      replace LB6 := LB6.ext x
      replace LB7 := LB7.ext x
      replace LB8 := LB8.ext x
      replace RB8 := RB8.ext x
      replace Og19 := Og19.ext x
      replace HG := HG.ext x
      clear x
      clear hHeld
      have hHeld := And.intro LB6 (LB7)
      refine hK.out _ _ hHeld (fun _ => ?_)
      clear hK K
      try simp only [Act.put, List.setIfInBounds_toArray, List.set_cons_zero, List.set_cons_succ]
      refine wpAnyH_ready (rs := [14]) (by kernel_rfl) (by simp) ?_
      refine AllReadyH.cons (o := { dst := some 39, op := Go.Op.call { callee := Go.Callee.value (Go.Operand.func 94), args := #[Go.Operand.tmp 37, Go.Operand.tmp 38], argTypes := #[34, 3] }, type := 3, pos := "relate.go:110", after := #[{ on := 12, ground := Go.Ground.data }, { on := 13, ground := Go.Ground.data }, { on := 10, ground := Go.Ground.chain }, { on := 5, ground := Go.Ground.guard }], guard := some (5, true) }) rfl (fun K hK => ?_) (AllReadyH.nil)
      go_simp
      refine (c3 _ E).mono ?_
      rintro e w39 ⟨rfl, x⟩
      have z22 := x.size
      replace E := E.trans x
      replace LB6 := LB6.ext x
      replace LB7 := LB7.ext x
      replace LB8 := LB8.ext x
      replace RB8 := RB8.ext x
      replace Og19 := Og19.ext x
      replace HG := HG.ext x
      clear x
      clear hHeld
      have hHeld := And.intro LB6 (LB7)
      refine hK.out _ _ hHeld (fun _ => ?_)
      clear hK K
      try simp only [Act.put, List.setIfInBounds_toArray, List.set_cons_zero, List.set_cons_succ]
      refine wpAnyH_ready (rs := [15]) (by kernel_rfl) (by simp) ?_
      refine AllReadyH.cons (o := { dst := some 40, op := Go.Op.call { callee := Go.Callee.value (Go.Operand.func 93), args := #[Go.Operand.tmp 36, Go.Operand.tmp 39], argTypes := #[34, 3] }, type := 21, pos := "relate.go:110", after := #[{ on := 11, ground := Go.Ground.data }, { on := 14, ground := Go.Ground.data }, { on := 14, ground := Go.Ground.chain }, { on := 5, ground := Go.Ground.guard }], guard := some (5, true) }) rfl (fun K hK => ?_) (AllReadyH.nil)
      go_simp
      refine (c4 _ E).mono ?_
      rintro e w40 ⟨rfl, x⟩
      have z23 := x.size
      replace E := E.trans x
      replace LB6 := LB6.ext x
      replace LB7 := LB7.ext x
      replace LB8 := LB8.ext x
      replace RB8 := RB8.ext x
      replace Og19 := Og19.ext x
      replace HG := HG.ext x
      clear x
      clear hHeld
      have hHeld := And.intro LB6 (LB7)
      refine hK.out _ _ hHeld (fun _ => ?_)
      clear hK K
      try simp only [Act.put, List.setIfInBounds_toArray, List.set_cons_zero, List.set_cons_succ]
      refine wpAnyH_take (i := 16) (oi := { dst := some 41, op := Go.Op.binOp Go.BinOp.eql 21 (Go.Operand.tmp 35) (Go.Operand.tmp 40) 21, type := 4, pos := "relate.go:110", after := #[{ on := 10, ground := Go.Ground.data }, { on := 15, ground := Go.Ground.data }, { on := 5, ground := Go.Ground.guard }], guard := some (5, true) }) (v := ?v24) rfl (by kernel_rfl) (by kernel_rfl) (by kernel_rfl) (fun _ _ _ h => h) (Or.inl ⟨by rfl, ?hy24⟩) hHeld ?rest24
      case hy24 => (intro w hSw; (try dsimp only at hSw); go_simp; (first | done | with_reducible rfl))
      try simp only [Act.put, List.setIfInBounds_toArray, List.set_cons_zero, List.set_cons_succ]
      refine wpAnyH_take (i := 17) (oi := { dst := some 42, op := Go.Op.pick (Go.Operand.tmp 30) (Go.Operand.tmp 41) (Go.Operand.const (Go.Value.bool false)), type := 4, pos := "relate.go:110", after := #[{ on := 5, ground := Go.Ground.data }, { on := 16, ground := Go.Ground.data }], guard := none }) (v := ?v25) rfl (by kernel_rfl) (by kernel_rfl) (by kernel_rfl) (fun _ _ _ h => h) (Or.inl ⟨by rfl, ?hy25⟩) hHeld ?rest25
      case hy25 => (intro w hSw; (try dsimp only at hSw); go_simp; (first | done | with_reducible rfl))
      try simp only [Act.put, List.setIfInBounds_toArray, List.set_cons_zero, List.set_cons_succ]
      refine wpAnyH_take (i := 18) (oi := { dst := some 12, op := Go.Op.assign (Go.Operand.tmp 42), type := 4, pos := "relate.go:110", after := #[{ on := 17, ground := Go.Ground.data }, { on := 15, ground := Go.Ground.chain }, { on := 0, ground := Go.Ground.phase }, { on := 1, ground := Go.Ground.phase }, { on := 2, ground := Go.Ground.phase }, { on := 3, ground := Go.Ground.phase }, { on := 4, ground := Go.Ground.phase }, { on := 5, ground := Go.Ground.phase }, { on := 6, ground := Go.Ground.phase }, { on := 7, ground := Go.Ground.phase }, { on := 8, ground := Go.Ground.phase }, { on := 9, ground := Go.Ground.phase }, { on := 10, ground := Go.Ground.phase }, { on := 11, ground := Go.Ground.phase }, { on := 12, ground := Go.Ground.phase }, { on := 13, ground := Go.Ground.phase }, { on := 14, ground := Go.Ground.phase }, { on := 15, ground := Go.Ground.phase }, { on := 16, ground := Go.Ground.phase }, { on := 17, ground := Go.Ground.phase }], guard := none }) (v := ?v26) rfl (by kernel_rfl) (by kernel_rfl) (by kernel_rfl) (fun _ _ _ h => h) (Or.inl ⟨by rfl, ?hy26⟩) hHeld ?rest26
      case hy26 => (intro w hSw; (try dsimp only at hSw); go_simp; (first | done | with_reducible rfl))
      try simp only [Act.put, List.setIfInBounds_toArray, List.set_cons_zero, List.set_cons_succ]
      refine wpAnyH_done (by kernel_rfl) ?_ _
      have TG27 : True := trivial
      go_wp2_with (clear TG27; have hRl := Og19.lt; refine storesr_bool rfl rfl (g := g19) (k := k) (n := N) (by rfl) rfl (by rfl) Og19 hlt ?_; clear Og19; intro s27 G27 Og19; have z28 := G27.size; replace E := grown_ext E G27 (by omega); replace LB6 := LB6.grown G27 (by omega); replace LB7 := LB7.grown G27 (by omega); replace LB8 := LB8.grown G27 (by omega); replace RB8 := RB8.grown G27 (by omega); replace HG := HG.grown G27 (by omega); clear hRl G27)
      exact ⟨⟨k + 1, by omega, by go_num, HG, by rw [← HFK.out, ← HFk.out]; exact Og19⟩, by simp [intOf]; omega⟩
    · have hkN : k = N := by omega
      rw [hkN] at Og19
      clear HG
      go_wp2_with fail
      clear LB6 LB7
      refine (cpk g19 _ Og19).mono ?_
      rintro e w52 ⟨p, rfl, hq, x⟩
      clear Og19
      have NP := hq.bs.now
      clear hq
      have z29 := x.size
      replace E := E.trans x
      replace LB8 := LB8.ext x
      replace RB8 := RB8.ext x
      clear x
      go_wp2_with fail
      refine (cbo p _ NP.is).mono ?_
      rintro e w53 ⟨o, rfl, hq, x⟩
      have VO := hq _ NP
      have Fo := VO.is.flat
      clear hq
      have z30 := x.size
      replace E := E.trans x
      replace LB8 := LB8.ext x
      replace RB8 := RB8.ext x
      replace NP := NP.ext x
      clear x
      have TG31 : True := trivial
      go_wp2_with (clear TG31; have hRl := (RB8).lt (Nat.zero_lt_succ _); refine storesV (B := B8) rfl rfl rfl (v := o) rfl RB8 Fo ?_; clear LB8; intro s31 G31 LB8 RQ; have z32 := G31.size; replace E := grown_ext E G31 (by omega); replace NP := NP.grown G31 (by first | omega | (dsimp only [New]; omega)); replace VO := VO.grown G31 (by first | omega | (dsimp only [New]; omega)); clear RB8; have RB8 := RQ; clear RQ hRl; clear RB8)
      refine bodyPost_ret (results_lay2 rfl rfl rfl (ldV LB8)) rfl ?_
      exact ⟨o, rfl, VO.mono (fun i hi h => by dsimp only [New] at *; omega), E⟩
theorem chars_eq_not (N : Nat) (hN2 : N ≤ 1048576) (hF : Flat 8 v) (hG : Flat 8 u) (ka kb : Int) (ca : ∀ w', Ext w w' → Calls Try.prog 56 #[v] w' fun e w2 => e = .returned (.int .i64 ka) ∧ Ext w' w2) (cb : ∀ w', Ext w w' → Calls Try.prog 56 #[u] w' fun e w2 => e = .returned (.int .i64 kb) ∧ Ext w' w2) (hk : (ka == kb) = false) :
    Calls Try.prog 78 #[.int .i64 13, .int .i64 (N : Int), v, u] w fun e w' => ∃ p, e = .returned (.tuple #[p, .int .i64 0]) ∧ VecS w' p (VD.bits (tabL N (fun _ => false))) (New w.heap.size) ∧ Ext w w' := by
  obtain ⟨FN, hFN⟩ : ∃ FN : Nat → Value, (fun k => Value.bool ((fun _ => false) k)) = FN := ⟨_, rfl⟩
  have HFN := Lib.hid fun k => congrFun hFN k
  obtain ⟨RL, hRL⟩ : ∃ RL, tabL N (fun _ => false) = RL := ⟨_, rfl⟩
  have hR : bools RL = fillL FN (.bool false) N N := by rw [fillL_full, ← hFN, ← hRL]; simp [bools, tabL]
  have hRl : RL.length = N := by rw [← hRL]; exact tabL_length _ _
  have cpk : ∀ g w, RowO 4 w g N (fillL FN (.bool false) N N) → Calls Try.prog 86 #[.slice (some ⟨g, 0, none⟩) N N] w fun e w' => ∃ p, e = .returned p ∧ OwnB w' w.heap.size p RL ∧ Ext w w' := fun g w h => by
    have h2 := h.sl
    rw [← hR] at h2
    have := pack_any (some ⟨g, 0, none⟩) N RL w (by rw [hRl]; exact hN2) (by rw [hRl]; exact Nat.le_refl _) (by rw [hRl]; exact h2)
    rwa [hRl] at this
  have cbo := fun p w h => VecS.bits_of p RL w h
  rw [hRL]
  clear hFN hR hRl hRL
  have E := Ext.refl w
  go_enter Try.func78, Try.ntmps78
  have TB6 : True := trivial
  have TB7 : True := trivial
  have TB8 : True := trivial
  have TM19 : True := trivial
  go_wp2_with (first | (clear TB6; refine boxsV (v := v) rfl rfl rfl hF ?_; intro B6 w6 bB6 cB6 XB6 LB6 RB6; have z1 := XB6.size; replace E := E.trans XB6; clear RB6) | (clear TB7; refine boxsV (v := u) rfl rfl rfl hG ?_; intro B7 w7 bB7 cB7 XB7 LB7 RB7; have z2 := XB7.size; replace E := E.trans XB7; replace LB6 := LB6.ext XB7; clear RB7) | (clear TB8; refine allocsV rfl rfl ?_; intro B8 w8 bB8 cB8 XB8 LB8 RB8; have z3 := XB8.size; replace E := E.trans XB8; replace LB6 := LB6.ext XB8; replace LB7 := LB7.ext XB8) | (clear TM19; refine maker_bool rfl rfl (n := N) rfl hN2 ?_; intro g19 w19 bg19 cg19 X19 Og19; have z4 := X19.size; replace E := E.trans X19; replace LB6 := LB6.ext X19; replace LB7 := LB7.ext X19; replace LB8 := LB8.ext X19; replace RB8 := RB8.ext X19; clear X19))
  go_loopw [22] (fun i wr => ∃ k : Nat, k ≤ N ∧ i = .int .i64 k ∧ Grw w19 g19 wr ∧ RowO 4 wr g19 N (fillL FN (.bool false) N k)) (fun i _ => N - (intOf i).toNat)
  case atStart => exact ⟨0, Nat.zero_le _, rfl, Grw.refl _ _, by rw [fillL_zero]; exact Og19⟩
  case round =>
    obtain ⟨k, hk', rfl, HG, O2⟩ := hrel
    clear Og19
    have Og19 := O2
    clear O2
    have z5 := HG.out.size
    replace E := grown_ext E HG.out (by omega)
    replace LB6 := LB6.grown HG.out (by omega)
    replace LB7 := LB7.grown HG.out (by omega)
    replace LB8 := LB8.grown HG.out (by omega)
    replace RB8 := RB8.grown HG.out (by omega)
    by_cases hlt : k < N
    · have HFk := Lib.hid (HFN.out k)
      have HFK := Lib.hid (fillL_set FN (.bool false) hlt)
      go_wp2_with fail
      try simp only [Act.put, List.setIfInBounds_toArray, List.set_cons_zero, List.set_cons_succ]
      have hq6 : wr.heap.size ≤ wr.drew.heap.size := Nat.le_refl _
      have z7 := (Ext.refl wr).drew.size
      replace E := E.trans (Ext.refl wr).drew
      replace LB6 := LB6.ext (Ext.refl wr).drew
      replace LB7 := LB7.ext (Ext.refl wr).drew
      replace LB8 := LB8.ext (Ext.refl wr).drew
      replace RB8 := RB8.ext (Ext.refl wr).drew
      replace Og19 := Og19.ext (Ext.refl wr).drew
      replace HG := HG.ext (Ext.refl wr).drew
      refine wp_region_held_drew (S := (fun w' => Lay 8 w' B6 v ∧ Lay 8 w' B7 u)) (by kernel_rfl) ⟨LB6, LB7⟩ (fun hHeld => ?_)
      refine wpAnyH_take (i := 0) (oi := { dst := some 25, op := Go.Op.load 34 (Go.Operand.tmp 6), type := 34, pos := "relate.go:110", after := #[], guard := none }) (v := v) rfl (by kernel_rfl) (by kernel_rfl) (by kernel_rfl) (fun _ _ _ h => h) (yieldV (by rfl) rfl rfl fun w' hx => hx.1) hHeld ?_
      try simp only [Act.put, List.setIfInBounds_toArray, List.set_cons_zero, List.set_cons_succ]
      refine wpAnyH_take (i := 2) (oi := { dst := some 27, op := Go.Op.load 34 (Go.Operand.tmp 7), type := 34, pos := "relate.go:110", after := #[], guard := none }) (v := u) rfl (by kernel_rfl) (by kernel_rfl) (by kernel_rfl) (fun _ _ _ h => h) (yieldV (by rfl) rfl rfl fun w' hx => hx.2) hHeld ?_
      try simp only [Act.put, List.setIfInBounds_toArray, List.set_cons_zero, List.set_cons_succ]
      refine wpAnyH_ready (rs := [1]) (by kernel_rfl) (by simp) ?_
      refine AllReadyH.cons (o := { dst := some 26, op := Go.Op.call { callee := Go.Callee.value (Go.Operand.func 56), args := #[Go.Operand.tmp 25], argTypes := #[34] }, type := 3, pos := "relate.go:110", after := #[{ on := 0, ground := Go.Ground.data }], guard := none }) rfl (fun K hK => ?_) (AllReadyH.nil)
      go_simp
      refine (ca _ E).mono ?_
      rintro e w26 ⟨rfl, x⟩
      have z10 := x.size
      replace E := E.trans x
      replace LB6 := LB6.ext x
      replace LB7 := LB7.ext x
      replace LB8 := LB8.ext x
      replace RB8 := RB8.ext x
      replace Og19 := Og19.ext x
      replace HG := HG.ext x
      clear x
      clear hHeld
      have hHeld := And.intro LB6 (LB7)
      refine hK.out _ _ hHeld (fun _ => ?_)
      clear hK K
      try simp only [Act.put, List.setIfInBounds_toArray, List.set_cons_zero, List.set_cons_succ]
      refine wpAnyH_ready (rs := [3]) (by kernel_rfl) (by simp) ?_
      refine AllReadyH.cons (o := { dst := some 28, op := Go.Op.call { callee := Go.Callee.value (Go.Operand.func 56), args := #[Go.Operand.tmp 27], argTypes := #[34] }, type := 3, pos := "relate.go:110", after := #[{ on := 2, ground := Go.Ground.data }, { on := 1, ground := Go.Ground.chain }], guard := none }) rfl (fun K hK => ?_) (AllReadyH.nil)
      go_simp
      refine (cb _ E).mono ?_
      rintro e w28 ⟨rfl, x⟩
      have z11 := x.size
      replace E := E.trans x
      replace LB6 := LB6.ext x
      replace LB7 := LB7.ext x
      replace LB8 := LB8.ext x
      replace RB8 := RB8.ext x
      replace Og19 := Og19.ext x
      replace HG := HG.ext x
      clear x
      clear hHeld
      have hHeld := And.intro LB6 (LB7)
      refine hK.out _ _ hHeld (fun _ => ?_)
      clear hK K
      try simp only [Act.put, List.setIfInBounds_toArray, List.set_cons_zero, List.set_cons_succ]
      refine wpAnyH_take (i := 4) (oi := { dst := some 29, op := Go.Op.binOp Go.BinOp.eql 3 (Go.Operand.tmp 26) (Go.Operand.tmp 28) 3, type := 4, pos := "relate.go:110", after := #[{ on := 1, ground := Go.Ground.data }, { on := 3, ground := Go.Ground.data }], guard := none }) (v := ?v12) rfl (by kernel_rfl) (by kernel_rfl) (by kernel_rfl) (fun _ _ _ h => h) (Or.inl ⟨by rfl, ?hy12⟩) hHeld ?rest12
      case hy12 => (intro w hSw; (try dsimp only at hSw); go_simp; (first | done | with_reducible rfl))
      try simp only [Act.put, List.setIfInBounds_toArray, List.set_cons_zero, List.set_cons_succ]
      refine wpAnyH_take (i := 5) (oi := { dst := some 30, op := Go.Op.move (Go.Operand.tmp 29), type := 4, pos := "relate.go:110", after := #[{ on := 4, ground := Go.Ground.data }, { on := 3, ground := Go.Ground.chain }], guard := none }) (v := ?v13) rfl (by kernel_rfl) (by kernel_rfl) (by kernel_rfl) (fun _ _ _ h => h) (Or.inl ⟨by rfl, ?hy13⟩) hHeld ?rest13
      case hy13 => (intro w hSw; (try dsimp only at hSw); go_simp; (first | done | with_reducible rfl))
      try simp only [Act.put, List.setIfInBounds_toArray, List.set_cons_zero, List.set_cons_succ]
      refine wpAnyH_take (i := 6) (oi := { dst := some 31, op := Go.Op.load 34 (Go.Operand.tmp 6), type := 34, pos := "relate.go:110", after := #[{ on := 5, ground := Go.Ground.guard }], guard := some (5, true) }) (v := undef) rfl (by kernel_rfl) (by kernel_rfl) (by kernel_rfl) (fun _ _ _ h => h) (Or.inr ⟨by rfl, rfl⟩) hHeld ?_
      try simp only [Act.put, List.setIfInBounds_toArray, List.set_cons_zero, List.set_cons_succ]
      refine wpAnyH_take (i := 7) (oi := { dst := some 32, op := Go.Op.load 34 (Go.Operand.tmp 6), type := 34, pos := "relate.go:110", after := #[{ on := 5, ground := Go.Ground.guard }], guard := some (5, true) }) (v := undef) rfl (by kernel_rfl) (by kernel_rfl) (by kernel_rfl) (fun _ _ _ h => h) (Or.inr ⟨by rfl, rfl⟩) hHeld ?_
      try simp only [Act.put, List.setIfInBounds_toArray, List.set_cons_zero, List.set_cons_succ]
      refine wpAnyH_take (i := 8) (oi := { dst := some 33, op := Go.Op.move (Go.Operand.tmp 11), type := 3, pos := "relate.go:110", after := #[{ on := 5, ground := Go.Ground.guard }], guard := some (5, true) }) (v := undef) rfl (by kernel_rfl) (by kernel_rfl) (by kernel_rfl) (fun _ _ _ h => h) (Or.inr ⟨by rfl, rfl⟩) hHeld ?_
      try simp only [Act.put, List.setIfInBounds_toArray, List.set_cons_zero, List.set_cons_succ]
      refine wpAnyH_take (i := 9) (oi := { dst := some 34, op := Go.Op.call { callee := Go.Callee.value (Go.Operand.func 94), args := #[Go.Operand.tmp 32, Go.Operand.tmp 33], argTypes := #[34, 3] }, type := 3, pos := "relate.go:110", after := #[{ on := 7, ground := Go.Ground.data }, { on := 8, ground := Go.Ground.data }, { on := 5, ground := Go.Ground.chain }, { on := 5, ground := Go.Ground.guard }], guard := some (5, true) }) (v := undef) rfl (by kernel_rfl) (by kernel_rfl) (by kernel_rfl) (fun _ _ _ h => h) (Or.inr ⟨by rfl, rfl⟩) hHeld ?_
      try simp only [Act.put, List.setIfInBounds_toArray, List.set_cons_zero, List.set_cons_succ]
      refine wpAnyH_take (i := 10) (oi := { dst := some 35, op := Go.Op.call { callee := Go.Callee.value (Go.Operand.func 93), args := #[Go.Operand.tmp 31, Go.Operand.tmp 34], argTypes := #[34, 3] }, type := 21, pos := "relate.go:110", after := #[{ on := 6, ground := Go.Ground.data }, { on := 9, ground := Go.Ground.data }, { on := 9, ground := Go.Ground.chain }, { on := 5, ground := Go.Ground.guard }], guard := some (5, true) }) (v := undef) rfl (by kernel_rfl) (by kernel_rfl) (by kernel_rfl) (fun _ _ _ h => h) (Or.inr ⟨by rfl, rfl⟩) hHeld ?_
      try simp only [Act.put, List.setIfInBounds_toArray, List.set_cons_zero, List.set_cons_succ]
      refine wpAnyH_take (i := 11) (oi := { dst := some 36, op := Go.Op.load 34 (Go.Operand.tmp 7), type := 34, pos := "relate.go:110", after := #[{ on := 5, ground := Go.Ground.guard }], guard := some (5, true) }) (v := undef) rfl (by kernel_rfl) (by kernel_rfl) (by kernel_rfl) (fun _ _ _ h => h) (Or.inr ⟨by rfl, rfl⟩) hHeld ?_
      try simp only [Act.put, List.setIfInBounds_toArray, List.set_cons_zero, List.set_cons_succ]
      refine wpAnyH_take (i := 12) (oi := { dst := some 37, op := Go.Op.load 34 (Go.Operand.tmp 7), type := 34, pos := "relate.go:110", after := #[{ on := 5, ground := Go.Ground.guard }], guard := some (5, true) }) (v := undef) rfl (by kernel_rfl) (by kernel_rfl) (by kernel_rfl) (fun _ _ _ h => h) (Or.inr ⟨by rfl, rfl⟩) hHeld ?_
      try simp only [Act.put, List.setIfInBounds_toArray, List.set_cons_zero, List.set_cons_succ]
      refine wpAnyH_take (i := 13) (oi := { dst := some 38, op := Go.Op.move (Go.Operand.tmp 11), type := 3, pos := "relate.go:110", after := #[{ on := 5, ground := Go.Ground.guard }], guard := some (5, true) }) (v := undef) rfl (by kernel_rfl) (by kernel_rfl) (by kernel_rfl) (fun _ _ _ h => h) (Or.inr ⟨by rfl, rfl⟩) hHeld ?_
      try simp only [Act.put, List.setIfInBounds_toArray, List.set_cons_zero, List.set_cons_succ]
      refine wpAnyH_take (i := 14) (oi := { dst := some 39, op := Go.Op.call { callee := Go.Callee.value (Go.Operand.func 94), args := #[Go.Operand.tmp 37, Go.Operand.tmp 38], argTypes := #[34, 3] }, type := 3, pos := "relate.go:110", after := #[{ on := 12, ground := Go.Ground.data }, { on := 13, ground := Go.Ground.data }, { on := 10, ground := Go.Ground.chain }, { on := 5, ground := Go.Ground.guard }], guard := some (5, true) }) (v := undef) rfl (by kernel_rfl) (by kernel_rfl) (by kernel_rfl) (fun _ _ _ h => h) (Or.inr ⟨by rfl, rfl⟩) hHeld ?_
      try simp only [Act.put, List.setIfInBounds_toArray, List.set_cons_zero, List.set_cons_succ]
      refine wpAnyH_take (i := 15) (oi := { dst := some 40, op := Go.Op.call { callee := Go.Callee.value (Go.Operand.func 93), args := #[Go.Operand.tmp 36, Go.Operand.tmp 39], argTypes := #[34, 3] }, type := 21, pos := "relate.go:110", after := #[{ on := 11, ground := Go.Ground.data }, { on := 14, ground := Go.Ground.data }, { on := 14, ground := Go.Ground.chain }, { on := 5, ground := Go.Ground.guard }], guard := some (5, true) }) (v := undef) rfl (by kernel_rfl) (by kernel_rfl) (by kernel_rfl) (fun _ _ _ h => h) (Or.inr ⟨by rfl, rfl⟩) hHeld ?_
      try simp only [Act.put, List.setIfInBounds_toArray, List.set_cons_zero, List.set_cons_succ]
      refine wpAnyH_take (i := 16) (oi := { dst := some 41, op := Go.Op.binOp Go.BinOp.eql 21 (Go.Operand.tmp 35) (Go.Operand.tmp 40) 21, type := 4, pos := "relate.go:110", after := #[{ on := 10, ground := Go.Ground.data }, { on := 15, ground := Go.Ground.data }, { on := 5, ground := Go.Ground.guard }], guard := some (5, true) }) (v := undef) rfl (by kernel_rfl) (by kernel_rfl) (by kernel_rfl) (fun _ _ _ h => h) (Or.inr ⟨by rfl, rfl⟩) hHeld ?_
      try simp only [Act.put, List.setIfInBounds_toArray, List.set_cons_zero, List.set_cons_succ]
      refine wpAnyH_take (i := 17) (oi := { dst := some 42, op := Go.Op.pick (Go.Operand.tmp 30) (Go.Operand.tmp 41) (Go.Operand.const (Go.Value.bool false)), type := 4, pos := "relate.go:110", after := #[{ on := 5, ground := Go.Ground.data }, { on := 16, ground := Go.Ground.data }], guard := none }) (v := ?v25) rfl (by kernel_rfl) (by kernel_rfl) (by kernel_rfl) (fun _ _ _ h => h) (Or.inl ⟨by rfl, ?hy25⟩) hHeld ?rest25
      case hy25 => (intro w hSw; (try dsimp only at hSw); go_simp; (first | done | with_reducible rfl))
      try simp only [Act.put, List.setIfInBounds_toArray, List.set_cons_zero, List.set_cons_succ]
      refine wpAnyH_take (i := 18) (oi := { dst := some 12, op := Go.Op.assign (Go.Operand.tmp 42), type := 4, pos := "relate.go:110", after := #[{ on := 17, ground := Go.Ground.data }, { on := 15, ground := Go.Ground.chain }, { on := 0, ground := Go.Ground.phase }, { on := 1, ground := Go.Ground.phase }, { on := 2, ground := Go.Ground.phase }, { on := 3, ground := Go.Ground.phase }, { on := 4, ground := Go.Ground.phase }, { on := 5, ground := Go.Ground.phase }, { on := 6, ground := Go.Ground.phase }, { on := 7, ground := Go.Ground.phase }, { on := 8, ground := Go.Ground.phase }, { on := 9, ground := Go.Ground.phase }, { on := 10, ground := Go.Ground.phase }, { on := 11, ground := Go.Ground.phase }, { on := 12, ground := Go.Ground.phase }, { on := 13, ground := Go.Ground.phase }, { on := 14, ground := Go.Ground.phase }, { on := 15, ground := Go.Ground.phase }, { on := 16, ground := Go.Ground.phase }, { on := 17, ground := Go.Ground.phase }], guard := none }) (v := ?v26) rfl (by kernel_rfl) (by kernel_rfl) (by kernel_rfl) (fun _ _ _ h => h) (Or.inl ⟨by rfl, ?hy26⟩) hHeld ?rest26
      case hy26 => (intro w hSw; (try dsimp only at hSw); go_simp; (first | done | with_reducible rfl))
      try simp only [Act.put, List.setIfInBounds_toArray, List.set_cons_zero, List.set_cons_succ]
      refine wpAnyH_done (by kernel_rfl) ?_ _
      have TG27 : True := trivial
      go_wp2_with (clear TG27; have hRl := Og19.lt; refine storesr_bool rfl rfl (g := g19) (k := k) (n := N) (by rfl) rfl (by rfl) Og19 hlt ?_; clear Og19; intro s27 G27 Og19; have z28 := G27.size; replace E := grown_ext E G27 (by omega); replace LB6 := LB6.grown G27 (by omega); replace LB7 := LB7.grown G27 (by omega); replace LB8 := LB8.grown G27 (by omega); replace RB8 := RB8.grown G27 (by omega); replace HG := HG.grown G27 (by omega); clear hRl G27)
      exact ⟨⟨k + 1, by omega, by go_num, HG, by rw [← HFK.out, ← HFk.out]; exact Og19⟩, by simp [intOf]; omega⟩
    · have hkN : k = N := by omega
      rw [hkN] at Og19
      clear HG
      go_wp2_with fail
      clear LB6 LB7
      refine (cpk g19 _ Og19).mono ?_
      rintro e w52 ⟨p, rfl, hq, x⟩
      clear Og19
      have NP := hq.bs.now
      clear hq
      have z29 := x.size
      replace E := E.trans x
      replace LB8 := LB8.ext x
      replace RB8 := RB8.ext x
      clear x
      go_wp2_with fail
      refine (cbo p _ NP.is).mono ?_
      rintro e w53 ⟨o, rfl, hq, x⟩
      have VO := hq _ NP
      have Fo := VO.is.flat
      clear hq
      have z30 := x.size
      replace E := E.trans x
      replace LB8 := LB8.ext x
      replace RB8 := RB8.ext x
      replace NP := NP.ext x
      clear x
      have TG31 : True := trivial
      go_wp2_with (clear TG31; have hRl := (RB8).lt (Nat.zero_lt_succ _); refine storesV (B := B8) rfl rfl rfl (v := o) rfl RB8 Fo ?_; clear LB8; intro s31 G31 LB8 RQ; have z32 := G31.size; replace E := grown_ext E G31 (by omega); replace NP := NP.grown G31 (by first | omega | (dsimp only [New]; omega)); replace VO := VO.grown G31 (by first | omega | (dsimp only [New]; omega)); clear RB8; have RB8 := RQ; clear RQ hRl; clear RB8)
      refine bodyPost_ret (results_lay2 rfl rfl rfl (ldV LB8)) rfl ?_
      exact ⟨o, rfl, VO.mono (fun i hi h => by dsimp only [New] at *; omega), E⟩
theorem chars_ne_not (N : Nat) (hN2 : N ≤ 1048576) (hF : Flat 8 v) (hG : Flat 8 u) (ka kb : Int) (ca : ∀ w', Ext w w' → Calls Try.prog 56 #[v] w' fun e w2 => e = .returned (.int .i64 ka) ∧ Ext w' w2) (cb : ∀ w', Ext w w' → Calls Try.prog 56 #[u] w' fun e w2 => e = .returned (.int .i64 kb) ∧ Ext w' w2) (hk : (ka == kb) = false) :
    Calls Try.prog 78 #[.int .i64 16, .int .i64 (N : Int), v, u] w fun e w' => ∃ p, e = .returned (.tuple #[p, .int .i64 0]) ∧ VecS w' p (VD.bits (tabL N (fun _ => true))) (New w.heap.size) ∧ Ext w w' := by
  obtain ⟨FN, hFN⟩ : ∃ FN : Nat → Value, (fun k => Value.bool ((fun _ => true) k)) = FN := ⟨_, rfl⟩
  have HFN := Lib.hid fun k => congrFun hFN k
  obtain ⟨RL, hRL⟩ : ∃ RL, tabL N (fun _ => true) = RL := ⟨_, rfl⟩
  have hR : bools RL = fillL FN (.bool false) N N := by rw [fillL_full, ← hFN, ← hRL]; simp [bools, tabL]
  have hRl : RL.length = N := by rw [← hRL]; exact tabL_length _ _
  have cpk : ∀ g w, RowO 4 w g N (fillL FN (.bool false) N N) → Calls Try.prog 86 #[.slice (some ⟨g, 0, none⟩) N N] w fun e w' => ∃ p, e = .returned p ∧ OwnB w' w.heap.size p RL ∧ Ext w w' := fun g w h => by
    have h2 := h.sl
    rw [← hR] at h2
    have := pack_any (some ⟨g, 0, none⟩) N RL w (by rw [hRl]; exact hN2) (by rw [hRl]; exact Nat.le_refl _) (by rw [hRl]; exact h2)
    rwa [hRl] at this
  have cbo := fun p w h => VecS.bits_of p RL w h
  rw [hRL]
  clear hFN hR hRl hRL
  have E := Ext.refl w
  go_enter Try.func78, Try.ntmps78
  have TB6 : True := trivial
  have TB7 : True := trivial
  have TB8 : True := trivial
  have TM19 : True := trivial
  go_wp2_with (first | (clear TB6; refine boxsV (v := v) rfl rfl rfl hF ?_; intro B6 w6 bB6 cB6 XB6 LB6 RB6; have z1 := XB6.size; replace E := E.trans XB6; clear RB6) | (clear TB7; refine boxsV (v := u) rfl rfl rfl hG ?_; intro B7 w7 bB7 cB7 XB7 LB7 RB7; have z2 := XB7.size; replace E := E.trans XB7; replace LB6 := LB6.ext XB7; clear RB7) | (clear TB8; refine allocsV rfl rfl ?_; intro B8 w8 bB8 cB8 XB8 LB8 RB8; have z3 := XB8.size; replace E := E.trans XB8; replace LB6 := LB6.ext XB8; replace LB7 := LB7.ext XB8) | (clear TM19; refine maker_bool rfl rfl (n := N) rfl hN2 ?_; intro g19 w19 bg19 cg19 X19 Og19; have z4 := X19.size; replace E := E.trans X19; replace LB6 := LB6.ext X19; replace LB7 := LB7.ext X19; replace LB8 := LB8.ext X19; replace RB8 := RB8.ext X19; clear X19))
  go_loopw [22] (fun i wr => ∃ k : Nat, k ≤ N ∧ i = .int .i64 k ∧ Grw w19 g19 wr ∧ RowO 4 wr g19 N (fillL FN (.bool false) N k)) (fun i _ => N - (intOf i).toNat)
  case atStart => exact ⟨0, Nat.zero_le _, rfl, Grw.refl _ _, by rw [fillL_zero]; exact Og19⟩
  case round =>
    obtain ⟨k, hk', rfl, HG, O2⟩ := hrel
    clear Og19
    have Og19 := O2
    clear O2
    have z5 := HG.out.size
    replace E := grown_ext E HG.out (by omega)
    replace LB6 := LB6.grown HG.out (by omega)
    replace LB7 := LB7.grown HG.out (by omega)
    replace LB8 := LB8.grown HG.out (by omega)
    replace RB8 := RB8.grown HG.out (by omega)
    by_cases hlt : k < N
    · have HFk := Lib.hid (HFN.out k)
      have HFK := Lib.hid (fillL_set FN (.bool false) hlt)
      go_wp2_with fail
      try simp only [Act.put, List.setIfInBounds_toArray, List.set_cons_zero, List.set_cons_succ]
      have hq6 : wr.heap.size ≤ wr.drew.heap.size := Nat.le_refl _
      have z7 := (Ext.refl wr).drew.size
      replace E := E.trans (Ext.refl wr).drew
      replace LB6 := LB6.ext (Ext.refl wr).drew
      replace LB7 := LB7.ext (Ext.refl wr).drew
      replace LB8 := LB8.ext (Ext.refl wr).drew
      replace RB8 := RB8.ext (Ext.refl wr).drew
      replace Og19 := Og19.ext (Ext.refl wr).drew
      replace HG := HG.ext (Ext.refl wr).drew
      refine wp_region_held_drew (S := (fun w' => Lay 8 w' B6 v ∧ Lay 8 w' B7 u)) (by kernel_rfl) ⟨LB6, LB7⟩ (fun hHeld => ?_)
      refine wpAnyH_take (i := 0) (oi := { dst := some 25, op := Go.Op.load 34 (Go.Operand.tmp 6), type := 34, pos := "relate.go:110", after := #[], guard := none }) (v := v) rfl (by kernel_rfl) (by kernel_rfl) (by kernel_rfl) (fun _ _ _ h => h) (yieldV (by rfl) rfl rfl fun w' hx => hx.1) hHeld ?_
      try simp only [Act.put, List.setIfInBounds_toArray, List.set_cons_zero, List.set_cons_succ]
      refine wpAnyH_take (i := 2) (oi := { dst := some 27, op := Go.Op.load 34 (Go.Operand.tmp 7), type := 34, pos := "relate.go:110", after := #[], guard := none }) (v := u) rfl (by kernel_rfl) (by kernel_rfl) (by kernel_rfl) (fun _ _ _ h => h) (yieldV (by rfl) rfl rfl fun w' hx => hx.2) hHeld ?_
      try simp only [Act.put, List.setIfInBounds_toArray, List.set_cons_zero, List.set_cons_succ]
      refine wpAnyH_ready (rs := [1]) (by kernel_rfl) (by simp) ?_
      refine AllReadyH.cons (o := { dst := some 26, op := Go.Op.call { callee := Go.Callee.value (Go.Operand.func 56), args := #[Go.Operand.tmp 25], argTypes := #[34] }, type := 3, pos := "relate.go:110", after := #[{ on := 0, ground := Go.Ground.data }], guard := none }) rfl (fun K hK => ?_) (AllReadyH.nil)
      go_simp
      refine (ca _ E).mono ?_
      rintro e w26 ⟨rfl, x⟩
      have z10 := x.size
      replace E := E.trans x
      replace LB6 := LB6.ext x
      replace LB7 := LB7.ext x
      replace LB8 := LB8.ext x
      replace RB8 := RB8.ext x
      replace Og19 := Og19.ext x
      replace HG := HG.ext x
      clear x
      clear hHeld
      have hHeld := And.intro LB6 (LB7)
      refine hK.out _ _ hHeld (fun _ => ?_)
      clear hK K
      try simp only [Act.put, List.setIfInBounds_toArray, List.set_cons_zero, List.set_cons_succ]
      refine wpAnyH_ready (rs := [3]) (by kernel_rfl) (by simp) ?_
      refine AllReadyH.cons (o := { dst := some 28, op := Go.Op.call { callee := Go.Callee.value (Go.Operand.func 56), args := #[Go.Operand.tmp 27], argTypes := #[34] }, type := 3, pos := "relate.go:110", after := #[{ on := 2, ground := Go.Ground.data }, { on := 1, ground := Go.Ground.chain }], guard := none }) rfl (fun K hK => ?_) (AllReadyH.nil)
      go_simp
      refine (cb _ E).mono ?_
      rintro e w28 ⟨rfl, x⟩
      have z11 := x.size
      replace E := E.trans x
      replace LB6 := LB6.ext x
      replace LB7 := LB7.ext x
      replace LB8 := LB8.ext x
      replace RB8 := RB8.ext x
      replace Og19 := Og19.ext x
      replace HG := HG.ext x
      clear x
      clear hHeld
      have hHeld := And.intro LB6 (LB7)
      refine hK.out _ _ hHeld (fun _ => ?_)
      clear hK K
      try simp only [Act.put, List.setIfInBounds_toArray, List.set_cons_zero, List.set_cons_succ]
      refine wpAnyH_take (i := 4) (oi := { dst := some 29, op := Go.Op.binOp Go.BinOp.eql 3 (Go.Operand.tmp 26) (Go.Operand.tmp 28) 3, type := 4, pos := "relate.go:110", after := #[{ on := 1, ground := Go.Ground.data }, { on := 3, ground := Go.Ground.data }], guard := none }) (v := ?v12) rfl (by kernel_rfl) (by kernel_rfl) (by kernel_rfl) (fun _ _ _ h => h) (Or.inl ⟨by rfl, ?hy12⟩) hHeld ?rest12
      case hy12 => (intro w hSw; (try dsimp only at hSw); go_simp; (first | done | with_reducible rfl))
      try simp only [Act.put, List.setIfInBounds_toArray, List.set_cons_zero, List.set_cons_succ]
      refine wpAnyH_take (i := 5) (oi := { dst := some 30, op := Go.Op.move (Go.Operand.tmp 29), type := 4, pos := "relate.go:110", after := #[{ on := 4, ground := Go.Ground.data }, { on := 3, ground := Go.Ground.chain }], guard := none }) (v := ?v13) rfl (by kernel_rfl) (by kernel_rfl) (by kernel_rfl) (fun _ _ _ h => h) (Or.inl ⟨by rfl, ?hy13⟩) hHeld ?rest13
      case hy13 => (intro w hSw; (try dsimp only at hSw); go_simp; (first | done | with_reducible rfl))
      try simp only [Act.put, List.setIfInBounds_toArray, List.set_cons_zero, List.set_cons_succ]
      refine wpAnyH_take (i := 6) (oi := { dst := some 31, op := Go.Op.load 34 (Go.Operand.tmp 6), type := 34, pos := "relate.go:110", after := #[{ on := 5, ground := Go.Ground.guard }], guard := some (5, true) }) (v := undef) rfl (by kernel_rfl) (by kernel_rfl) (by kernel_rfl) (fun _ _ _ h => h) (Or.inr ⟨by rfl, rfl⟩) hHeld ?_
      try simp only [Act.put, List.setIfInBounds_toArray, List.set_cons_zero, List.set_cons_succ]
      refine wpAnyH_take (i := 7) (oi := { dst := some 32, op := Go.Op.load 34 (Go.Operand.tmp 6), type := 34, pos := "relate.go:110", after := #[{ on := 5, ground := Go.Ground.guard }], guard := some (5, true) }) (v := undef) rfl (by kernel_rfl) (by kernel_rfl) (by kernel_rfl) (fun _ _ _ h => h) (Or.inr ⟨by rfl, rfl⟩) hHeld ?_
      try simp only [Act.put, List.setIfInBounds_toArray, List.set_cons_zero, List.set_cons_succ]
      refine wpAnyH_take (i := 8) (oi := { dst := some 33, op := Go.Op.move (Go.Operand.tmp 11), type := 3, pos := "relate.go:110", after := #[{ on := 5, ground := Go.Ground.guard }], guard := some (5, true) }) (v := undef) rfl (by kernel_rfl) (by kernel_rfl) (by kernel_rfl) (fun _ _ _ h => h) (Or.inr ⟨by rfl, rfl⟩) hHeld ?_
      try simp only [Act.put, List.setIfInBounds_toArray, List.set_cons_zero, List.set_cons_succ]
      refine wpAnyH_take (i := 9) (oi := { dst := some 34, op := Go.Op.call { callee := Go.Callee.value (Go.Operand.func 94), args := #[Go.Operand.tmp 32, Go.Operand.tmp 33], argTypes := #[34, 3] }, type := 3, pos := "relate.go:110", after := #[{ on := 7, ground := Go.Ground.data }, { on := 8, ground := Go.Ground.data }, { on := 5, ground := Go.Ground.chain }, { on := 5, ground := Go.Ground.guard }], guard := some (5, true) }) (v := undef) rfl (by kernel_rfl) (by kernel_rfl) (by kernel_rfl) (fun _ _ _ h => h) (Or.inr ⟨by rfl, rfl⟩) hHeld ?_
      try simp only [Act.put, List.setIfInBounds_toArray, List.set_cons_zero, List.set_cons_succ]
      refine wpAnyH_take (i := 10) (oi := { dst := some 35, op := Go.Op.call { callee := Go.Callee.value (Go.Operand.func 93), args := #[Go.Operand.tmp 31, Go.Operand.tmp 34], argTypes := #[34, 3] }, type := 21, pos := "relate.go:110", after := #[{ on := 6, ground := Go.Ground.data }, { on := 9, ground := Go.Ground.data }, { on := 9, ground := Go.Ground.chain }, { on := 5, ground := Go.Ground.guard }], guard := some (5, true) }) (v := undef) rfl (by kernel_rfl) (by kernel_rfl) (by kernel_rfl) (fun _ _ _ h => h) (Or.inr ⟨by rfl, rfl⟩) hHeld ?_
      try simp only [Act.put, List.setIfInBounds_toArray, List.set_cons_zero, List.set_cons_succ]
      refine wpAnyH_take (i := 11) (oi := { dst := some 36, op := Go.Op.load 34 (Go.Operand.tmp 7), type := 34, pos := "relate.go:110", after := #[{ on := 5, ground := Go.Ground.guard }], guard := some (5, true) }) (v := undef) rfl (by kernel_rfl) (by kernel_rfl) (by kernel_rfl) (fun _ _ _ h => h) (Or.inr ⟨by rfl, rfl⟩) hHeld ?_
      try simp only [Act.put, List.setIfInBounds_toArray, List.set_cons_zero, List.set_cons_succ]
      refine wpAnyH_take (i := 12) (oi := { dst := some 37, op := Go.Op.load 34 (Go.Operand.tmp 7), type := 34, pos := "relate.go:110", after := #[{ on := 5, ground := Go.Ground.guard }], guard := some (5, true) }) (v := undef) rfl (by kernel_rfl) (by kernel_rfl) (by kernel_rfl) (fun _ _ _ h => h) (Or.inr ⟨by rfl, rfl⟩) hHeld ?_
      try simp only [Act.put, List.setIfInBounds_toArray, List.set_cons_zero, List.set_cons_succ]
      refine wpAnyH_take (i := 13) (oi := { dst := some 38, op := Go.Op.move (Go.Operand.tmp 11), type := 3, pos := "relate.go:110", after := #[{ on := 5, ground := Go.Ground.guard }], guard := some (5, true) }) (v := undef) rfl (by kernel_rfl) (by kernel_rfl) (by kernel_rfl) (fun _ _ _ h => h) (Or.inr ⟨by rfl, rfl⟩) hHeld ?_
      try simp only [Act.put, List.setIfInBounds_toArray, List.set_cons_zero, List.set_cons_succ]
      refine wpAnyH_take (i := 14) (oi := { dst := some 39, op := Go.Op.call { callee := Go.Callee.value (Go.Operand.func 94), args := #[Go.Operand.tmp 37, Go.Operand.tmp 38], argTypes := #[34, 3] }, type := 3, pos := "relate.go:110", after := #[{ on := 12, ground := Go.Ground.data }, { on := 13, ground := Go.Ground.data }, { on := 10, ground := Go.Ground.chain }, { on := 5, ground := Go.Ground.guard }], guard := some (5, true) }) (v := undef) rfl (by kernel_rfl) (by kernel_rfl) (by kernel_rfl) (fun _ _ _ h => h) (Or.inr ⟨by rfl, rfl⟩) hHeld ?_
      try simp only [Act.put, List.setIfInBounds_toArray, List.set_cons_zero, List.set_cons_succ]
      refine wpAnyH_take (i := 15) (oi := { dst := some 40, op := Go.Op.call { callee := Go.Callee.value (Go.Operand.func 93), args := #[Go.Operand.tmp 36, Go.Operand.tmp 39], argTypes := #[34, 3] }, type := 21, pos := "relate.go:110", after := #[{ on := 11, ground := Go.Ground.data }, { on := 14, ground := Go.Ground.data }, { on := 14, ground := Go.Ground.chain }, { on := 5, ground := Go.Ground.guard }], guard := some (5, true) }) (v := undef) rfl (by kernel_rfl) (by kernel_rfl) (by kernel_rfl) (fun _ _ _ h => h) (Or.inr ⟨by rfl, rfl⟩) hHeld ?_
      try simp only [Act.put, List.setIfInBounds_toArray, List.set_cons_zero, List.set_cons_succ]
      refine wpAnyH_take (i := 16) (oi := { dst := some 41, op := Go.Op.binOp Go.BinOp.eql 21 (Go.Operand.tmp 35) (Go.Operand.tmp 40) 21, type := 4, pos := "relate.go:110", after := #[{ on := 10, ground := Go.Ground.data }, { on := 15, ground := Go.Ground.data }, { on := 5, ground := Go.Ground.guard }], guard := some (5, true) }) (v := undef) rfl (by kernel_rfl) (by kernel_rfl) (by kernel_rfl) (fun _ _ _ h => h) (Or.inr ⟨by rfl, rfl⟩) hHeld ?_
      try simp only [Act.put, List.setIfInBounds_toArray, List.set_cons_zero, List.set_cons_succ]
      refine wpAnyH_take (i := 17) (oi := { dst := some 42, op := Go.Op.pick (Go.Operand.tmp 30) (Go.Operand.tmp 41) (Go.Operand.const (Go.Value.bool false)), type := 4, pos := "relate.go:110", after := #[{ on := 5, ground := Go.Ground.data }, { on := 16, ground := Go.Ground.data }], guard := none }) (v := ?v25) rfl (by kernel_rfl) (by kernel_rfl) (by kernel_rfl) (fun _ _ _ h => h) (Or.inl ⟨by rfl, ?hy25⟩) hHeld ?rest25
      case hy25 => (intro w hSw; (try dsimp only at hSw); go_simp; (first | done | with_reducible rfl))
      try simp only [Act.put, List.setIfInBounds_toArray, List.set_cons_zero, List.set_cons_succ]
      refine wpAnyH_take (i := 18) (oi := { dst := some 12, op := Go.Op.assign (Go.Operand.tmp 42), type := 4, pos := "relate.go:110", after := #[{ on := 17, ground := Go.Ground.data }, { on := 15, ground := Go.Ground.chain }, { on := 0, ground := Go.Ground.phase }, { on := 1, ground := Go.Ground.phase }, { on := 2, ground := Go.Ground.phase }, { on := 3, ground := Go.Ground.phase }, { on := 4, ground := Go.Ground.phase }, { on := 5, ground := Go.Ground.phase }, { on := 6, ground := Go.Ground.phase }, { on := 7, ground := Go.Ground.phase }, { on := 8, ground := Go.Ground.phase }, { on := 9, ground := Go.Ground.phase }, { on := 10, ground := Go.Ground.phase }, { on := 11, ground := Go.Ground.phase }, { on := 12, ground := Go.Ground.phase }, { on := 13, ground := Go.Ground.phase }, { on := 14, ground := Go.Ground.phase }, { on := 15, ground := Go.Ground.phase }, { on := 16, ground := Go.Ground.phase }, { on := 17, ground := Go.Ground.phase }], guard := none }) (v := ?v26) rfl (by kernel_rfl) (by kernel_rfl) (by kernel_rfl) (fun _ _ _ h => h) (Or.inl ⟨by rfl, ?hy26⟩) hHeld ?rest26
      case hy26 => (intro w hSw; (try dsimp only at hSw); go_simp; (first | done | with_reducible rfl))
      try simp only [Act.put, List.setIfInBounds_toArray, List.set_cons_zero, List.set_cons_succ]
      refine wpAnyH_done (by kernel_rfl) ?_ _
      have TG27 : True := trivial
      go_wp2_with (clear TG27; have hRl := Og19.lt; refine storesr_bool rfl rfl (g := g19) (k := k) (n := N) (by rfl) rfl (by rfl) Og19 hlt ?_; clear Og19; intro s27 G27 Og19; have z28 := G27.size; replace E := grown_ext E G27 (by omega); replace LB6 := LB6.grown G27 (by omega); replace LB7 := LB7.grown G27 (by omega); replace LB8 := LB8.grown G27 (by omega); replace RB8 := RB8.grown G27 (by omega); replace HG := HG.grown G27 (by omega); clear hRl G27)
      exact ⟨⟨k + 1, by omega, by go_num, HG, by rw [← HFK.out, ← HFk.out]; exact Og19⟩, by simp [intOf]; omega⟩
    · have hkN : k = N := by omega
      rw [hkN] at Og19
      clear HG
      go_wp2_with fail
      clear LB6 LB7
      refine (cpk g19 _ Og19).mono ?_
      rintro e w52 ⟨p, rfl, hq, x⟩
      clear Og19
      have NP := hq.bs.now
      clear hq
      have z29 := x.size
      replace E := E.trans x
      replace LB8 := LB8.ext x
      replace RB8 := RB8.ext x
      clear x
      go_wp2_with fail
      refine (cbo p _ NP.is).mono ?_
      rintro e w53 ⟨o, rfl, hq, x⟩
      have VO := hq _ NP
      have Fo := VO.is.flat
      clear hq
      have z30 := x.size
      replace E := E.trans x
      replace LB8 := LB8.ext x
      replace RB8 := RB8.ext x
      replace NP := NP.ext x
      clear x
      have TG31 : True := trivial
      go_wp2_with (clear TG31; have hRl := (RB8).lt (Nat.zero_lt_succ _); refine storesV (B := B8) rfl rfl rfl (v := o) rfl RB8 Fo ?_; clear LB8; intro s31 G31 LB8 RQ; have z32 := G31.size; replace E := grown_ext E G31 (by omega); replace NP := NP.grown G31 (by first | omega | (dsimp only [New]; omega)); replace VO := VO.grown G31 (by first | omega | (dsimp only [New]; omega)); clear RB8; have RB8 := RQ; clear RQ hRl; clear RB8)
      refine bodyPost_ret (results_lay2 rfl rfl rfl (ldV LB8)) rfl ?_
      exact ⟨o, rfl, VO.mono (fun i hi h => by dsimp only [New] at *; omega), E⟩
theorem rapp_bad1 (h : f < 11) (hF : Flat 8 v) (hG : Flat 8 u) :
    Calls Try.prog 49 #[.int .i64 f, v, u] w fun e w' => e = .returned (.tuple #[zeroVec, .int .i64 1]) ∧ Ext w w' := by
  have E := Ext.refl w
  go_enter Try.func49, Try.ntmps49
  have TB4 : True := trivial
  have TB5 : True := trivial
  have TB6 : True := trivial
  have TG4 : True := trivial
  go_wp2_with (first | (clear TB4; refine boxsV (v := v) rfl rfl rfl hF ?_; intro B4 w4 bB4 cB4 XB4 LB4 RB4; have z1 := XB4.size; replace E := E.trans XB4; clear LB4 RB4) | (clear TB5; refine boxsV (v := u) rfl rfl rfl hG ?_; intro B5 w5 bB5 cB5 XB5 LB5 RB5; have z2 := XB5.size; replace E := E.trans XB5; clear LB5 RB5) | (clear TB6; refine allocsV rfl rfl ?_; intro B6 w6 bB6 cB6 XB6 LB6 RB6; have z3 := XB6.size; replace E := E.trans XB6) | (clear TG4; have hRl := (RB6).lt (Nat.zero_lt_succ _); refine storesV (B := B6) rfl rfl rfl (v := zeroVec) rfl RB6 zeroVec_flat ?_; clear LB6; intro s4 G4 LB6 RQ; have z5 := G4.size; replace E := grown_ext E G4 (by omega); clear RB6; have RB6 := RQ; clear RQ hRl; clear RB6))
  refine bodyPost_ret (results_lay2 rfl rfl rfl (ldV LB6)) rfl ?_
  exact ⟨rfl, E⟩
theorem rapp_bad2 (h : ¬ f < 11) (h2 : 16 < f) (hF : Flat 8 v) (hG : Flat 8 u) :
    Calls Try.prog 49 #[.int .i64 f, v, u] w fun e w' => e = .returned (.tuple #[zeroVec, .int .i64 1]) ∧ Ext w w' := by
  have E := Ext.refl w
  go_enter Try.func49, Try.ntmps49
  have TB4 : True := trivial
  have TB5 : True := trivial
  have TB6 : True := trivial
  have TG4 : True := trivial
  go_wp2_with (first | (clear TB4; refine boxsV (v := v) rfl rfl rfl hF ?_; intro B4 w4 bB4 cB4 XB4 LB4 RB4; have z1 := XB4.size; replace E := E.trans XB4; clear LB4 RB4) | (clear TB5; refine boxsV (v := u) rfl rfl rfl hG ?_; intro B5 w5 bB5 cB5 XB5 LB5 RB5; have z2 := XB5.size; replace E := E.trans XB5; clear LB5 RB5) | (clear TB6; refine allocsV rfl rfl ?_; intro B6 w6 bB6 cB6 XB6 LB6 RB6; have z3 := XB6.size; replace E := E.trans XB6) | (clear TG4; have hRl := (RB6).lt (Nat.zero_lt_succ _); refine storesV (B := B6) rfl rfl rfl (v := zeroVec) rfl RB6 zeroVec_flat ?_; clear LB6; intro s4 G4 LB6 RQ; have z5 := G4.size; replace E := grown_ext E G4 (by omega); clear RB6; have RB6 := RQ; clear RQ hRl; clear RB6))
  refine bodyPost_ret (results_lay2 rfl rfl rfl (ldV LB6)) rfl ?_
  exact ⟨rfl, E⟩
theorem rapp_len (hf : 11 ≤ f ∧ f ≤ 16) (m n : Int) (ca : ∀ w', Ext w w' → Calls Try.prog 30 #[v] w' fun e w2 => e = .returned (.int .i64 m) ∧ Ext w' w2) (cb : ∀ w', Ext w w' → Calls Try.prog 30 #[u] w' fun e w2 => e = .returned (.int .i64 n) ∧ Ext w' w2) (hl : lenOk m n = false) (hF : Flat 8 v) (hG : Flat 8 u) :
    Calls Try.prog 49 #[.int .i64 f, v, u] w fun e w' => e = .returned (.tuple #[zeroVec, .int .i64 23]) ∧ Ext w w' := by
  have E := Ext.refl w
  obtain ⟨h1, h2⟩ := hf
  have cl : ∀ w', Calls Try.prog 71 #[.int .i64 m, .int .i64 n] w' fun e w2 => e = .returned (.tuple #[.int .i64 (lenV m n), .bool false]) ∧ Ext w' w2 := fun w' => (length_any m n w').mono fun e w2 h => ⟨by rw [h.1, hl], h.2 ▸ Ext.refl _⟩
  clear hl
  generalize lenV m n = N at *
  go_enter Try.func49, Try.ntmps49
  have TB4 : True := trivial
  have TB5 : True := trivial
  have TB6 : True := trivial
  go_wp2_with (first | (clear TB4; refine boxsV (v := v) rfl rfl rfl hF ?_; intro B4 w4 bB4 cB4 XB4 LB4 RB4; have z1 := XB4.size; replace E := E.trans XB4; clear RB4) | (clear TB5; refine boxsV (v := u) rfl rfl rfl hG ?_; intro B5 w5 bB5 cB5 XB5 LB5 RB5; have z2 := XB5.size; replace E := E.trans XB5; replace LB4 := LB4.ext XB5; clear RB5) | (clear TB6; refine allocsV rfl rfl ?_; intro B6 w6 bB6 cB6 XB6 LB6 RB6; have z3 := XB6.size; replace E := E.trans XB6; replace LB4 := LB4.ext XB6; replace LB5 := LB5.ext XB6))
  try simp only [Act.put, List.setIfInBounds_toArray, List.set_cons_zero, List.set_cons_succ]
  have hq4 : w6.heap.size ≤ w6.drew.heap.size := Nat.le_refl _
  have z5 := (Ext.refl w6).drew.size
  replace E := E.trans (Ext.refl w6).drew
  replace LB4 := LB4.ext (Ext.refl w6).drew
  replace LB5 := LB5.ext (Ext.refl w6).drew
  replace LB6 := LB6.ext (Ext.refl w6).drew
  replace RB6 := RB6.ext (Ext.refl w6).drew
  refine wp_region_held_drew (S := (fun w' => Lay 8 w' B4 v ∧ Lay 8 w' B5 u)) (by kernel_rfl) ⟨LB4, LB5⟩ (fun hHeld => ?_)
  refine wpAnyH_take (i := 0) (oi := { dst := some 23, op := Go.Op.load 34 (Go.Operand.tmp 4), type := 34, pos := "relate.go:56", after := #[], guard := none }) (v := v) rfl (by kernel_rfl) (by kernel_rfl) (by kernel_rfl) (fun _ _ _ h => h) (yieldV (by rfl) rfl rfl fun w' hx => hx.1) hHeld ?_
  try simp only [Act.put, List.setIfInBounds_toArray, List.set_cons_zero, List.set_cons_succ]
  refine wpAnyH_take (i := 2) (oi := { dst := some 25, op := Go.Op.load 34 (Go.Operand.tmp 5), type := 34, pos := "relate.go:56", after := #[], guard := none }) (v := u) rfl (by kernel_rfl) (by kernel_rfl) (by kernel_rfl) (fun _ _ _ h => h) (yieldV (by rfl) rfl rfl fun w' hx => hx.2) hHeld ?_
  try simp only [Act.put, List.setIfInBounds_toArray, List.set_cons_zero, List.set_cons_succ]
  refine wpAnyH_ready (rs := [1]) (by kernel_rfl) (by simp) ?_
  refine AllReadyH.cons (o := { dst := some 24, op := Go.Op.call { callee := Go.Callee.value (Go.Operand.func 30), args := #[Go.Operand.tmp 23], argTypes := #[34] }, type := 3, pos := "relate.go:56", after := #[{ on := 0, ground := Go.Ground.data }], guard := none }) rfl (fun K hK => ?_) (AllReadyH.nil)
  go_simp
  refine (ca _ E).mono ?_
  rintro e w24 ⟨rfl, x⟩
  have z8 := x.size
  replace E := E.trans x
  replace LB4 := LB4.ext x
  replace LB5 := LB5.ext x
  replace LB6 := LB6.ext x
  replace RB6 := RB6.ext x
  clear x
  clear hHeld
  have hHeld := And.intro LB4 (LB5)
  refine hK.out _ _ hHeld (fun _ => ?_)
  clear hK K
  try simp only [Act.put, List.setIfInBounds_toArray, List.set_cons_zero, List.set_cons_succ]
  refine wpAnyH_ready (rs := [3]) (by kernel_rfl) (by simp) ?_
  refine AllReadyH.cons (o := { dst := some 26, op := Go.Op.call { callee := Go.Callee.value (Go.Operand.func 30), args := #[Go.Operand.tmp 25], argTypes := #[34] }, type := 3, pos := "relate.go:56", after := #[{ on := 2, ground := Go.Ground.data }, { on := 1, ground := Go.Ground.chain }], guard := none }) rfl (fun K hK => ?_) (AllReadyH.nil)
  go_simp
  refine (cb _ E).mono ?_
  rintro e w26 ⟨rfl, x⟩
  have z9 := x.size
  replace E := E.trans x
  replace LB4 := LB4.ext x
  replace LB5 := LB5.ext x
  replace LB6 := LB6.ext x
  replace RB6 := RB6.ext x
  clear x
  clear hHeld
  have hHeld := And.intro LB4 (LB5)
  refine hK.out _ _ hHeld (fun _ => ?_)
  clear hK K
  try simp only [Act.put, List.setIfInBounds_toArray, List.set_cons_zero, List.set_cons_succ]
  refine wpAnyH_ready (rs := [4]) (by kernel_rfl) (by simp) ?_
  refine AllReadyH.cons (o := { dst := some 27, op := Go.Op.call { callee := Go.Callee.value (Go.Operand.func 71), args := #[Go.Operand.tmp 24, Go.Operand.tmp 26], argTypes := #[3, 3] }, type := 110, pos := "relate.go:56", after := #[{ on := 1, ground := Go.Ground.data }, { on := 3, ground := Go.Ground.data }, { on := 3, ground := Go.Ground.chain }], guard := none }) rfl (fun K hK => ?_) (AllReadyH.nil)
  go_simp
  refine (cl _).mono ?_
  rintro e w27 ⟨rfl, x⟩
  have z10 := x.size
  replace E := E.trans x
  replace LB4 := LB4.ext x
  replace LB5 := LB5.ext x
  replace LB6 := LB6.ext x
  replace RB6 := RB6.ext x
  clear x
  clear hHeld
  have hHeld := And.intro LB4 (LB5)
  refine hK.out _ _ hHeld (fun _ => ?_)
  clear hK K
  try simp only [Act.put, List.setIfInBounds_toArray, List.set_cons_zero, List.set_cons_succ]
  refine wpAnyH_take (i := 5) (oi := { dst := some 22, op := Go.Op.move (Go.Operand.tmp 27), type := 110, pos := "relate.go:56", after := #[{ on := 4, ground := Go.Ground.data }], guard := none }) (v := ?v11) rfl (by kernel_rfl) (by kernel_rfl) (by kernel_rfl) (fun _ _ _ h => h) (Or.inl ⟨by rfl, ?hy11⟩) hHeld ?rest11
  case hy11 => (intro w hSw; (try dsimp only at hSw); go_simp; (first | done | with_reducible rfl))
  try simp only [Act.put, List.setIfInBounds_toArray, List.set_cons_zero, List.set_cons_succ]
  refine wpAnyH_take (i := 6) (oi := { dst := some 28, op := Go.Op.extract (Go.Operand.tmp 22) 0, type := 3, pos := "relate.go:56", after := #[{ on := 5, ground := Go.Ground.data }], guard := none }) (v := ?v12) rfl (by kernel_rfl) (by kernel_rfl) (by kernel_rfl) (fun _ _ _ h => h) (Or.inl ⟨by rfl, ?hy12⟩) hHeld ?rest12
  case hy12 => (intro w hSw; (try dsimp only at hSw); go_simp; (first | done | with_reducible rfl))
  try simp only [Act.put, List.setIfInBounds_toArray, List.set_cons_zero, List.set_cons_succ]
  refine wpAnyH_take (i := 7) (oi := { dst := some 29, op := Go.Op.extract (Go.Operand.tmp 22) 1, type := 4, pos := "relate.go:56", after := #[{ on := 5, ground := Go.Ground.data }, { on := 8, ground := Go.Ground.gcOnly Go.Departure.lateStores }], guard := none }) (v := ?v13) rfl (by kernel_rfl) (by kernel_rfl) (by kernel_rfl) (fun _ _ _ h => h) (Or.inl ⟨by rfl, ?hy13⟩) hHeld ?rest13
  case hy13 => (intro w hSw; (try dsimp only at hSw); go_simp; (first | done | with_reducible rfl))
  try simp only [Act.put, List.setIfInBounds_toArray, List.set_cons_zero, List.set_cons_succ]
  refine wpAnyH_take (i := 8) (oi := { dst := some 8, op := Go.Op.assign (Go.Operand.tmp 28), type := 3, pos := "relate.go:56", after := #[{ on := 6, ground := Go.Ground.data }, { on := 4, ground := Go.Ground.chain }, { on := 0, ground := Go.Ground.phase }, { on := 1, ground := Go.Ground.phase }, { on := 2, ground := Go.Ground.phase }, { on := 3, ground := Go.Ground.phase }, { on := 4, ground := Go.Ground.phase }, { on := 5, ground := Go.Ground.phase }, { on := 6, ground := Go.Ground.phase }, { on := 7, ground := Go.Ground.textOnly Go.Departure.lateStores }], guard := none }) (v := ?v14) rfl (by kernel_rfl) (by kernel_rfl) (by kernel_rfl) (fun _ _ _ h => h) (Or.inl ⟨by rfl, ?hy14⟩) hHeld ?rest14
  case hy14 => (intro w hSw; (try dsimp only at hSw); go_simp; (first | done | with_reducible rfl))
  try simp only [Act.put, List.setIfInBounds_toArray, List.set_cons_zero, List.set_cons_succ]
  refine wpAnyH_take (i := 9) (oi := { dst := some 9, op := Go.Op.assign (Go.Operand.tmp 29), type := 4, pos := "relate.go:56", after := #[{ on := 7, ground := Go.Ground.data }, { on := 8, ground := Go.Ground.chain }, { on := 0, ground := Go.Ground.phase }, { on := 1, ground := Go.Ground.phase }, { on := 2, ground := Go.Ground.phase }, { on := 3, ground := Go.Ground.phase }, { on := 4, ground := Go.Ground.phase }, { on := 5, ground := Go.Ground.phase }, { on := 6, ground := Go.Ground.phase }, { on := 7, ground := Go.Ground.phase }, { on := 8, ground := Go.Ground.phase }], guard := none }) (v := ?v15) rfl (by kernel_rfl) (by kernel_rfl) (by kernel_rfl) (fun _ _ _ h => h) (Or.inl ⟨by rfl, ?hy15⟩) hHeld ?rest15
  case hy15 => (intro w hSw; (try dsimp only at hSw); go_simp; (first | done | with_reducible rfl))
  try simp only [Act.put, List.setIfInBounds_toArray, List.set_cons_zero, List.set_cons_succ]
  refine wpAnyH_done (by kernel_rfl) ?_ _
  have TG16 : True := trivial
  go_wp2_with (clear TG16; have hRl := (RB6).lt (Nat.zero_lt_succ _); refine storesV (B := B6) rfl rfl rfl (v := zeroVec) rfl RB6 zeroVec_flat ?_; clear LB6; intro s16 G16 LB6 RQ; have z17 := G16.size; replace E := grown_ext E G16 (by omega); replace LB4 := LB4.grown G16 (by omega); replace LB5 := LB5.grown G16 (by omega); clear RB6; have RB6 := RQ; clear RQ hRl; clear RB6)
  refine bodyPost_ret (results_lay2 rfl rfl rfl (ldV LB6)) rfl ?_
  exact ⟨rfl, E⟩
theorem rapp_box1 (hf : 11 ≤ f ∧ f ≤ 16) (m n : Int) (ca : ∀ w', Ext w w' → Calls Try.prog 30 #[v] w' fun e w2 => e = .returned (.int .i64 m) ∧ Ext w' w2) (cb : ∀ w', Ext w w' → Calls Try.prog 30 #[u] w' fun e w2 => e = .returned (.int .i64 n) ∧ Ext w' w2) (hl : lenOk m n = true) (N : Nat) (hN : lenV m n = (N : Int)) (ka : Int) (da : ∀ w', Ext w w' → Calls Try.prog 56 #[v] w' fun e w2 => e = .returned (.int .i64 ka) ∧ Ext w' w2) (h2 : (ka == 2) = true) (hF : Flat 8 v) (hG : Flat 8 u) :
    Calls Try.prog 49 #[.int .i64 f, v, u] w fun e w' => e = .returned (.tuple #[zeroVec, .int .i64 24]) ∧ Ext w w' := by
  have E := Ext.refl w
  obtain ⟨h1, h3⟩ := hf
  have cl : ∀ w', Calls Try.prog 71 #[.int .i64 m, .int .i64 n] w' fun e w2 => e = .returned (.tuple #[.int .i64 (lenV m n), .bool true]) ∧ Ext w' w2 := fun w' => (length_any m n w').mono fun e w2 h => ⟨by rw [h.1, hl], h.2 ▸ Ext.refl _⟩
  rw [hN] at cl
  clear hl hN
  go_enter Try.func49, Try.ntmps49
  have TB4 : True := trivial
  have TB5 : True := trivial
  have TB6 : True := trivial
  go_wp2_with (first | (clear TB4; refine boxsV (v := v) rfl rfl rfl hF ?_; intro B4 w4 bB4 cB4 XB4 LB4 RB4; have z1 := XB4.size; replace E := E.trans XB4; clear RB4) | (clear TB5; refine boxsV (v := u) rfl rfl rfl hG ?_; intro B5 w5 bB5 cB5 XB5 LB5 RB5; have z2 := XB5.size; replace E := E.trans XB5; replace LB4 := LB4.ext XB5; clear RB5) | (clear TB6; refine allocsV rfl rfl ?_; intro B6 w6 bB6 cB6 XB6 LB6 RB6; have z3 := XB6.size; replace E := E.trans XB6; replace LB4 := LB4.ext XB6; replace LB5 := LB5.ext XB6))
  try simp only [Act.put, List.setIfInBounds_toArray, List.set_cons_zero, List.set_cons_succ]
  have hq4 : w6.heap.size ≤ w6.drew.heap.size := Nat.le_refl _
  have z5 := (Ext.refl w6).drew.size
  replace E := E.trans (Ext.refl w6).drew
  replace LB4 := LB4.ext (Ext.refl w6).drew
  replace LB5 := LB5.ext (Ext.refl w6).drew
  replace LB6 := LB6.ext (Ext.refl w6).drew
  replace RB6 := RB6.ext (Ext.refl w6).drew
  refine wp_region_held_drew (S := (fun w' => Lay 8 w' B4 v ∧ Lay 8 w' B5 u)) (by kernel_rfl) ⟨LB4, LB5⟩ (fun hHeld => ?_)
  refine wpAnyH_take (i := 0) (oi := { dst := some 23, op := Go.Op.load 34 (Go.Operand.tmp 4), type := 34, pos := "relate.go:56", after := #[], guard := none }) (v := v) rfl (by kernel_rfl) (by kernel_rfl) (by kernel_rfl) (fun _ _ _ h => h) (yieldV (by rfl) rfl rfl fun w' hx => hx.1) hHeld ?_
  try simp only [Act.put, List.setIfInBounds_toArray, List.set_cons_zero, List.set_cons_succ]
  refine wpAnyH_take (i := 2) (oi := { dst := some 25, op := Go.Op.load 34 (Go.Operand.tmp 5), type := 34, pos := "relate.go:56", after := #[], guard := none }) (v := u) rfl (by kernel_rfl) (by kernel_rfl) (by kernel_rfl) (fun _ _ _ h => h) (yieldV (by rfl) rfl rfl fun w' hx => hx.2) hHeld ?_
  try simp only [Act.put, List.setIfInBounds_toArray, List.set_cons_zero, List.set_cons_succ]
  refine wpAnyH_ready (rs := [1]) (by kernel_rfl) (by simp) ?_
  refine AllReadyH.cons (o := { dst := some 24, op := Go.Op.call { callee := Go.Callee.value (Go.Operand.func 30), args := #[Go.Operand.tmp 23], argTypes := #[34] }, type := 3, pos := "relate.go:56", after := #[{ on := 0, ground := Go.Ground.data }], guard := none }) rfl (fun K hK => ?_) (AllReadyH.nil)
  go_simp
  refine (ca _ E).mono ?_
  rintro e w24 ⟨rfl, x⟩
  have z8 := x.size
  replace E := E.trans x
  replace LB4 := LB4.ext x
  replace LB5 := LB5.ext x
  replace LB6 := LB6.ext x
  replace RB6 := RB6.ext x
  clear x
  clear hHeld
  have hHeld := And.intro LB4 (LB5)
  refine hK.out _ _ hHeld (fun _ => ?_)
  clear hK K
  try simp only [Act.put, List.setIfInBounds_toArray, List.set_cons_zero, List.set_cons_succ]
  refine wpAnyH_ready (rs := [3]) (by kernel_rfl) (by simp) ?_
  refine AllReadyH.cons (o := { dst := some 26, op := Go.Op.call { callee := Go.Callee.value (Go.Operand.func 30), args := #[Go.Operand.tmp 25], argTypes := #[34] }, type := 3, pos := "relate.go:56", after := #[{ on := 2, ground := Go.Ground.data }, { on := 1, ground := Go.Ground.chain }], guard := none }) rfl (fun K hK => ?_) (AllReadyH.nil)
  go_simp
  refine (cb _ E).mono ?_
  rintro e w26 ⟨rfl, x⟩
  have z9 := x.size
  replace E := E.trans x
  replace LB4 := LB4.ext x
  replace LB5 := LB5.ext x
  replace LB6 := LB6.ext x
  replace RB6 := RB6.ext x
  clear x
  clear hHeld
  have hHeld := And.intro LB4 (LB5)
  refine hK.out _ _ hHeld (fun _ => ?_)
  clear hK K
  try simp only [Act.put, List.setIfInBounds_toArray, List.set_cons_zero, List.set_cons_succ]
  refine wpAnyH_ready (rs := [4]) (by kernel_rfl) (by simp) ?_
  refine AllReadyH.cons (o := { dst := some 27, op := Go.Op.call { callee := Go.Callee.value (Go.Operand.func 71), args := #[Go.Operand.tmp 24, Go.Operand.tmp 26], argTypes := #[3, 3] }, type := 110, pos := "relate.go:56", after := #[{ on := 1, ground := Go.Ground.data }, { on := 3, ground := Go.Ground.data }, { on := 3, ground := Go.Ground.chain }], guard := none }) rfl (fun K hK => ?_) (AllReadyH.nil)
  go_simp
  refine (cl _).mono ?_
  rintro e w27 ⟨rfl, x⟩
  have z10 := x.size
  replace E := E.trans x
  replace LB4 := LB4.ext x
  replace LB5 := LB5.ext x
  replace LB6 := LB6.ext x
  replace RB6 := RB6.ext x
  clear x
  clear hHeld
  have hHeld := And.intro LB4 (LB5)
  refine hK.out _ _ hHeld (fun _ => ?_)
  clear hK K
  try simp only [Act.put, List.setIfInBounds_toArray, List.set_cons_zero, List.set_cons_succ]
  refine wpAnyH_take (i := 5) (oi := { dst := some 22, op := Go.Op.move (Go.Operand.tmp 27), type := 110, pos := "relate.go:56", after := #[{ on := 4, ground := Go.Ground.data }], guard := none }) (v := ?v11) rfl (by kernel_rfl) (by kernel_rfl) (by kernel_rfl) (fun _ _ _ h => h) (Or.inl ⟨by rfl, ?hy11⟩) hHeld ?rest11
  case hy11 => (intro w hSw; (try dsimp only at hSw); go_simp; (first | done | with_reducible rfl))
  try simp only [Act.put, List.setIfInBounds_toArray, List.set_cons_zero, List.set_cons_succ]
  refine wpAnyH_take (i := 6) (oi := { dst := some 28, op := Go.Op.extract (Go.Operand.tmp 22) 0, type := 3, pos := "relate.go:56", after := #[{ on := 5, ground := Go.Ground.data }], guard := none }) (v := ?v12) rfl (by kernel_rfl) (by kernel_rfl) (by kernel_rfl) (fun _ _ _ h => h) (Or.inl ⟨by rfl, ?hy12⟩) hHeld ?rest12
  case hy12 => (intro w hSw; (try dsimp only at hSw); go_simp; (first | done | with_reducible rfl))
  try simp only [Act.put, List.setIfInBounds_toArray, List.set_cons_zero, List.set_cons_succ]
  refine wpAnyH_take (i := 7) (oi := { dst := some 29, op := Go.Op.extract (Go.Operand.tmp 22) 1, type := 4, pos := "relate.go:56", after := #[{ on := 5, ground := Go.Ground.data }, { on := 8, ground := Go.Ground.gcOnly Go.Departure.lateStores }], guard := none }) (v := ?v13) rfl (by kernel_rfl) (by kernel_rfl) (by kernel_rfl) (fun _ _ _ h => h) (Or.inl ⟨by rfl, ?hy13⟩) hHeld ?rest13
  case hy13 => (intro w hSw; (try dsimp only at hSw); go_simp; (first | done | with_reducible rfl))
  try simp only [Act.put, List.setIfInBounds_toArray, List.set_cons_zero, List.set_cons_succ]
  refine wpAnyH_take (i := 8) (oi := { dst := some 8, op := Go.Op.assign (Go.Operand.tmp 28), type := 3, pos := "relate.go:56", after := #[{ on := 6, ground := Go.Ground.data }, { on := 4, ground := Go.Ground.chain }, { on := 0, ground := Go.Ground.phase }, { on := 1, ground := Go.Ground.phase }, { on := 2, ground := Go.Ground.phase }, { on := 3, ground := Go.Ground.phase }, { on := 4, ground := Go.Ground.phase }, { on := 5, ground := Go.Ground.phase }, { on := 6, ground := Go.Ground.phase }, { on := 7, ground := Go.Ground.textOnly Go.Departure.lateStores }], guard := none }) (v := ?v14) rfl (by kernel_rfl) (by kernel_rfl) (by kernel_rfl) (fun _ _ _ h => h) (Or.inl ⟨by rfl, ?hy14⟩) hHeld ?rest14
  case hy14 => (intro w hSw; (try dsimp only at hSw); go_simp; (first | done | with_reducible rfl))
  try simp only [Act.put, List.setIfInBounds_toArray, List.set_cons_zero, List.set_cons_succ]
  refine wpAnyH_take (i := 9) (oi := { dst := some 9, op := Go.Op.assign (Go.Operand.tmp 29), type := 4, pos := "relate.go:56", after := #[{ on := 7, ground := Go.Ground.data }, { on := 8, ground := Go.Ground.chain }, { on := 0, ground := Go.Ground.phase }, { on := 1, ground := Go.Ground.phase }, { on := 2, ground := Go.Ground.phase }, { on := 3, ground := Go.Ground.phase }, { on := 4, ground := Go.Ground.phase }, { on := 5, ground := Go.Ground.phase }, { on := 6, ground := Go.Ground.phase }, { on := 7, ground := Go.Ground.phase }, { on := 8, ground := Go.Ground.phase }], guard := none }) (v := ?v15) rfl (by kernel_rfl) (by kernel_rfl) (by kernel_rfl) (fun _ _ _ h => h) (Or.inl ⟨by rfl, ?hy15⟩) hHeld ?rest15
  case hy15 => (intro w hSw; (try dsimp only at hSw); go_simp; (first | done | with_reducible rfl))
  try simp only [Act.put, List.setIfInBounds_toArray, List.set_cons_zero, List.set_cons_succ]
  refine wpAnyH_done (by kernel_rfl) ?_ _
  go_wp2_with (refine loadsV (B := B4) (by rfl) rfl rfl LB4 ?_)
  clear LB4 LB5
  refine (da _ E).mono ?_
  rintro e w34 ⟨rfl, x⟩
  have z16 := x.size
  replace E := E.trans x
  replace LB6 := LB6.ext x
  replace RB6 := RB6.ext x
  clear x
  have TG17 : True := trivial
  go_wp2_with (clear TG17; have hRl := (RB6).lt (Nat.zero_lt_succ _); refine storesV (B := B6) rfl rfl rfl (v := zeroVec) rfl RB6 zeroVec_flat ?_; clear LB6; intro s17 G17 LB6 RQ; have z18 := G17.size; replace E := grown_ext E G17 (by omega); clear RB6; have RB6 := RQ; clear RQ hRl; clear RB6)
  refine bodyPost_ret (results_lay2 rfl rfl rfl (ldV LB6)) rfl ?_
  exact ⟨rfl, E⟩
theorem rapp_box2 (hf : 11 ≤ f ∧ f ≤ 16) (m n : Int) (ca : ∀ w', Ext w w' → Calls Try.prog 30 #[v] w' fun e w2 => e = .returned (.int .i64 m) ∧ Ext w' w2) (cb : ∀ w', Ext w w' → Calls Try.prog 30 #[u] w' fun e w2 => e = .returned (.int .i64 n) ∧ Ext w' w2) (hl : lenOk m n = true) (N : Nat) (hN : lenV m n = (N : Int)) (ka kb : Int) (da : ∀ w', Ext w w' → Calls Try.prog 56 #[v] w' fun e w2 => e = .returned (.int .i64 ka) ∧ Ext w' w2) (db : ∀ w', Ext w w' → Calls Try.prog 56 #[u] w' fun e w2 => e = .returned (.int .i64 kb) ∧ Ext w' w2) (h2 : (ka == 2) = false) (h4 : (kb == 2) = true) (hF : Flat 8 v) (hG : Flat 8 u) :
    Calls Try.prog 49 #[.int .i64 f, v, u] w fun e w' => e = .returned (.tuple #[zeroVec, .int .i64 24]) ∧ Ext w w' := by
  have E := Ext.refl w
  obtain ⟨h1, h3⟩ := hf
  have cl : ∀ w', Calls Try.prog 71 #[.int .i64 m, .int .i64 n] w' fun e w2 => e = .returned (.tuple #[.int .i64 (lenV m n), .bool true]) ∧ Ext w' w2 := fun w' => (length_any m n w').mono fun e w2 h => ⟨by rw [h.1, hl], h.2 ▸ Ext.refl _⟩
  rw [hN] at cl
  clear hl hN
  go_enter Try.func49, Try.ntmps49
  have TB4 : True := trivial
  have TB5 : True := trivial
  have TB6 : True := trivial
  go_wp2_with (first | (clear TB4; refine boxsV (v := v) rfl rfl rfl hF ?_; intro B4 w4 bB4 cB4 XB4 LB4 RB4; have z1 := XB4.size; replace E := E.trans XB4; clear RB4) | (clear TB5; refine boxsV (v := u) rfl rfl rfl hG ?_; intro B5 w5 bB5 cB5 XB5 LB5 RB5; have z2 := XB5.size; replace E := E.trans XB5; replace LB4 := LB4.ext XB5; clear RB5) | (clear TB6; refine allocsV rfl rfl ?_; intro B6 w6 bB6 cB6 XB6 LB6 RB6; have z3 := XB6.size; replace E := E.trans XB6; replace LB4 := LB4.ext XB6; replace LB5 := LB5.ext XB6))
  try simp only [Act.put, List.setIfInBounds_toArray, List.set_cons_zero, List.set_cons_succ]
  have hq4 : w6.heap.size ≤ w6.drew.heap.size := Nat.le_refl _
  have z5 := (Ext.refl w6).drew.size
  replace E := E.trans (Ext.refl w6).drew
  replace LB4 := LB4.ext (Ext.refl w6).drew
  replace LB5 := LB5.ext (Ext.refl w6).drew
  replace LB6 := LB6.ext (Ext.refl w6).drew
  replace RB6 := RB6.ext (Ext.refl w6).drew
  refine wp_region_held_drew (S := (fun w' => Lay 8 w' B4 v ∧ Lay 8 w' B5 u)) (by kernel_rfl) ⟨LB4, LB5⟩ (fun hHeld => ?_)
  refine wpAnyH_take (i := 0) (oi := { dst := some 23, op := Go.Op.load 34 (Go.Operand.tmp 4), type := 34, pos := "relate.go:56", after := #[], guard := none }) (v := v) rfl (by kernel_rfl) (by kernel_rfl) (by kernel_rfl) (fun _ _ _ h => h) (yieldV (by rfl) rfl rfl fun w' hx => hx.1) hHeld ?_
  try simp only [Act.put, List.setIfInBounds_toArray, List.set_cons_zero, List.set_cons_succ]
  refine wpAnyH_take (i := 2) (oi := { dst := some 25, op := Go.Op.load 34 (Go.Operand.tmp 5), type := 34, pos := "relate.go:56", after := #[], guard := none }) (v := u) rfl (by kernel_rfl) (by kernel_rfl) (by kernel_rfl) (fun _ _ _ h => h) (yieldV (by rfl) rfl rfl fun w' hx => hx.2) hHeld ?_
  try simp only [Act.put, List.setIfInBounds_toArray, List.set_cons_zero, List.set_cons_succ]
  refine wpAnyH_ready (rs := [1]) (by kernel_rfl) (by simp) ?_
  refine AllReadyH.cons (o := { dst := some 24, op := Go.Op.call { callee := Go.Callee.value (Go.Operand.func 30), args := #[Go.Operand.tmp 23], argTypes := #[34] }, type := 3, pos := "relate.go:56", after := #[{ on := 0, ground := Go.Ground.data }], guard := none }) rfl (fun K hK => ?_) (AllReadyH.nil)
  go_simp
  refine (ca _ E).mono ?_
  rintro e w24 ⟨rfl, x⟩
  have z8 := x.size
  replace E := E.trans x
  replace LB4 := LB4.ext x
  replace LB5 := LB5.ext x
  replace LB6 := LB6.ext x
  replace RB6 := RB6.ext x
  clear x
  clear hHeld
  have hHeld := And.intro LB4 (LB5)
  refine hK.out _ _ hHeld (fun _ => ?_)
  clear hK K
  try simp only [Act.put, List.setIfInBounds_toArray, List.set_cons_zero, List.set_cons_succ]
  refine wpAnyH_ready (rs := [3]) (by kernel_rfl) (by simp) ?_
  refine AllReadyH.cons (o := { dst := some 26, op := Go.Op.call { callee := Go.Callee.value (Go.Operand.func 30), args := #[Go.Operand.tmp 25], argTypes := #[34] }, type := 3, pos := "relate.go:56", after := #[{ on := 2, ground := Go.Ground.data }, { on := 1, ground := Go.Ground.chain }], guard := none }) rfl (fun K hK => ?_) (AllReadyH.nil)
  go_simp
  refine (cb _ E).mono ?_
  rintro e w26 ⟨rfl, x⟩
  have z9 := x.size
  replace E := E.trans x
  replace LB4 := LB4.ext x
  replace LB5 := LB5.ext x
  replace LB6 := LB6.ext x
  replace RB6 := RB6.ext x
  clear x
  clear hHeld
  have hHeld := And.intro LB4 (LB5)
  refine hK.out _ _ hHeld (fun _ => ?_)
  clear hK K
  try simp only [Act.put, List.setIfInBounds_toArray, List.set_cons_zero, List.set_cons_succ]
  refine wpAnyH_ready (rs := [4]) (by kernel_rfl) (by simp) ?_
  refine AllReadyH.cons (o := { dst := some 27, op := Go.Op.call { callee := Go.Callee.value (Go.Operand.func 71), args := #[Go.Operand.tmp 24, Go.Operand.tmp 26], argTypes := #[3, 3] }, type := 110, pos := "relate.go:56", after := #[{ on := 1, ground := Go.Ground.data }, { on := 3, ground := Go.Ground.data }, { on := 3, ground := Go.Ground.chain }], guard := none }) rfl (fun K hK => ?_) (AllReadyH.nil)
  go_simp
  refine (cl _).mono ?_
  rintro e w27 ⟨rfl, x⟩
  have z10 := x.size
  replace E := E.trans x
  replace LB4 := LB4.ext x
  replace LB5 := LB5.ext x
  replace LB6 := LB6.ext x
  replace RB6 := RB6.ext x
  clear x
  clear hHeld
  have hHeld := And.intro LB4 (LB5)
  refine hK.out _ _ hHeld (fun _ => ?_)
  clear hK K
  try simp only [Act.put, List.setIfInBounds_toArray, List.set_cons_zero, List.set_cons_succ]
  refine wpAnyH_take (i := 5) (oi := { dst := some 22, op := Go.Op.move (Go.Operand.tmp 27), type := 110, pos := "relate.go:56", after := #[{ on := 4, ground := Go.Ground.data }], guard := none }) (v := ?v11) rfl (by kernel_rfl) (by kernel_rfl) (by kernel_rfl) (fun _ _ _ h => h) (Or.inl ⟨by rfl, ?hy11⟩) hHeld ?rest11
  case hy11 => (intro w hSw; (try dsimp only at hSw); go_simp; (first | done | with_reducible rfl))
  try simp only [Act.put, List.setIfInBounds_toArray, List.set_cons_zero, List.set_cons_succ]
  refine wpAnyH_take (i := 6) (oi := { dst := some 28, op := Go.Op.extract (Go.Operand.tmp 22) 0, type := 3, pos := "relate.go:56", after := #[{ on := 5, ground := Go.Ground.data }], guard := none }) (v := ?v12) rfl (by kernel_rfl) (by kernel_rfl) (by kernel_rfl) (fun _ _ _ h => h) (Or.inl ⟨by rfl, ?hy12⟩) hHeld ?rest12
  case hy12 => (intro w hSw; (try dsimp only at hSw); go_simp; (first | done | with_reducible rfl))
  try simp only [Act.put, List.setIfInBounds_toArray, List.set_cons_zero, List.set_cons_succ]
  refine wpAnyH_take (i := 7) (oi := { dst := some 29, op := Go.Op.extract (Go.Operand.tmp 22) 1, type := 4, pos := "relate.go:56", after := #[{ on := 5, ground := Go.Ground.data }, { on := 8, ground := Go.Ground.gcOnly Go.Departure.lateStores }], guard := none }) (v := ?v13) rfl (by kernel_rfl) (by kernel_rfl) (by kernel_rfl) (fun _ _ _ h => h) (Or.inl ⟨by rfl, ?hy13⟩) hHeld ?rest13
  case hy13 => (intro w hSw; (try dsimp only at hSw); go_simp; (first | done | with_reducible rfl))
  try simp only [Act.put, List.setIfInBounds_toArray, List.set_cons_zero, List.set_cons_succ]
  refine wpAnyH_take (i := 8) (oi := { dst := some 8, op := Go.Op.assign (Go.Operand.tmp 28), type := 3, pos := "relate.go:56", after := #[{ on := 6, ground := Go.Ground.data }, { on := 4, ground := Go.Ground.chain }, { on := 0, ground := Go.Ground.phase }, { on := 1, ground := Go.Ground.phase }, { on := 2, ground := Go.Ground.phase }, { on := 3, ground := Go.Ground.phase }, { on := 4, ground := Go.Ground.phase }, { on := 5, ground := Go.Ground.phase }, { on := 6, ground := Go.Ground.phase }, { on := 7, ground := Go.Ground.textOnly Go.Departure.lateStores }], guard := none }) (v := ?v14) rfl (by kernel_rfl) (by kernel_rfl) (by kernel_rfl) (fun _ _ _ h => h) (Or.inl ⟨by rfl, ?hy14⟩) hHeld ?rest14
  case hy14 => (intro w hSw; (try dsimp only at hSw); go_simp; (first | done | with_reducible rfl))
  try simp only [Act.put, List.setIfInBounds_toArray, List.set_cons_zero, List.set_cons_succ]
  refine wpAnyH_take (i := 9) (oi := { dst := some 9, op := Go.Op.assign (Go.Operand.tmp 29), type := 4, pos := "relate.go:56", after := #[{ on := 7, ground := Go.Ground.data }, { on := 8, ground := Go.Ground.chain }, { on := 0, ground := Go.Ground.phase }, { on := 1, ground := Go.Ground.phase }, { on := 2, ground := Go.Ground.phase }, { on := 3, ground := Go.Ground.phase }, { on := 4, ground := Go.Ground.phase }, { on := 5, ground := Go.Ground.phase }, { on := 6, ground := Go.Ground.phase }, { on := 7, ground := Go.Ground.phase }, { on := 8, ground := Go.Ground.phase }], guard := none }) (v := ?v15) rfl (by kernel_rfl) (by kernel_rfl) (by kernel_rfl) (fun _ _ _ h => h) (Or.inl ⟨by rfl, ?hy15⟩) hHeld ?rest15
  case hy15 => (intro w hSw; (try dsimp only at hSw); go_simp; (first | done | with_reducible rfl))
  try simp only [Act.put, List.setIfInBounds_toArray, List.set_cons_zero, List.set_cons_succ]
  refine wpAnyH_done (by kernel_rfl) ?_ _
  go_wp2_with (refine loadsV (B := B4) (by rfl) rfl rfl LB4 ?_)
  clear LB4
  refine (da _ E).mono ?_
  rintro e w34 ⟨rfl, x⟩
  have z16 := x.size
  replace E := E.trans x
  replace LB5 := LB5.ext x
  replace LB6 := LB6.ext x
  replace RB6 := RB6.ext x
  clear x
  go_wp2_with (refine loadgV (B := B5) (by rfl) rfl rfl LB5 ?_)
  clear LB5
  refine (db _ E).mono ?_
  rintro e w38 ⟨rfl, x⟩
  have z17 := x.size
  replace E := E.trans x
  replace LB6 := LB6.ext x
  replace RB6 := RB6.ext x
  clear x
  have TG18 : True := trivial
  go_wp2_with (clear TG18; have hRl := (RB6).lt (Nat.zero_lt_succ _); refine storesV (B := B6) rfl rfl rfl (v := zeroVec) rfl RB6 zeroVec_flat ?_; clear LB6; intro s18 G18 LB6 RQ; have z19 := G18.size; replace E := grown_ext E G18 (by omega); clear RB6; have RB6 := RQ; clear RQ hRl; clear RB6)
  refine bodyPost_ret (results_lay2 rfl rfl rfl (ldV LB6)) rfl ?_
  exact ⟨rfl, E⟩
theorem rapp_chars1 (hf : 11 ≤ f ∧ f ≤ 16) (m n : Int) (ca : ∀ w', Ext w w' → Calls Try.prog 30 #[v] w' fun e w2 => e = .returned (.int .i64 m) ∧ Ext w' w2) (cb : ∀ w', Ext w w' → Calls Try.prog 30 #[u] w' fun e w2 => e = .returned (.int .i64 n) ∧ Ext w' w2) (hl : lenOk m n = true) (N : Nat) (hN : lenV m n = (N : Int)) (ka kb : Int) (da : ∀ w', Ext w w' → Calls Try.prog 56 #[v] w' fun e w2 => e = .returned (.int .i64 ka) ∧ Ext w' w2) (db : ∀ w', Ext w w' → Calls Try.prog 56 #[u] w' fun e w2 => e = .returned (.int .i64 kb) ∧ Ext w' w2) (h2 : (ka == 2) = false) (h6 : (kb == 2) = false) (h4 : (ka != kb) = true) (cc : ∀ w', Ext w w' → Calls Try.prog 78 #[.int .i64 f, .int .i64 (N : Int), v, u] w' fun e w2 => e = .returned (.tuple #[zeroVec, .int .i64 24]) ∧ Ext w' w2) (hF : Flat 8 v) (hG : Flat 8 u) :
    Calls Try.prog 49 #[.int .i64 f, v, u] w fun e w' => e = .returned (.tuple #[zeroVec, .int .i64 24]) ∧ Ext w w' := by
  have E := Ext.refl w
  obtain ⟨h1, h3⟩ := hf
  have cl : ∀ w', Calls Try.prog 71 #[.int .i64 m, .int .i64 n] w' fun e w2 => e = .returned (.tuple #[.int .i64 (lenV m n), .bool true]) ∧ Ext w' w2 := fun w' => (length_any m n w').mono fun e w2 h => ⟨by rw [h.1, hl], h.2 ▸ Ext.refl _⟩
  rw [hN] at cl
  clear hl hN
  go_enter Try.func49, Try.ntmps49
  have TB4 : True := trivial
  have TB5 : True := trivial
  have TB6 : True := trivial
  go_wp2_with (first | (clear TB4; refine boxsV (v := v) rfl rfl rfl hF ?_; intro B4 w4 bB4 cB4 XB4 LB4 RB4; have z1 := XB4.size; replace E := E.trans XB4; clear RB4) | (clear TB5; refine boxsV (v := u) rfl rfl rfl hG ?_; intro B5 w5 bB5 cB5 XB5 LB5 RB5; have z2 := XB5.size; replace E := E.trans XB5; replace LB4 := LB4.ext XB5; clear RB5) | (clear TB6; refine allocsV rfl rfl ?_; intro B6 w6 bB6 cB6 XB6 LB6 RB6; have z3 := XB6.size; replace E := E.trans XB6; replace LB4 := LB4.ext XB6; replace LB5 := LB5.ext XB6))
  try simp only [Act.put, List.setIfInBounds_toArray, List.set_cons_zero, List.set_cons_succ]
  have hq4 : w6.heap.size ≤ w6.drew.heap.size := Nat.le_refl _
  have z5 := (Ext.refl w6).drew.size
  replace E := E.trans (Ext.refl w6).drew
  replace LB4 := LB4.ext (Ext.refl w6).drew
  replace LB5 := LB5.ext (Ext.refl w6).drew
  replace LB6 := LB6.ext (Ext.refl w6).drew
  replace RB6 := RB6.ext (Ext.refl w6).drew
  refine wp_region_held_drew (S := (fun w' => Lay 8 w' B4 v ∧ Lay 8 w' B5 u)) (by kernel_rfl) ⟨LB4, LB5⟩ (fun hHeld => ?_)
  refine wpAnyH_take (i := 0) (oi := { dst := some 23, op := Go.Op.load 34 (Go.Operand.tmp 4), type := 34, pos := "relate.go:56", after := #[], guard := none }) (v := v) rfl (by kernel_rfl) (by kernel_rfl) (by kernel_rfl) (fun _ _ _ h => h) (yieldV (by rfl) rfl rfl fun w' hx => hx.1) hHeld ?_
  try simp only [Act.put, List.setIfInBounds_toArray, List.set_cons_zero, List.set_cons_succ]
  refine wpAnyH_take (i := 2) (oi := { dst := some 25, op := Go.Op.load 34 (Go.Operand.tmp 5), type := 34, pos := "relate.go:56", after := #[], guard := none }) (v := u) rfl (by kernel_rfl) (by kernel_rfl) (by kernel_rfl) (fun _ _ _ h => h) (yieldV (by rfl) rfl rfl fun w' hx => hx.2) hHeld ?_
  try simp only [Act.put, List.setIfInBounds_toArray, List.set_cons_zero, List.set_cons_succ]
  refine wpAnyH_ready (rs := [1]) (by kernel_rfl) (by simp) ?_
  refine AllReadyH.cons (o := { dst := some 24, op := Go.Op.call { callee := Go.Callee.value (Go.Operand.func 30), args := #[Go.Operand.tmp 23], argTypes := #[34] }, type := 3, pos := "relate.go:56", after := #[{ on := 0, ground := Go.Ground.data }], guard := none }) rfl (fun K hK => ?_) (AllReadyH.nil)
  go_simp
  refine (ca _ E).mono ?_
  rintro e w24 ⟨rfl, x⟩
  have z8 := x.size
  replace E := E.trans x
  replace LB4 := LB4.ext x
  replace LB5 := LB5.ext x
  replace LB6 := LB6.ext x
  replace RB6 := RB6.ext x
  clear x
  clear hHeld
  have hHeld := And.intro LB4 (LB5)
  refine hK.out _ _ hHeld (fun _ => ?_)
  clear hK K
  try simp only [Act.put, List.setIfInBounds_toArray, List.set_cons_zero, List.set_cons_succ]
  refine wpAnyH_ready (rs := [3]) (by kernel_rfl) (by simp) ?_
  refine AllReadyH.cons (o := { dst := some 26, op := Go.Op.call { callee := Go.Callee.value (Go.Operand.func 30), args := #[Go.Operand.tmp 25], argTypes := #[34] }, type := 3, pos := "relate.go:56", after := #[{ on := 2, ground := Go.Ground.data }, { on := 1, ground := Go.Ground.chain }], guard := none }) rfl (fun K hK => ?_) (AllReadyH.nil)
  go_simp
  refine (cb _ E).mono ?_
  rintro e w26 ⟨rfl, x⟩
  have z9 := x.size
  replace E := E.trans x
  replace LB4 := LB4.ext x
  replace LB5 := LB5.ext x
  replace LB6 := LB6.ext x
  replace RB6 := RB6.ext x
  clear x
  clear hHeld
  have hHeld := And.intro LB4 (LB5)
  refine hK.out _ _ hHeld (fun _ => ?_)
  clear hK K
  try simp only [Act.put, List.setIfInBounds_toArray, List.set_cons_zero, List.set_cons_succ]
  refine wpAnyH_ready (rs := [4]) (by kernel_rfl) (by simp) ?_
  refine AllReadyH.cons (o := { dst := some 27, op := Go.Op.call { callee := Go.Callee.value (Go.Operand.func 71), args := #[Go.Operand.tmp 24, Go.Operand.tmp 26], argTypes := #[3, 3] }, type := 110, pos := "relate.go:56", after := #[{ on := 1, ground := Go.Ground.data }, { on := 3, ground := Go.Ground.data }, { on := 3, ground := Go.Ground.chain }], guard := none }) rfl (fun K hK => ?_) (AllReadyH.nil)
  go_simp
  refine (cl _).mono ?_
  rintro e w27 ⟨rfl, x⟩
  have z10 := x.size
  replace E := E.trans x
  replace LB4 := LB4.ext x
  replace LB5 := LB5.ext x
  replace LB6 := LB6.ext x
  replace RB6 := RB6.ext x
  clear x
  clear hHeld
  have hHeld := And.intro LB4 (LB5)
  refine hK.out _ _ hHeld (fun _ => ?_)
  clear hK K
  try simp only [Act.put, List.setIfInBounds_toArray, List.set_cons_zero, List.set_cons_succ]
  refine wpAnyH_take (i := 5) (oi := { dst := some 22, op := Go.Op.move (Go.Operand.tmp 27), type := 110, pos := "relate.go:56", after := #[{ on := 4, ground := Go.Ground.data }], guard := none }) (v := ?v11) rfl (by kernel_rfl) (by kernel_rfl) (by kernel_rfl) (fun _ _ _ h => h) (Or.inl ⟨by rfl, ?hy11⟩) hHeld ?rest11
  case hy11 => (intro w hSw; (try dsimp only at hSw); go_simp; (first | done | with_reducible rfl))
  try simp only [Act.put, List.setIfInBounds_toArray, List.set_cons_zero, List.set_cons_succ]
  refine wpAnyH_take (i := 6) (oi := { dst := some 28, op := Go.Op.extract (Go.Operand.tmp 22) 0, type := 3, pos := "relate.go:56", after := #[{ on := 5, ground := Go.Ground.data }], guard := none }) (v := ?v12) rfl (by kernel_rfl) (by kernel_rfl) (by kernel_rfl) (fun _ _ _ h => h) (Or.inl ⟨by rfl, ?hy12⟩) hHeld ?rest12
  case hy12 => (intro w hSw; (try dsimp only at hSw); go_simp; (first | done | with_reducible rfl))
  try simp only [Act.put, List.setIfInBounds_toArray, List.set_cons_zero, List.set_cons_succ]
  refine wpAnyH_take (i := 7) (oi := { dst := some 29, op := Go.Op.extract (Go.Operand.tmp 22) 1, type := 4, pos := "relate.go:56", after := #[{ on := 5, ground := Go.Ground.data }, { on := 8, ground := Go.Ground.gcOnly Go.Departure.lateStores }], guard := none }) (v := ?v13) rfl (by kernel_rfl) (by kernel_rfl) (by kernel_rfl) (fun _ _ _ h => h) (Or.inl ⟨by rfl, ?hy13⟩) hHeld ?rest13
  case hy13 => (intro w hSw; (try dsimp only at hSw); go_simp; (first | done | with_reducible rfl))
  try simp only [Act.put, List.setIfInBounds_toArray, List.set_cons_zero, List.set_cons_succ]
  refine wpAnyH_take (i := 8) (oi := { dst := some 8, op := Go.Op.assign (Go.Operand.tmp 28), type := 3, pos := "relate.go:56", after := #[{ on := 6, ground := Go.Ground.data }, { on := 4, ground := Go.Ground.chain }, { on := 0, ground := Go.Ground.phase }, { on := 1, ground := Go.Ground.phase }, { on := 2, ground := Go.Ground.phase }, { on := 3, ground := Go.Ground.phase }, { on := 4, ground := Go.Ground.phase }, { on := 5, ground := Go.Ground.phase }, { on := 6, ground := Go.Ground.phase }, { on := 7, ground := Go.Ground.textOnly Go.Departure.lateStores }], guard := none }) (v := ?v14) rfl (by kernel_rfl) (by kernel_rfl) (by kernel_rfl) (fun _ _ _ h => h) (Or.inl ⟨by rfl, ?hy14⟩) hHeld ?rest14
  case hy14 => (intro w hSw; (try dsimp only at hSw); go_simp; (first | done | with_reducible rfl))
  try simp only [Act.put, List.setIfInBounds_toArray, List.set_cons_zero, List.set_cons_succ]
  refine wpAnyH_take (i := 9) (oi := { dst := some 9, op := Go.Op.assign (Go.Operand.tmp 29), type := 4, pos := "relate.go:56", after := #[{ on := 7, ground := Go.Ground.data }, { on := 8, ground := Go.Ground.chain }, { on := 0, ground := Go.Ground.phase }, { on := 1, ground := Go.Ground.phase }, { on := 2, ground := Go.Ground.phase }, { on := 3, ground := Go.Ground.phase }, { on := 4, ground := Go.Ground.phase }, { on := 5, ground := Go.Ground.phase }, { on := 6, ground := Go.Ground.phase }, { on := 7, ground := Go.Ground.phase }, { on := 8, ground := Go.Ground.phase }], guard := none }) (v := ?v15) rfl (by kernel_rfl) (by kernel_rfl) (by kernel_rfl) (fun _ _ _ h => h) (Or.inl ⟨by rfl, ?hy15⟩) hHeld ?rest15
  case hy15 => (intro w hSw; (try dsimp only at hSw); go_simp; (first | done | with_reducible rfl))
  try simp only [Act.put, List.setIfInBounds_toArray, List.set_cons_zero, List.set_cons_succ]
  refine wpAnyH_done (by kernel_rfl) ?_ _
  go_wp2_with (refine loadsV (B := B4) (by rfl) rfl rfl LB4 ?_)
  refine (da _ E).mono ?_
  rintro e w34 ⟨rfl, x⟩
  have z16 := x.size
  replace E := E.trans x
  replace LB4 := LB4.ext x
  replace LB5 := LB5.ext x
  replace LB6 := LB6.ext x
  replace RB6 := RB6.ext x
  clear x
  go_wp2_with (refine loadgV (B := B5) (by rfl) rfl rfl LB5 ?_)
  refine (db _ E).mono ?_
  rintro e w38 ⟨rfl, x⟩
  have z17 := x.size
  replace E := E.trans x
  replace LB4 := LB4.ext x
  replace LB5 := LB5.ext x
  replace LB6 := LB6.ext x
  replace RB6 := RB6.ext x
  clear x
  go_wp2_with fail
  try simp only [Act.put, List.setIfInBounds_toArray, List.set_cons_zero, List.set_cons_succ]
  have hq18 : w38.heap.size ≤ w38.drew.heap.size := Nat.le_refl _
  have z19 := (Ext.refl w38).drew.size
  replace E := E.trans (Ext.refl w38).drew
  replace LB4 := LB4.ext (Ext.refl w38).drew
  replace LB5 := LB5.ext (Ext.refl w38).drew
  replace LB6 := LB6.ext (Ext.refl w38).drew
  replace RB6 := RB6.ext (Ext.refl w38).drew
  refine wp_region_held_drew (S := (fun w' => Lay 8 w' B4 v ∧ Lay 8 w' B5 u)) (by kernel_rfl) ⟨LB4, LB5⟩ (fun hHeld => ?_)
  refine wpAnyH_take (i := 0) (oi := { dst := some 42, op := Go.Op.load 34 (Go.Operand.tmp 4), type := 34, pos := "relate.go:63", after := #[], guard := none }) (v := v) rfl (by kernel_rfl) (by kernel_rfl) (by kernel_rfl) (fun _ _ _ h => h) (yieldV (by rfl) rfl rfl fun w' hx => hx.1) hHeld ?_
  try simp only [Act.put, List.setIfInBounds_toArray, List.set_cons_zero, List.set_cons_succ]
  refine wpAnyH_take (i := 2) (oi := { dst := some 44, op := Go.Op.load 34 (Go.Operand.tmp 5), type := 34, pos := "relate.go:63", after := #[], guard := none }) (v := u) rfl (by kernel_rfl) (by kernel_rfl) (by kernel_rfl) (fun _ _ _ h => h) (yieldV (by rfl) rfl rfl fun w' hx => hx.2) hHeld ?_
  try simp only [Act.put, List.setIfInBounds_toArray, List.set_cons_zero, List.set_cons_succ]
  refine wpAnyH_ready (rs := [1]) (by kernel_rfl) (by simp) ?_
  refine AllReadyH.cons (o := { dst := some 43, op := Go.Op.call { callee := Go.Callee.value (Go.Operand.func 56), args := #[Go.Operand.tmp 42], argTypes := #[34] }, type := 3, pos := "relate.go:63", after := #[{ on := 0, ground := Go.Ground.data }], guard := none }) rfl (fun K hK => ?_) (AllReadyH.nil)
  go_simp
  refine (da _ E).mono ?_
  rintro e w43 ⟨rfl, x⟩
  have z22 := x.size
  replace E := E.trans x
  replace LB4 := LB4.ext x
  replace LB5 := LB5.ext x
  replace LB6 := LB6.ext x
  replace RB6 := RB6.ext x
  clear x
  clear hHeld
  have hHeld := And.intro LB4 (LB5)
  refine hK.out _ _ hHeld (fun _ => ?_)
  clear hK K
  try simp only [Act.put, List.setIfInBounds_toArray, List.set_cons_zero, List.set_cons_succ]
  refine wpAnyH_ready (rs := [3]) (by kernel_rfl) (by simp) ?_
  refine AllReadyH.cons (o := { dst := some 45, op := Go.Op.call { callee := Go.Callee.value (Go.Operand.func 56), args := #[Go.Operand.tmp 44], argTypes := #[34] }, type := 3, pos := "relate.go:63", after := #[{ on := 2, ground := Go.Ground.data }, { on := 1, ground := Go.Ground.chain }], guard := none }) rfl (fun K hK => ?_) (AllReadyH.nil)
  go_simp
  refine (db _ E).mono ?_
  rintro e w45 ⟨rfl, x⟩
  have z23 := x.size
  replace E := E.trans x
  replace LB4 := LB4.ext x
  replace LB5 := LB5.ext x
  replace LB6 := LB6.ext x
  replace RB6 := RB6.ext x
  clear x
  clear hHeld
  have hHeld := And.intro LB4 (LB5)
  refine hK.out _ _ hHeld (fun _ => ?_)
  clear hK K
  try simp only [Act.put, List.setIfInBounds_toArray, List.set_cons_zero, List.set_cons_succ]
  refine wpAnyH_take (i := 4) (oi := { dst := some 46, op := Go.Op.binOp Go.BinOp.neq 3 (Go.Operand.tmp 43) (Go.Operand.tmp 45) 3, type := 4, pos := "relate.go:63", after := #[{ on := 1, ground := Go.Ground.data }, { on := 3, ground := Go.Ground.data }], guard := none }) (v := ?v24) rfl (by kernel_rfl) (by kernel_rfl) (by kernel_rfl) (fun _ _ _ h => h) (Or.inl ⟨by rfl, ?hy24⟩) hHeld ?rest24
  case hy24 => (intro w hSw; (try dsimp only at hSw); go_simp; (first | done | with_reducible rfl))
  try simp only [Act.put, List.setIfInBounds_toArray, List.set_cons_zero, List.set_cons_succ]
  refine wpAnyH_take (i := 5) (oi := { dst := some 47, op := Go.Op.move (Go.Operand.tmp 46), type := 4, pos := "relate.go:63", after := #[{ on := 4, ground := Go.Ground.data }, { on := 3, ground := Go.Ground.chain }], guard := none }) (v := ?v25) rfl (by kernel_rfl) (by kernel_rfl) (by kernel_rfl) (fun _ _ _ h => h) (Or.inl ⟨by rfl, ?hy25⟩) hHeld ?rest25
  case hy25 => (intro w hSw; (try dsimp only at hSw); go_simp; (first | done | with_reducible rfl))
  try simp only [Act.put, List.setIfInBounds_toArray, List.set_cons_zero, List.set_cons_succ]
  refine wpAnyH_take (i := 6) (oi := { dst := some 48, op := Go.Op.load 34 (Go.Operand.tmp 4), type := 34, pos := "relate.go:63", after := #[{ on := 5, ground := Go.Ground.guard }], guard := some (5, false) }) (v := undef) rfl (by kernel_rfl) (by kernel_rfl) (by kernel_rfl) (fun _ _ _ h => h) (Or.inr ⟨by rfl, rfl⟩) hHeld ?_
  try simp only [Act.put, List.setIfInBounds_toArray, List.set_cons_zero, List.set_cons_succ]
  refine wpAnyH_take (i := 7) (oi := { dst := some 49, op := Go.Op.call { callee := Go.Callee.value (Go.Operand.func 56), args := #[Go.Operand.tmp 48], argTypes := #[34] }, type := 3, pos := "relate.go:63", after := #[{ on := 6, ground := Go.Ground.data }, { on := 5, ground := Go.Ground.chain }, { on := 5, ground := Go.Ground.guard }], guard := some (5, false) }) (v := undef) rfl (by kernel_rfl) (by kernel_rfl) (by kernel_rfl) (fun _ _ _ h => h) (Or.inr ⟨by rfl, rfl⟩) hHeld ?_
  try simp only [Act.put, List.setIfInBounds_toArray, List.set_cons_zero, List.set_cons_succ]
  refine wpAnyH_take (i := 8) (oi := { dst := some 50, op := Go.Op.binOp Go.BinOp.eql 3 (Go.Operand.tmp 49) (Go.Operand.const (Go.Value.int Go.IntKind.i64 1)) 3, type := 4, pos := "relate.go:63", after := #[{ on := 7, ground := Go.Ground.data }, { on := 5, ground := Go.Ground.guard }], guard := some (5, false) }) (v := undef) rfl (by kernel_rfl) (by kernel_rfl) (by kernel_rfl) (fun _ _ _ h => h) (Or.inr ⟨by rfl, rfl⟩) hHeld ?_
  try simp only [Act.put, List.setIfInBounds_toArray, List.set_cons_zero, List.set_cons_succ]
  refine wpAnyH_take (i := 9) (oi := { dst := some 51, op := Go.Op.pick (Go.Operand.tmp 47) (Go.Operand.const (Go.Value.bool true)) (Go.Operand.tmp 50), type := 4, pos := "relate.go:63", after := #[{ on := 5, ground := Go.Ground.data }, { on := 8, ground := Go.Ground.data }], guard := none }) (v := ?v29) rfl (by kernel_rfl) (by kernel_rfl) (by kernel_rfl) (fun _ _ _ h => h) (Or.inl ⟨by rfl, ?hy29⟩) hHeld ?rest29
  case hy29 => (intro w hSw; (try dsimp only at hSw); go_simp; (first | done | with_reducible rfl))
  try simp only [Act.put, List.setIfInBounds_toArray, List.set_cons_zero, List.set_cons_succ]
  refine wpAnyH_done (by kernel_rfl) ?_ _
  go_wp2_with (first | (refine loadsV (B := B4) (by rfl) rfl rfl LB4 ?_) | (refine loadsV (B := B5) (by rfl) rfl rfl LB5 ?_))
  clear LB4 LB5
  refine (cc _ E).mono ?_
  rintro e w56 ⟨rfl, x⟩
  have z30 := x.size
  replace E := E.trans x
  replace LB6 := LB6.ext x
  replace RB6 := RB6.ext x
  clear x
  have TG31 : True := trivial
  go_wp2_with (clear TG31; have hRl := (RB6).lt (Nat.zero_lt_succ _); refine storesV (B := B6) rfl rfl rfl (v := zeroVec) rfl RB6 zeroVec_flat ?_; clear LB6; intro s31 G31 LB6 RQ; have z32 := G31.size; replace E := grown_ext E G31 (by omega); clear RB6; have RB6 := RQ; clear RQ hRl; clear RB6)
  refine bodyPost_ret (results_lay2 rfl rfl rfl (ldV LB6)) rfl ?_
  exact ⟨rfl, E⟩
theorem rapp_chars1_yes (hf : 11 ≤ f ∧ f ≤ 16) (m n : Int) (ca : ∀ w', Ext w w' → Calls Try.prog 30 #[v] w' fun e w2 => e = .returned (.int .i64 m) ∧ Ext w' w2) (cb : ∀ w', Ext w w' → Calls Try.prog 30 #[u] w' fun e w2 => e = .returned (.int .i64 n) ∧ Ext w' w2) (hl : lenOk m n = true) (N : Nat) (hN : lenV m n = (N : Int)) (ka kb : Int) (da : ∀ w', Ext w w' → Calls Try.prog 56 #[v] w' fun e w2 => e = .returned (.int .i64 ka) ∧ Ext w' w2) (db : ∀ w', Ext w w' → Calls Try.prog 56 #[u] w' fun e w2 => e = .returned (.int .i64 kb) ∧ Ext w' w2) (h2 : (ka == 2) = false) (h6 : (kb == 2) = false) (h4 : (ka != kb) = true) (RL : List Bool) (cc : ∀ w', Ext w w' → Calls Try.prog 78 #[.int .i64 f, .int .i64 (N : Int), v, u] w' fun e w2 => ∃ p, e = .returned (.tuple #[p, .int .i64 0]) ∧ VecS w2 p (VD.bits RL) (New w'.heap.size) ∧ Ext w' w2) (hF : Flat 8 v) (hG : Flat 8 u) :
    Calls Try.prog 49 #[.int .i64 f, v, u] w fun e w' => ∃ p, e = .returned (.tuple #[p, .int .i64 0]) ∧ VecS w' p (VD.bits RL) (New w.heap.size) ∧ Ext w w' := by
  have E := Ext.refl w
  obtain ⟨h1, h3⟩ := hf
  have cl : ∀ w', Calls Try.prog 71 #[.int .i64 m, .int .i64 n] w' fun e w2 => e = .returned (.tuple #[.int .i64 (lenV m n), .bool true]) ∧ Ext w' w2 := fun w' => (length_any m n w').mono fun e w2 h => ⟨by rw [h.1, hl], h.2 ▸ Ext.refl _⟩
  rw [hN] at cl
  clear hl hN
  go_enter Try.func49, Try.ntmps49
  have TB4 : True := trivial
  have TB5 : True := trivial
  have TB6 : True := trivial
  go_wp2_with (first | (clear TB4; refine boxsV (v := v) rfl rfl rfl hF ?_; intro B4 w4 bB4 cB4 XB4 LB4 RB4; have z1 := XB4.size; replace E := E.trans XB4; clear RB4) | (clear TB5; refine boxsV (v := u) rfl rfl rfl hG ?_; intro B5 w5 bB5 cB5 XB5 LB5 RB5; have z2 := XB5.size; replace E := E.trans XB5; replace LB4 := LB4.ext XB5; clear RB5) | (clear TB6; refine allocsV rfl rfl ?_; intro B6 w6 bB6 cB6 XB6 LB6 RB6; have z3 := XB6.size; replace E := E.trans XB6; replace LB4 := LB4.ext XB6; replace LB5 := LB5.ext XB6))
  try simp only [Act.put, List.setIfInBounds_toArray, List.set_cons_zero, List.set_cons_succ]
  have hq4 : w6.heap.size ≤ w6.drew.heap.size := Nat.le_refl _
  have z5 := (Ext.refl w6).drew.size
  replace E := E.trans (Ext.refl w6).drew
  replace LB4 := LB4.ext (Ext.refl w6).drew
  replace LB5 := LB5.ext (Ext.refl w6).drew
  replace LB6 := LB6.ext (Ext.refl w6).drew
  replace RB6 := RB6.ext (Ext.refl w6).drew
  refine wp_region_held_drew (S := (fun w' => Lay 8 w' B4 v ∧ Lay 8 w' B5 u)) (by kernel_rfl) ⟨LB4, LB5⟩ (fun hHeld => ?_)
  refine wpAnyH_take (i := 0) (oi := { dst := some 23, op := Go.Op.load 34 (Go.Operand.tmp 4), type := 34, pos := "relate.go:56", after := #[], guard := none }) (v := v) rfl (by kernel_rfl) (by kernel_rfl) (by kernel_rfl) (fun _ _ _ h => h) (yieldV (by rfl) rfl rfl fun w' hx => hx.1) hHeld ?_
  try simp only [Act.put, List.setIfInBounds_toArray, List.set_cons_zero, List.set_cons_succ]
  refine wpAnyH_take (i := 2) (oi := { dst := some 25, op := Go.Op.load 34 (Go.Operand.tmp 5), type := 34, pos := "relate.go:56", after := #[], guard := none }) (v := u) rfl (by kernel_rfl) (by kernel_rfl) (by kernel_rfl) (fun _ _ _ h => h) (yieldV (by rfl) rfl rfl fun w' hx => hx.2) hHeld ?_
  try simp only [Act.put, List.setIfInBounds_toArray, List.set_cons_zero, List.set_cons_succ]
  refine wpAnyH_ready (rs := [1]) (by kernel_rfl) (by simp) ?_
  refine AllReadyH.cons (o := { dst := some 24, op := Go.Op.call { callee := Go.Callee.value (Go.Operand.func 30), args := #[Go.Operand.tmp 23], argTypes := #[34] }, type := 3, pos := "relate.go:56", after := #[{ on := 0, ground := Go.Ground.data }], guard := none }) rfl (fun K hK => ?_) (AllReadyH.nil)
  go_simp
  refine (ca _ E).mono ?_
  rintro e w24 ⟨rfl, x⟩
  have z8 := x.size
  replace E := E.trans x
  replace LB4 := LB4.ext x
  replace LB5 := LB5.ext x
  replace LB6 := LB6.ext x
  replace RB6 := RB6.ext x
  clear x
  clear hHeld
  have hHeld := And.intro LB4 (LB5)
  refine hK.out _ _ hHeld (fun _ => ?_)
  clear hK K
  try simp only [Act.put, List.setIfInBounds_toArray, List.set_cons_zero, List.set_cons_succ]
  refine wpAnyH_ready (rs := [3]) (by kernel_rfl) (by simp) ?_
  refine AllReadyH.cons (o := { dst := some 26, op := Go.Op.call { callee := Go.Callee.value (Go.Operand.func 30), args := #[Go.Operand.tmp 25], argTypes := #[34] }, type := 3, pos := "relate.go:56", after := #[{ on := 2, ground := Go.Ground.data }, { on := 1, ground := Go.Ground.chain }], guard := none }) rfl (fun K hK => ?_) (AllReadyH.nil)
  go_simp
  refine (cb _ E).mono ?_
  rintro e w26 ⟨rfl, x⟩
  have z9 := x.size
  replace E := E.trans x
  replace LB4 := LB4.ext x
  replace LB5 := LB5.ext x
  replace LB6 := LB6.ext x
  replace RB6 := RB6.ext x
  clear x
  clear hHeld
  have hHeld := And.intro LB4 (LB5)
  refine hK.out _ _ hHeld (fun _ => ?_)
  clear hK K
  try simp only [Act.put, List.setIfInBounds_toArray, List.set_cons_zero, List.set_cons_succ]
  refine wpAnyH_ready (rs := [4]) (by kernel_rfl) (by simp) ?_
  refine AllReadyH.cons (o := { dst := some 27, op := Go.Op.call { callee := Go.Callee.value (Go.Operand.func 71), args := #[Go.Operand.tmp 24, Go.Operand.tmp 26], argTypes := #[3, 3] }, type := 110, pos := "relate.go:56", after := #[{ on := 1, ground := Go.Ground.data }, { on := 3, ground := Go.Ground.data }, { on := 3, ground := Go.Ground.chain }], guard := none }) rfl (fun K hK => ?_) (AllReadyH.nil)
  go_simp
  refine (cl _).mono ?_
  rintro e w27 ⟨rfl, x⟩
  have z10 := x.size
  replace E := E.trans x
  replace LB4 := LB4.ext x
  replace LB5 := LB5.ext x
  replace LB6 := LB6.ext x
  replace RB6 := RB6.ext x
  clear x
  clear hHeld
  have hHeld := And.intro LB4 (LB5)
  refine hK.out _ _ hHeld (fun _ => ?_)
  clear hK K
  try simp only [Act.put, List.setIfInBounds_toArray, List.set_cons_zero, List.set_cons_succ]
  refine wpAnyH_take (i := 5) (oi := { dst := some 22, op := Go.Op.move (Go.Operand.tmp 27), type := 110, pos := "relate.go:56", after := #[{ on := 4, ground := Go.Ground.data }], guard := none }) (v := ?v11) rfl (by kernel_rfl) (by kernel_rfl) (by kernel_rfl) (fun _ _ _ h => h) (Or.inl ⟨by rfl, ?hy11⟩) hHeld ?rest11
  case hy11 => (intro w hSw; (try dsimp only at hSw); go_simp; (first | done | with_reducible rfl))
  try simp only [Act.put, List.setIfInBounds_toArray, List.set_cons_zero, List.set_cons_succ]
  refine wpAnyH_take (i := 6) (oi := { dst := some 28, op := Go.Op.extract (Go.Operand.tmp 22) 0, type := 3, pos := "relate.go:56", after := #[{ on := 5, ground := Go.Ground.data }], guard := none }) (v := ?v12) rfl (by kernel_rfl) (by kernel_rfl) (by kernel_rfl) (fun _ _ _ h => h) (Or.inl ⟨by rfl, ?hy12⟩) hHeld ?rest12
  case hy12 => (intro w hSw; (try dsimp only at hSw); go_simp; (first | done | with_reducible rfl))
  try simp only [Act.put, List.setIfInBounds_toArray, List.set_cons_zero, List.set_cons_succ]
  refine wpAnyH_take (i := 7) (oi := { dst := some 29, op := Go.Op.extract (Go.Operand.tmp 22) 1, type := 4, pos := "relate.go:56", after := #[{ on := 5, ground := Go.Ground.data }, { on := 8, ground := Go.Ground.gcOnly Go.Departure.lateStores }], guard := none }) (v := ?v13) rfl (by kernel_rfl) (by kernel_rfl) (by kernel_rfl) (fun _ _ _ h => h) (Or.inl ⟨by rfl, ?hy13⟩) hHeld ?rest13
  case hy13 => (intro w hSw; (try dsimp only at hSw); go_simp; (first | done | with_reducible rfl))
  try simp only [Act.put, List.setIfInBounds_toArray, List.set_cons_zero, List.set_cons_succ]
  refine wpAnyH_take (i := 8) (oi := { dst := some 8, op := Go.Op.assign (Go.Operand.tmp 28), type := 3, pos := "relate.go:56", after := #[{ on := 6, ground := Go.Ground.data }, { on := 4, ground := Go.Ground.chain }, { on := 0, ground := Go.Ground.phase }, { on := 1, ground := Go.Ground.phase }, { on := 2, ground := Go.Ground.phase }, { on := 3, ground := Go.Ground.phase }, { on := 4, ground := Go.Ground.phase }, { on := 5, ground := Go.Ground.phase }, { on := 6, ground := Go.Ground.phase }, { on := 7, ground := Go.Ground.textOnly Go.Departure.lateStores }], guard := none }) (v := ?v14) rfl (by kernel_rfl) (by kernel_rfl) (by kernel_rfl) (fun _ _ _ h => h) (Or.inl ⟨by rfl, ?hy14⟩) hHeld ?rest14
  case hy14 => (intro w hSw; (try dsimp only at hSw); go_simp; (first | done | with_reducible rfl))
  try simp only [Act.put, List.setIfInBounds_toArray, List.set_cons_zero, List.set_cons_succ]
  refine wpAnyH_take (i := 9) (oi := { dst := some 9, op := Go.Op.assign (Go.Operand.tmp 29), type := 4, pos := "relate.go:56", after := #[{ on := 7, ground := Go.Ground.data }, { on := 8, ground := Go.Ground.chain }, { on := 0, ground := Go.Ground.phase }, { on := 1, ground := Go.Ground.phase }, { on := 2, ground := Go.Ground.phase }, { on := 3, ground := Go.Ground.phase }, { on := 4, ground := Go.Ground.phase }, { on := 5, ground := Go.Ground.phase }, { on := 6, ground := Go.Ground.phase }, { on := 7, ground := Go.Ground.phase }, { on := 8, ground := Go.Ground.phase }], guard := none }) (v := ?v15) rfl (by kernel_rfl) (by kernel_rfl) (by kernel_rfl) (fun _ _ _ h => h) (Or.inl ⟨by rfl, ?hy15⟩) hHeld ?rest15
  case hy15 => (intro w hSw; (try dsimp only at hSw); go_simp; (first | done | with_reducible rfl))
  try simp only [Act.put, List.setIfInBounds_toArray, List.set_cons_zero, List.set_cons_succ]
  refine wpAnyH_done (by kernel_rfl) ?_ _
  go_wp2_with (refine loadsV (B := B4) (by rfl) rfl rfl LB4 ?_)
  refine (da _ E).mono ?_
  rintro e w34 ⟨rfl, x⟩
  have z16 := x.size
  replace E := E.trans x
  replace LB4 := LB4.ext x
  replace LB5 := LB5.ext x
  replace LB6 := LB6.ext x
  replace RB6 := RB6.ext x
  clear x
  go_wp2_with (refine loadgV (B := B5) (by rfl) rfl rfl LB5 ?_)
  refine (db _ E).mono ?_
  rintro e w38 ⟨rfl, x⟩
  have z17 := x.size
  replace E := E.trans x
  replace LB4 := LB4.ext x
  replace LB5 := LB5.ext x
  replace LB6 := LB6.ext x
  replace RB6 := RB6.ext x
  clear x
  go_wp2_with fail
  try simp only [Act.put, List.setIfInBounds_toArray, List.set_cons_zero, List.set_cons_succ]
  have hq18 : w38.heap.size ≤ w38.drew.heap.size := Nat.le_refl _
  have z19 := (Ext.refl w38).drew.size
  replace E := E.trans (Ext.refl w38).drew
  replace LB4 := LB4.ext (Ext.refl w38).drew
  replace LB5 := LB5.ext (Ext.refl w38).drew
  replace LB6 := LB6.ext (Ext.refl w38).drew
  replace RB6 := RB6.ext (Ext.refl w38).drew
  refine wp_region_held_drew (S := (fun w' => Lay 8 w' B4 v ∧ Lay 8 w' B5 u)) (by kernel_rfl) ⟨LB4, LB5⟩ (fun hHeld => ?_)
  refine wpAnyH_take (i := 0) (oi := { dst := some 42, op := Go.Op.load 34 (Go.Operand.tmp 4), type := 34, pos := "relate.go:63", after := #[], guard := none }) (v := v) rfl (by kernel_rfl) (by kernel_rfl) (by kernel_rfl) (fun _ _ _ h => h) (yieldV (by rfl) rfl rfl fun w' hx => hx.1) hHeld ?_
  try simp only [Act.put, List.setIfInBounds_toArray, List.set_cons_zero, List.set_cons_succ]
  refine wpAnyH_take (i := 2) (oi := { dst := some 44, op := Go.Op.load 34 (Go.Operand.tmp 5), type := 34, pos := "relate.go:63", after := #[], guard := none }) (v := u) rfl (by kernel_rfl) (by kernel_rfl) (by kernel_rfl) (fun _ _ _ h => h) (yieldV (by rfl) rfl rfl fun w' hx => hx.2) hHeld ?_
  try simp only [Act.put, List.setIfInBounds_toArray, List.set_cons_zero, List.set_cons_succ]
  refine wpAnyH_ready (rs := [1]) (by kernel_rfl) (by simp) ?_
  refine AllReadyH.cons (o := { dst := some 43, op := Go.Op.call { callee := Go.Callee.value (Go.Operand.func 56), args := #[Go.Operand.tmp 42], argTypes := #[34] }, type := 3, pos := "relate.go:63", after := #[{ on := 0, ground := Go.Ground.data }], guard := none }) rfl (fun K hK => ?_) (AllReadyH.nil)
  go_simp
  refine (da _ E).mono ?_
  rintro e w43 ⟨rfl, x⟩
  have z22 := x.size
  replace E := E.trans x
  replace LB4 := LB4.ext x
  replace LB5 := LB5.ext x
  replace LB6 := LB6.ext x
  replace RB6 := RB6.ext x
  clear x
  clear hHeld
  have hHeld := And.intro LB4 (LB5)
  refine hK.out _ _ hHeld (fun _ => ?_)
  clear hK K
  try simp only [Act.put, List.setIfInBounds_toArray, List.set_cons_zero, List.set_cons_succ]
  refine wpAnyH_ready (rs := [3]) (by kernel_rfl) (by simp) ?_
  refine AllReadyH.cons (o := { dst := some 45, op := Go.Op.call { callee := Go.Callee.value (Go.Operand.func 56), args := #[Go.Operand.tmp 44], argTypes := #[34] }, type := 3, pos := "relate.go:63", after := #[{ on := 2, ground := Go.Ground.data }, { on := 1, ground := Go.Ground.chain }], guard := none }) rfl (fun K hK => ?_) (AllReadyH.nil)
  go_simp
  refine (db _ E).mono ?_
  rintro e w45 ⟨rfl, x⟩
  have z23 := x.size
  replace E := E.trans x
  replace LB4 := LB4.ext x
  replace LB5 := LB5.ext x
  replace LB6 := LB6.ext x
  replace RB6 := RB6.ext x
  clear x
  clear hHeld
  have hHeld := And.intro LB4 (LB5)
  refine hK.out _ _ hHeld (fun _ => ?_)
  clear hK K
  try simp only [Act.put, List.setIfInBounds_toArray, List.set_cons_zero, List.set_cons_succ]
  refine wpAnyH_take (i := 4) (oi := { dst := some 46, op := Go.Op.binOp Go.BinOp.neq 3 (Go.Operand.tmp 43) (Go.Operand.tmp 45) 3, type := 4, pos := "relate.go:63", after := #[{ on := 1, ground := Go.Ground.data }, { on := 3, ground := Go.Ground.data }], guard := none }) (v := ?v24) rfl (by kernel_rfl) (by kernel_rfl) (by kernel_rfl) (fun _ _ _ h => h) (Or.inl ⟨by rfl, ?hy24⟩) hHeld ?rest24
  case hy24 => (intro w hSw; (try dsimp only at hSw); go_simp; (first | done | with_reducible rfl))
  try simp only [Act.put, List.setIfInBounds_toArray, List.set_cons_zero, List.set_cons_succ]
  refine wpAnyH_take (i := 5) (oi := { dst := some 47, op := Go.Op.move (Go.Operand.tmp 46), type := 4, pos := "relate.go:63", after := #[{ on := 4, ground := Go.Ground.data }, { on := 3, ground := Go.Ground.chain }], guard := none }) (v := ?v25) rfl (by kernel_rfl) (by kernel_rfl) (by kernel_rfl) (fun _ _ _ h => h) (Or.inl ⟨by rfl, ?hy25⟩) hHeld ?rest25
  case hy25 => (intro w hSw; (try dsimp only at hSw); go_simp; (first | done | with_reducible rfl))
  try simp only [Act.put, List.setIfInBounds_toArray, List.set_cons_zero, List.set_cons_succ]
  refine wpAnyH_take (i := 6) (oi := { dst := some 48, op := Go.Op.load 34 (Go.Operand.tmp 4), type := 34, pos := "relate.go:63", after := #[{ on := 5, ground := Go.Ground.guard }], guard := some (5, false) }) (v := undef) rfl (by kernel_rfl) (by kernel_rfl) (by kernel_rfl) (fun _ _ _ h => h) (Or.inr ⟨by rfl, rfl⟩) hHeld ?_
  try simp only [Act.put, List.setIfInBounds_toArray, List.set_cons_zero, List.set_cons_succ]
  refine wpAnyH_take (i := 7) (oi := { dst := some 49, op := Go.Op.call { callee := Go.Callee.value (Go.Operand.func 56), args := #[Go.Operand.tmp 48], argTypes := #[34] }, type := 3, pos := "relate.go:63", after := #[{ on := 6, ground := Go.Ground.data }, { on := 5, ground := Go.Ground.chain }, { on := 5, ground := Go.Ground.guard }], guard := some (5, false) }) (v := undef) rfl (by kernel_rfl) (by kernel_rfl) (by kernel_rfl) (fun _ _ _ h => h) (Or.inr ⟨by rfl, rfl⟩) hHeld ?_
  try simp only [Act.put, List.setIfInBounds_toArray, List.set_cons_zero, List.set_cons_succ]
  refine wpAnyH_take (i := 8) (oi := { dst := some 50, op := Go.Op.binOp Go.BinOp.eql 3 (Go.Operand.tmp 49) (Go.Operand.const (Go.Value.int Go.IntKind.i64 1)) 3, type := 4, pos := "relate.go:63", after := #[{ on := 7, ground := Go.Ground.data }, { on := 5, ground := Go.Ground.guard }], guard := some (5, false) }) (v := undef) rfl (by kernel_rfl) (by kernel_rfl) (by kernel_rfl) (fun _ _ _ h => h) (Or.inr ⟨by rfl, rfl⟩) hHeld ?_
  try simp only [Act.put, List.setIfInBounds_toArray, List.set_cons_zero, List.set_cons_succ]
  refine wpAnyH_take (i := 9) (oi := { dst := some 51, op := Go.Op.pick (Go.Operand.tmp 47) (Go.Operand.const (Go.Value.bool true)) (Go.Operand.tmp 50), type := 4, pos := "relate.go:63", after := #[{ on := 5, ground := Go.Ground.data }, { on := 8, ground := Go.Ground.data }], guard := none }) (v := ?v29) rfl (by kernel_rfl) (by kernel_rfl) (by kernel_rfl) (fun _ _ _ h => h) (Or.inl ⟨by rfl, ?hy29⟩) hHeld ?rest29
  case hy29 => (intro w hSw; (try dsimp only at hSw); go_simp; (first | done | with_reducible rfl))
  try simp only [Act.put, List.setIfInBounds_toArray, List.set_cons_zero, List.set_cons_succ]
  refine wpAnyH_done (by kernel_rfl) ?_ _
  go_wp2_with (first | (refine loadsV (B := B4) (by rfl) rfl rfl LB4 ?_) | (refine loadsV (B := B5) (by rfl) rfl rfl LB5 ?_))
  clear LB4 LB5
  refine (cc _ E).mono ?_
  rintro e w56 ⟨p, rfl, hq, x⟩
  have NP := hq.now
  have Fp := NP.is.flat
  clear hq
  have z30 := x.size
  replace E := E.trans x
  replace LB6 := LB6.ext x
  replace RB6 := RB6.ext x
  clear x
  have TG31 : True := trivial
  go_wp2_with (clear TG31; have hRl := (RB6).lt (Nat.zero_lt_succ _); refine storesV (B := B6) rfl rfl rfl (v := p) rfl RB6 Fp ?_; clear LB6; intro s31 G31 LB6 RQ; have z32 := G31.size; replace E := grown_ext E G31 (by omega); replace NP := NP.grown G31 (by first | omega | (dsimp only [New]; omega)); clear RB6; have RB6 := RQ; clear RQ hRl; clear RB6)
  refine bodyPost_ret (results_lay2 rfl rfl rfl (ldV LB6)) rfl ?_
  exact ⟨p, rfl, NP.mono (fun i hi h => by dsimp only [New] at *; omega), E⟩
theorem rapp_chars2 (hf : 11 ≤ f ∧ f ≤ 16) (m n : Int) (ca : ∀ w', Ext w w' → Calls Try.prog 30 #[v] w' fun e w2 => e = .returned (.int .i64 m) ∧ Ext w' w2) (cb : ∀ w', Ext w w' → Calls Try.prog 30 #[u] w' fun e w2 => e = .returned (.int .i64 n) ∧ Ext w' w2) (hl : lenOk m n = true) (N : Nat) (hN : lenV m n = (N : Int)) (ka kb : Int) (da : ∀ w', Ext w w' → Calls Try.prog 56 #[v] w' fun e w2 => e = .returned (.int .i64 ka) ∧ Ext w' w2) (db : ∀ w', Ext w w' → Calls Try.prog 56 #[u] w' fun e w2 => e = .returned (.int .i64 kb) ∧ Ext w' w2) (h2 : (ka == 2) = false) (h6 : (kb == 2) = false) (h4 : (ka != kb) = false) (h5 : (ka == 1) = true) (cc : ∀ w', Ext w w' → Calls Try.prog 78 #[.int .i64 f, .int .i64 (N : Int), v, u] w' fun e w2 => e = .returned (.tuple #[zeroVec, .int .i64 24]) ∧ Ext w' w2) (hF : Flat 8 v) (hG : Flat 8 u) :
    Calls Try.prog 49 #[.int .i64 f, v, u] w fun e w' => e = .returned (.tuple #[zeroVec, .int .i64 24]) ∧ Ext w w' := by
  have E := Ext.refl w
  obtain ⟨h1, h3⟩ := hf
  have cl : ∀ w', Calls Try.prog 71 #[.int .i64 m, .int .i64 n] w' fun e w2 => e = .returned (.tuple #[.int .i64 (lenV m n), .bool true]) ∧ Ext w' w2 := fun w' => (length_any m n w').mono fun e w2 h => ⟨by rw [h.1, hl], h.2 ▸ Ext.refl _⟩
  rw [hN] at cl
  clear hl hN
  go_enter Try.func49, Try.ntmps49
  have TB4 : True := trivial
  have TB5 : True := trivial
  have TB6 : True := trivial
  go_wp2_with (first | (clear TB4; refine boxsV (v := v) rfl rfl rfl hF ?_; intro B4 w4 bB4 cB4 XB4 LB4 RB4; have z1 := XB4.size; replace E := E.trans XB4; clear RB4) | (clear TB5; refine boxsV (v := u) rfl rfl rfl hG ?_; intro B5 w5 bB5 cB5 XB5 LB5 RB5; have z2 := XB5.size; replace E := E.trans XB5; replace LB4 := LB4.ext XB5; clear RB5) | (clear TB6; refine allocsV rfl rfl ?_; intro B6 w6 bB6 cB6 XB6 LB6 RB6; have z3 := XB6.size; replace E := E.trans XB6; replace LB4 := LB4.ext XB6; replace LB5 := LB5.ext XB6))
  try simp only [Act.put, List.setIfInBounds_toArray, List.set_cons_zero, List.set_cons_succ]
  have hq4 : w6.heap.size ≤ w6.drew.heap.size := Nat.le_refl _
  have z5 := (Ext.refl w6).drew.size
  replace E := E.trans (Ext.refl w6).drew
  replace LB4 := LB4.ext (Ext.refl w6).drew
  replace LB5 := LB5.ext (Ext.refl w6).drew
  replace LB6 := LB6.ext (Ext.refl w6).drew
  replace RB6 := RB6.ext (Ext.refl w6).drew
  refine wp_region_held_drew (S := (fun w' => Lay 8 w' B4 v ∧ Lay 8 w' B5 u)) (by kernel_rfl) ⟨LB4, LB5⟩ (fun hHeld => ?_)
  refine wpAnyH_take (i := 0) (oi := { dst := some 23, op := Go.Op.load 34 (Go.Operand.tmp 4), type := 34, pos := "relate.go:56", after := #[], guard := none }) (v := v) rfl (by kernel_rfl) (by kernel_rfl) (by kernel_rfl) (fun _ _ _ h => h) (yieldV (by rfl) rfl rfl fun w' hx => hx.1) hHeld ?_
  try simp only [Act.put, List.setIfInBounds_toArray, List.set_cons_zero, List.set_cons_succ]
  refine wpAnyH_take (i := 2) (oi := { dst := some 25, op := Go.Op.load 34 (Go.Operand.tmp 5), type := 34, pos := "relate.go:56", after := #[], guard := none }) (v := u) rfl (by kernel_rfl) (by kernel_rfl) (by kernel_rfl) (fun _ _ _ h => h) (yieldV (by rfl) rfl rfl fun w' hx => hx.2) hHeld ?_
  try simp only [Act.put, List.setIfInBounds_toArray, List.set_cons_zero, List.set_cons_succ]
  refine wpAnyH_ready (rs := [1]) (by kernel_rfl) (by simp) ?_
  refine AllReadyH.cons (o := { dst := some 24, op := Go.Op.call { callee := Go.Callee.value (Go.Operand.func 30), args := #[Go.Operand.tmp 23], argTypes := #[34] }, type := 3, pos := "relate.go:56", after := #[{ on := 0, ground := Go.Ground.data }], guard := none }) rfl (fun K hK => ?_) (AllReadyH.nil)
  go_simp
  refine (ca _ E).mono ?_
  rintro e w24 ⟨rfl, x⟩
  have z8 := x.size
  replace E := E.trans x
  replace LB4 := LB4.ext x
  replace LB5 := LB5.ext x
  replace LB6 := LB6.ext x
  replace RB6 := RB6.ext x
  clear x
  clear hHeld
  have hHeld := And.intro LB4 (LB5)
  refine hK.out _ _ hHeld (fun _ => ?_)
  clear hK K
  try simp only [Act.put, List.setIfInBounds_toArray, List.set_cons_zero, List.set_cons_succ]
  refine wpAnyH_ready (rs := [3]) (by kernel_rfl) (by simp) ?_
  refine AllReadyH.cons (o := { dst := some 26, op := Go.Op.call { callee := Go.Callee.value (Go.Operand.func 30), args := #[Go.Operand.tmp 25], argTypes := #[34] }, type := 3, pos := "relate.go:56", after := #[{ on := 2, ground := Go.Ground.data }, { on := 1, ground := Go.Ground.chain }], guard := none }) rfl (fun K hK => ?_) (AllReadyH.nil)
  go_simp
  refine (cb _ E).mono ?_
  rintro e w26 ⟨rfl, x⟩
  have z9 := x.size
  replace E := E.trans x
  replace LB4 := LB4.ext x
  replace LB5 := LB5.ext x
  replace LB6 := LB6.ext x
  replace RB6 := RB6.ext x
  clear x
  clear hHeld
  have hHeld := And.intro LB4 (LB5)
  refine hK.out _ _ hHeld (fun _ => ?_)
  clear hK K
  try simp only [Act.put, List.setIfInBounds_toArray, List.set_cons_zero, List.set_cons_succ]
  refine wpAnyH_ready (rs := [4]) (by kernel_rfl) (by simp) ?_
  refine AllReadyH.cons (o := { dst := some 27, op := Go.Op.call { callee := Go.Callee.value (Go.Operand.func 71), args := #[Go.Operand.tmp 24, Go.Operand.tmp 26], argTypes := #[3, 3] }, type := 110, pos := "relate.go:56", after := #[{ on := 1, ground := Go.Ground.data }, { on := 3, ground := Go.Ground.data }, { on := 3, ground := Go.Ground.chain }], guard := none }) rfl (fun K hK => ?_) (AllReadyH.nil)
  go_simp
  refine (cl _).mono ?_
  rintro e w27 ⟨rfl, x⟩
  have z10 := x.size
  replace E := E.trans x
  replace LB4 := LB4.ext x
  replace LB5 := LB5.ext x
  replace LB6 := LB6.ext x
  replace RB6 := RB6.ext x
  clear x
  clear hHeld
  have hHeld := And.intro LB4 (LB5)
  refine hK.out _ _ hHeld (fun _ => ?_)
  clear hK K
  try simp only [Act.put, List.setIfInBounds_toArray, List.set_cons_zero, List.set_cons_succ]
  refine wpAnyH_take (i := 5) (oi := { dst := some 22, op := Go.Op.move (Go.Operand.tmp 27), type := 110, pos := "relate.go:56", after := #[{ on := 4, ground := Go.Ground.data }], guard := none }) (v := ?v11) rfl (by kernel_rfl) (by kernel_rfl) (by kernel_rfl) (fun _ _ _ h => h) (Or.inl ⟨by rfl, ?hy11⟩) hHeld ?rest11
  case hy11 => (intro w hSw; (try dsimp only at hSw); go_simp; (first | done | with_reducible rfl))
  try simp only [Act.put, List.setIfInBounds_toArray, List.set_cons_zero, List.set_cons_succ]
  refine wpAnyH_take (i := 6) (oi := { dst := some 28, op := Go.Op.extract (Go.Operand.tmp 22) 0, type := 3, pos := "relate.go:56", after := #[{ on := 5, ground := Go.Ground.data }], guard := none }) (v := ?v12) rfl (by kernel_rfl) (by kernel_rfl) (by kernel_rfl) (fun _ _ _ h => h) (Or.inl ⟨by rfl, ?hy12⟩) hHeld ?rest12
  case hy12 => (intro w hSw; (try dsimp only at hSw); go_simp; (first | done | with_reducible rfl))
  try simp only [Act.put, List.setIfInBounds_toArray, List.set_cons_zero, List.set_cons_succ]
  refine wpAnyH_take (i := 7) (oi := { dst := some 29, op := Go.Op.extract (Go.Operand.tmp 22) 1, type := 4, pos := "relate.go:56", after := #[{ on := 5, ground := Go.Ground.data }, { on := 8, ground := Go.Ground.gcOnly Go.Departure.lateStores }], guard := none }) (v := ?v13) rfl (by kernel_rfl) (by kernel_rfl) (by kernel_rfl) (fun _ _ _ h => h) (Or.inl ⟨by rfl, ?hy13⟩) hHeld ?rest13
  case hy13 => (intro w hSw; (try dsimp only at hSw); go_simp; (first | done | with_reducible rfl))
  try simp only [Act.put, List.setIfInBounds_toArray, List.set_cons_zero, List.set_cons_succ]
  refine wpAnyH_take (i := 8) (oi := { dst := some 8, op := Go.Op.assign (Go.Operand.tmp 28), type := 3, pos := "relate.go:56", after := #[{ on := 6, ground := Go.Ground.data }, { on := 4, ground := Go.Ground.chain }, { on := 0, ground := Go.Ground.phase }, { on := 1, ground := Go.Ground.phase }, { on := 2, ground := Go.Ground.phase }, { on := 3, ground := Go.Ground.phase }, { on := 4, ground := Go.Ground.phase }, { on := 5, ground := Go.Ground.phase }, { on := 6, ground := Go.Ground.phase }, { on := 7, ground := Go.Ground.textOnly Go.Departure.lateStores }], guard := none }) (v := ?v14) rfl (by kernel_rfl) (by kernel_rfl) (by kernel_rfl) (fun _ _ _ h => h) (Or.inl ⟨by rfl, ?hy14⟩) hHeld ?rest14
  case hy14 => (intro w hSw; (try dsimp only at hSw); go_simp; (first | done | with_reducible rfl))
  try simp only [Act.put, List.setIfInBounds_toArray, List.set_cons_zero, List.set_cons_succ]
  refine wpAnyH_take (i := 9) (oi := { dst := some 9, op := Go.Op.assign (Go.Operand.tmp 29), type := 4, pos := "relate.go:56", after := #[{ on := 7, ground := Go.Ground.data }, { on := 8, ground := Go.Ground.chain }, { on := 0, ground := Go.Ground.phase }, { on := 1, ground := Go.Ground.phase }, { on := 2, ground := Go.Ground.phase }, { on := 3, ground := Go.Ground.phase }, { on := 4, ground := Go.Ground.phase }, { on := 5, ground := Go.Ground.phase }, { on := 6, ground := Go.Ground.phase }, { on := 7, ground := Go.Ground.phase }, { on := 8, ground := Go.Ground.phase }], guard := none }) (v := ?v15) rfl (by kernel_rfl) (by kernel_rfl) (by kernel_rfl) (fun _ _ _ h => h) (Or.inl ⟨by rfl, ?hy15⟩) hHeld ?rest15
  case hy15 => (intro w hSw; (try dsimp only at hSw); go_simp; (first | done | with_reducible rfl))
  try simp only [Act.put, List.setIfInBounds_toArray, List.set_cons_zero, List.set_cons_succ]
  refine wpAnyH_done (by kernel_rfl) ?_ _
  go_wp2_with (refine loadsV (B := B4) (by rfl) rfl rfl LB4 ?_)
  refine (da _ E).mono ?_
  rintro e w34 ⟨rfl, x⟩
  have z16 := x.size
  replace E := E.trans x
  replace LB4 := LB4.ext x
  replace LB5 := LB5.ext x
  replace LB6 := LB6.ext x
  replace RB6 := RB6.ext x
  clear x
  go_wp2_with (refine loadgV (B := B5) (by rfl) rfl rfl LB5 ?_)
  refine (db _ E).mono ?_
  rintro e w38 ⟨rfl, x⟩
  have z17 := x.size
  replace E := E.trans x
  replace LB4 := LB4.ext x
  replace LB5 := LB5.ext x
  replace LB6 := LB6.ext x
  replace RB6 := RB6.ext x
  clear x
  go_wp2_with fail
  try simp only [Act.put, List.setIfInBounds_toArray, List.set_cons_zero, List.set_cons_succ]
  have hq18 : w38.heap.size ≤ w38.drew.heap.size := Nat.le_refl _
  have z19 := (Ext.refl w38).drew.size
  replace E := E.trans (Ext.refl w38).drew
  replace LB4 := LB4.ext (Ext.refl w38).drew
  replace LB5 := LB5.ext (Ext.refl w38).drew
  replace LB6 := LB6.ext (Ext.refl w38).drew
  replace RB6 := RB6.ext (Ext.refl w38).drew
  refine wp_region_held_drew (S := (fun w' => Lay 8 w' B4 v ∧ Lay 8 w' B5 u)) (by kernel_rfl) ⟨LB4, LB5⟩ (fun hHeld => ?_)
  refine wpAnyH_take (i := 0) (oi := { dst := some 42, op := Go.Op.load 34 (Go.Operand.tmp 4), type := 34, pos := "relate.go:63", after := #[], guard := none }) (v := v) rfl (by kernel_rfl) (by kernel_rfl) (by kernel_rfl) (fun _ _ _ h => h) (yieldV (by rfl) rfl rfl fun w' hx => hx.1) hHeld ?_
  try simp only [Act.put, List.setIfInBounds_toArray, List.set_cons_zero, List.set_cons_succ]
  refine wpAnyH_take (i := 2) (oi := { dst := some 44, op := Go.Op.load 34 (Go.Operand.tmp 5), type := 34, pos := "relate.go:63", after := #[], guard := none }) (v := u) rfl (by kernel_rfl) (by kernel_rfl) (by kernel_rfl) (fun _ _ _ h => h) (yieldV (by rfl) rfl rfl fun w' hx => hx.2) hHeld ?_
  try simp only [Act.put, List.setIfInBounds_toArray, List.set_cons_zero, List.set_cons_succ]
  refine wpAnyH_ready (rs := [1]) (by kernel_rfl) (by simp) ?_
  refine AllReadyH.cons (o := { dst := some 43, op := Go.Op.call { callee := Go.Callee.value (Go.Operand.func 56), args := #[Go.Operand.tmp 42], argTypes := #[34] }, type := 3, pos := "relate.go:63", after := #[{ on := 0, ground := Go.Ground.data }], guard := none }) rfl (fun K hK => ?_) (AllReadyH.nil)
  go_simp
  refine (da _ E).mono ?_
  rintro e w43 ⟨rfl, x⟩
  have z22 := x.size
  replace E := E.trans x
  replace LB4 := LB4.ext x
  replace LB5 := LB5.ext x
  replace LB6 := LB6.ext x
  replace RB6 := RB6.ext x
  clear x
  clear hHeld
  have hHeld := And.intro LB4 (LB5)
  refine hK.out _ _ hHeld (fun _ => ?_)
  clear hK K
  try simp only [Act.put, List.setIfInBounds_toArray, List.set_cons_zero, List.set_cons_succ]
  refine wpAnyH_ready (rs := [3]) (by kernel_rfl) (by simp) ?_
  refine AllReadyH.cons (o := { dst := some 45, op := Go.Op.call { callee := Go.Callee.value (Go.Operand.func 56), args := #[Go.Operand.tmp 44], argTypes := #[34] }, type := 3, pos := "relate.go:63", after := #[{ on := 2, ground := Go.Ground.data }, { on := 1, ground := Go.Ground.chain }], guard := none }) rfl (fun K hK => ?_) (AllReadyH.nil)
  go_simp
  refine (db _ E).mono ?_
  rintro e w45 ⟨rfl, x⟩
  have z23 := x.size
  replace E := E.trans x
  replace LB4 := LB4.ext x
  replace LB5 := LB5.ext x
  replace LB6 := LB6.ext x
  replace RB6 := RB6.ext x
  clear x
  clear hHeld
  have hHeld := And.intro LB4 (LB5)
  refine hK.out _ _ hHeld (fun _ => ?_)
  clear hK K
  try simp only [Act.put, List.setIfInBounds_toArray, List.set_cons_zero, List.set_cons_succ]
  refine wpAnyH_take (i := 4) (oi := { dst := some 46, op := Go.Op.binOp Go.BinOp.neq 3 (Go.Operand.tmp 43) (Go.Operand.tmp 45) 3, type := 4, pos := "relate.go:63", after := #[{ on := 1, ground := Go.Ground.data }, { on := 3, ground := Go.Ground.data }], guard := none }) (v := ?v24) rfl (by kernel_rfl) (by kernel_rfl) (by kernel_rfl) (fun _ _ _ h => h) (Or.inl ⟨by rfl, ?hy24⟩) hHeld ?rest24
  case hy24 => (intro w hSw; (try dsimp only at hSw); go_simp; (first | done | with_reducible rfl))
  try simp only [Act.put, List.setIfInBounds_toArray, List.set_cons_zero, List.set_cons_succ]
  refine wpAnyH_take (i := 5) (oi := { dst := some 47, op := Go.Op.move (Go.Operand.tmp 46), type := 4, pos := "relate.go:63", after := #[{ on := 4, ground := Go.Ground.data }, { on := 3, ground := Go.Ground.chain }], guard := none }) (v := ?v25) rfl (by kernel_rfl) (by kernel_rfl) (by kernel_rfl) (fun _ _ _ h => h) (Or.inl ⟨by rfl, ?hy25⟩) hHeld ?rest25
  case hy25 => (intro w hSw; (try dsimp only at hSw); go_simp; (first | done | with_reducible rfl))
  try simp only [Act.put, List.setIfInBounds_toArray, List.set_cons_zero, List.set_cons_succ]
  refine wpAnyH_take (i := 6) (oi := { dst := some 48, op := Go.Op.load 34 (Go.Operand.tmp 4), type := 34, pos := "relate.go:63", after := #[{ on := 5, ground := Go.Ground.guard }], guard := some (5, false) }) (v := v) rfl (by kernel_rfl) (by kernel_rfl) (by kernel_rfl) (fun _ _ _ h => h) (yieldV (by rfl) rfl rfl fun w' hx => hx.1) hHeld ?_
  try simp only [Act.put, List.setIfInBounds_toArray, List.set_cons_zero, List.set_cons_succ]
  refine wpAnyH_ready (rs := [7]) (by kernel_rfl) (by simp) ?_
  refine AllReadyH.cons (o := { dst := some 49, op := Go.Op.call { callee := Go.Callee.value (Go.Operand.func 56), args := #[Go.Operand.tmp 48], argTypes := #[34] }, type := 3, pos := "relate.go:63", after := #[{ on := 6, ground := Go.Ground.data }, { on := 5, ground := Go.Ground.chain }, { on := 5, ground := Go.Ground.guard }], guard := some (5, false) }) rfl (fun K hK => ?_) (AllReadyH.nil)
  go_simp
  refine (da _ E).mono ?_
  rintro e w49 ⟨rfl, x⟩
  have z27 := x.size
  replace E := E.trans x
  replace LB4 := LB4.ext x
  replace LB5 := LB5.ext x
  replace LB6 := LB6.ext x
  replace RB6 := RB6.ext x
  clear x
  clear hHeld
  have hHeld := And.intro LB4 (LB5)
  refine hK.out _ _ hHeld (fun _ => ?_)
  clear hK K
  try simp only [Act.put, List.setIfInBounds_toArray, List.set_cons_zero, List.set_cons_succ]
  refine wpAnyH_take (i := 8) (oi := { dst := some 50, op := Go.Op.binOp Go.BinOp.eql 3 (Go.Operand.tmp 49) (Go.Operand.const (Go.Value.int Go.IntKind.i64 1)) 3, type := 4, pos := "relate.go:63", after := #[{ on := 7, ground := Go.Ground.data }, { on := 5, ground := Go.Ground.guard }], guard := some (5, false) }) (v := ?v28) rfl (by kernel_rfl) (by kernel_rfl) (by kernel_rfl) (fun _ _ _ h => h) (Or.inl ⟨by rfl, ?hy28⟩) hHeld ?rest28
  case hy28 => (intro w hSw; (try dsimp only at hSw); go_simp; (first | done | with_reducible rfl))
  try simp only [Act.put, List.setIfInBounds_toArray, List.set_cons_zero, List.set_cons_succ]
  refine wpAnyH_take (i := 9) (oi := { dst := some 51, op := Go.Op.pick (Go.Operand.tmp 47) (Go.Operand.const (Go.Value.bool true)) (Go.Operand.tmp 50), type := 4, pos := "relate.go:63", after := #[{ on := 5, ground := Go.Ground.data }, { on := 8, ground := Go.Ground.data }], guard := none }) (v := ?v29) rfl (by kernel_rfl) (by kernel_rfl) (by kernel_rfl) (fun _ _ _ h => h) (Or.inl ⟨by rfl, ?hy29⟩) hHeld ?rest29
  case hy29 => (intro w hSw; (try dsimp only at hSw); go_simp; (first | done | with_reducible rfl))
  try simp only [Act.put, List.setIfInBounds_toArray, List.set_cons_zero, List.set_cons_succ]
  refine wpAnyH_done (by kernel_rfl) ?_ _
  go_wp2_with (first | (refine loadsV (B := B4) (by rfl) rfl rfl LB4 ?_) | (refine loadsV (B := B5) (by rfl) rfl rfl LB5 ?_))
  clear LB4 LB5
  refine (cc _ E).mono ?_
  rintro e w56 ⟨rfl, x⟩
  have z30 := x.size
  replace E := E.trans x
  replace LB6 := LB6.ext x
  replace RB6 := RB6.ext x
  clear x
  have TG31 : True := trivial
  go_wp2_with (clear TG31; have hRl := (RB6).lt (Nat.zero_lt_succ _); refine storesV (B := B6) rfl rfl rfl (v := zeroVec) rfl RB6 zeroVec_flat ?_; clear LB6; intro s31 G31 LB6 RQ; have z32 := G31.size; replace E := grown_ext E G31 (by omega); clear RB6; have RB6 := RQ; clear RQ hRl; clear RB6)
  refine bodyPost_ret (results_lay2 rfl rfl rfl (ldV LB6)) rfl ?_
  exact ⟨rfl, E⟩
theorem rapp_chars2_yes (hf : 11 ≤ f ∧ f ≤ 16) (m n : Int) (ca : ∀ w', Ext w w' → Calls Try.prog 30 #[v] w' fun e w2 => e = .returned (.int .i64 m) ∧ Ext w' w2) (cb : ∀ w', Ext w w' → Calls Try.prog 30 #[u] w' fun e w2 => e = .returned (.int .i64 n) ∧ Ext w' w2) (hl : lenOk m n = true) (N : Nat) (hN : lenV m n = (N : Int)) (ka kb : Int) (da : ∀ w', Ext w w' → Calls Try.prog 56 #[v] w' fun e w2 => e = .returned (.int .i64 ka) ∧ Ext w' w2) (db : ∀ w', Ext w w' → Calls Try.prog 56 #[u] w' fun e w2 => e = .returned (.int .i64 kb) ∧ Ext w' w2) (h2 : (ka == 2) = false) (h6 : (kb == 2) = false) (h4 : (ka != kb) = false) (h5 : (ka == 1) = true) (RL : List Bool) (cc : ∀ w', Ext w w' → Calls Try.prog 78 #[.int .i64 f, .int .i64 (N : Int), v, u] w' fun e w2 => ∃ p, e = .returned (.tuple #[p, .int .i64 0]) ∧ VecS w2 p (VD.bits RL) (New w'.heap.size) ∧ Ext w' w2) (hF : Flat 8 v) (hG : Flat 8 u) :
    Calls Try.prog 49 #[.int .i64 f, v, u] w fun e w' => ∃ p, e = .returned (.tuple #[p, .int .i64 0]) ∧ VecS w' p (VD.bits RL) (New w.heap.size) ∧ Ext w w' := by
  have E := Ext.refl w
  obtain ⟨h1, h3⟩ := hf
  have cl : ∀ w', Calls Try.prog 71 #[.int .i64 m, .int .i64 n] w' fun e w2 => e = .returned (.tuple #[.int .i64 (lenV m n), .bool true]) ∧ Ext w' w2 := fun w' => (length_any m n w').mono fun e w2 h => ⟨by rw [h.1, hl], h.2 ▸ Ext.refl _⟩
  rw [hN] at cl
  clear hl hN
  go_enter Try.func49, Try.ntmps49
  have TB4 : True := trivial
  have TB5 : True := trivial
  have TB6 : True := trivial
  go_wp2_with (first | (clear TB4; refine boxsV (v := v) rfl rfl rfl hF ?_; intro B4 w4 bB4 cB4 XB4 LB4 RB4; have z1 := XB4.size; replace E := E.trans XB4; clear RB4) | (clear TB5; refine boxsV (v := u) rfl rfl rfl hG ?_; intro B5 w5 bB5 cB5 XB5 LB5 RB5; have z2 := XB5.size; replace E := E.trans XB5; replace LB4 := LB4.ext XB5; clear RB5) | (clear TB6; refine allocsV rfl rfl ?_; intro B6 w6 bB6 cB6 XB6 LB6 RB6; have z3 := XB6.size; replace E := E.trans XB6; replace LB4 := LB4.ext XB6; replace LB5 := LB5.ext XB6))
  try simp only [Act.put, List.setIfInBounds_toArray, List.set_cons_zero, List.set_cons_succ]
  have hq4 : w6.heap.size ≤ w6.drew.heap.size := Nat.le_refl _
  have z5 := (Ext.refl w6).drew.size
  replace E := E.trans (Ext.refl w6).drew
  replace LB4 := LB4.ext (Ext.refl w6).drew
  replace LB5 := LB5.ext (Ext.refl w6).drew
  replace LB6 := LB6.ext (Ext.refl w6).drew
  replace RB6 := RB6.ext (Ext.refl w6).drew
  refine wp_region_held_drew (S := (fun w' => Lay 8 w' B4 v ∧ Lay 8 w' B5 u)) (by kernel_rfl) ⟨LB4, LB5⟩ (fun hHeld => ?_)
  refine wpAnyH_take (i := 0) (oi := { dst := some 23, op := Go.Op.load 34 (Go.Operand.tmp 4), type := 34, pos := "relate.go:56", after := #[], guard := none }) (v := v) rfl (by kernel_rfl) (by kernel_rfl) (by kernel_rfl) (fun _ _ _ h => h) (yieldV (by rfl) rfl rfl fun w' hx => hx.1) hHeld ?_
  try simp only [Act.put, List.setIfInBounds_toArray, List.set_cons_zero, List.set_cons_succ]
  refine wpAnyH_take (i := 2) (oi := { dst := some 25, op := Go.Op.load 34 (Go.Operand.tmp 5), type := 34, pos := "relate.go:56", after := #[], guard := none }) (v := u) rfl (by kernel_rfl) (by kernel_rfl) (by kernel_rfl) (fun _ _ _ h => h) (yieldV (by rfl) rfl rfl fun w' hx => hx.2) hHeld ?_
  try simp only [Act.put, List.setIfInBounds_toArray, List.set_cons_zero, List.set_cons_succ]
  refine wpAnyH_ready (rs := [1]) (by kernel_rfl) (by simp) ?_
  refine AllReadyH.cons (o := { dst := some 24, op := Go.Op.call { callee := Go.Callee.value (Go.Operand.func 30), args := #[Go.Operand.tmp 23], argTypes := #[34] }, type := 3, pos := "relate.go:56", after := #[{ on := 0, ground := Go.Ground.data }], guard := none }) rfl (fun K hK => ?_) (AllReadyH.nil)
  go_simp
  refine (ca _ E).mono ?_
  rintro e w24 ⟨rfl, x⟩
  have z8 := x.size
  replace E := E.trans x
  replace LB4 := LB4.ext x
  replace LB5 := LB5.ext x
  replace LB6 := LB6.ext x
  replace RB6 := RB6.ext x
  clear x
  clear hHeld
  have hHeld := And.intro LB4 (LB5)
  refine hK.out _ _ hHeld (fun _ => ?_)
  clear hK K
  try simp only [Act.put, List.setIfInBounds_toArray, List.set_cons_zero, List.set_cons_succ]
  refine wpAnyH_ready (rs := [3]) (by kernel_rfl) (by simp) ?_
  refine AllReadyH.cons (o := { dst := some 26, op := Go.Op.call { callee := Go.Callee.value (Go.Operand.func 30), args := #[Go.Operand.tmp 25], argTypes := #[34] }, type := 3, pos := "relate.go:56", after := #[{ on := 2, ground := Go.Ground.data }, { on := 1, ground := Go.Ground.chain }], guard := none }) rfl (fun K hK => ?_) (AllReadyH.nil)
  go_simp
  refine (cb _ E).mono ?_
  rintro e w26 ⟨rfl, x⟩
  have z9 := x.size
  replace E := E.trans x
  replace LB4 := LB4.ext x
  replace LB5 := LB5.ext x
  replace LB6 := LB6.ext x
  replace RB6 := RB6.ext x
  clear x
  clear hHeld
  have hHeld := And.intro LB4 (LB5)
  refine hK.out _ _ hHeld (fun _ => ?_)
  clear hK K
  try simp only [Act.put, List.setIfInBounds_toArray, List.set_cons_zero, List.set_cons_succ]
  refine wpAnyH_ready (rs := [4]) (by kernel_rfl) (by simp) ?_
  refine AllReadyH.cons (o := { dst := some 27, op := Go.Op.call { callee := Go.Callee.value (Go.Operand.func 71), args := #[Go.Operand.tmp 24, Go.Operand.tmp 26], argTypes := #[3, 3] }, type := 110, pos := "relate.go:56", after := #[{ on := 1, ground := Go.Ground.data }, { on := 3, ground := Go.Ground.data }, { on := 3, ground := Go.Ground.chain }], guard := none }) rfl (fun K hK => ?_) (AllReadyH.nil)
  go_simp
  refine (cl _).mono ?_
  rintro e w27 ⟨rfl, x⟩
  have z10 := x.size
  replace E := E.trans x
  replace LB4 := LB4.ext x
  replace LB5 := LB5.ext x
  replace LB6 := LB6.ext x
  replace RB6 := RB6.ext x
  clear x
  clear hHeld
  have hHeld := And.intro LB4 (LB5)
  refine hK.out _ _ hHeld (fun _ => ?_)
  clear hK K
  try simp only [Act.put, List.setIfInBounds_toArray, List.set_cons_zero, List.set_cons_succ]
  refine wpAnyH_take (i := 5) (oi := { dst := some 22, op := Go.Op.move (Go.Operand.tmp 27), type := 110, pos := "relate.go:56", after := #[{ on := 4, ground := Go.Ground.data }], guard := none }) (v := ?v11) rfl (by kernel_rfl) (by kernel_rfl) (by kernel_rfl) (fun _ _ _ h => h) (Or.inl ⟨by rfl, ?hy11⟩) hHeld ?rest11
  case hy11 => (intro w hSw; (try dsimp only at hSw); go_simp; (first | done | with_reducible rfl))
  try simp only [Act.put, List.setIfInBounds_toArray, List.set_cons_zero, List.set_cons_succ]
  refine wpAnyH_take (i := 6) (oi := { dst := some 28, op := Go.Op.extract (Go.Operand.tmp 22) 0, type := 3, pos := "relate.go:56", after := #[{ on := 5, ground := Go.Ground.data }], guard := none }) (v := ?v12) rfl (by kernel_rfl) (by kernel_rfl) (by kernel_rfl) (fun _ _ _ h => h) (Or.inl ⟨by rfl, ?hy12⟩) hHeld ?rest12
  case hy12 => (intro w hSw; (try dsimp only at hSw); go_simp; (first | done | with_reducible rfl))
  try simp only [Act.put, List.setIfInBounds_toArray, List.set_cons_zero, List.set_cons_succ]
  refine wpAnyH_take (i := 7) (oi := { dst := some 29, op := Go.Op.extract (Go.Operand.tmp 22) 1, type := 4, pos := "relate.go:56", after := #[{ on := 5, ground := Go.Ground.data }, { on := 8, ground := Go.Ground.gcOnly Go.Departure.lateStores }], guard := none }) (v := ?v13) rfl (by kernel_rfl) (by kernel_rfl) (by kernel_rfl) (fun _ _ _ h => h) (Or.inl ⟨by rfl, ?hy13⟩) hHeld ?rest13
  case hy13 => (intro w hSw; (try dsimp only at hSw); go_simp; (first | done | with_reducible rfl))
  try simp only [Act.put, List.setIfInBounds_toArray, List.set_cons_zero, List.set_cons_succ]
  refine wpAnyH_take (i := 8) (oi := { dst := some 8, op := Go.Op.assign (Go.Operand.tmp 28), type := 3, pos := "relate.go:56", after := #[{ on := 6, ground := Go.Ground.data }, { on := 4, ground := Go.Ground.chain }, { on := 0, ground := Go.Ground.phase }, { on := 1, ground := Go.Ground.phase }, { on := 2, ground := Go.Ground.phase }, { on := 3, ground := Go.Ground.phase }, { on := 4, ground := Go.Ground.phase }, { on := 5, ground := Go.Ground.phase }, { on := 6, ground := Go.Ground.phase }, { on := 7, ground := Go.Ground.textOnly Go.Departure.lateStores }], guard := none }) (v := ?v14) rfl (by kernel_rfl) (by kernel_rfl) (by kernel_rfl) (fun _ _ _ h => h) (Or.inl ⟨by rfl, ?hy14⟩) hHeld ?rest14
  case hy14 => (intro w hSw; (try dsimp only at hSw); go_simp; (first | done | with_reducible rfl))
  try simp only [Act.put, List.setIfInBounds_toArray, List.set_cons_zero, List.set_cons_succ]
  refine wpAnyH_take (i := 9) (oi := { dst := some 9, op := Go.Op.assign (Go.Operand.tmp 29), type := 4, pos := "relate.go:56", after := #[{ on := 7, ground := Go.Ground.data }, { on := 8, ground := Go.Ground.chain }, { on := 0, ground := Go.Ground.phase }, { on := 1, ground := Go.Ground.phase }, { on := 2, ground := Go.Ground.phase }, { on := 3, ground := Go.Ground.phase }, { on := 4, ground := Go.Ground.phase }, { on := 5, ground := Go.Ground.phase }, { on := 6, ground := Go.Ground.phase }, { on := 7, ground := Go.Ground.phase }, { on := 8, ground := Go.Ground.phase }], guard := none }) (v := ?v15) rfl (by kernel_rfl) (by kernel_rfl) (by kernel_rfl) (fun _ _ _ h => h) (Or.inl ⟨by rfl, ?hy15⟩) hHeld ?rest15
  case hy15 => (intro w hSw; (try dsimp only at hSw); go_simp; (first | done | with_reducible rfl))
  try simp only [Act.put, List.setIfInBounds_toArray, List.set_cons_zero, List.set_cons_succ]
  refine wpAnyH_done (by kernel_rfl) ?_ _
  go_wp2_with (refine loadsV (B := B4) (by rfl) rfl rfl LB4 ?_)
  refine (da _ E).mono ?_
  rintro e w34 ⟨rfl, x⟩
  have z16 := x.size
  replace E := E.trans x
  replace LB4 := LB4.ext x
  replace LB5 := LB5.ext x
  replace LB6 := LB6.ext x
  replace RB6 := RB6.ext x
  clear x
  go_wp2_with (refine loadgV (B := B5) (by rfl) rfl rfl LB5 ?_)
  refine (db _ E).mono ?_
  rintro e w38 ⟨rfl, x⟩
  have z17 := x.size
  replace E := E.trans x
  replace LB4 := LB4.ext x
  replace LB5 := LB5.ext x
  replace LB6 := LB6.ext x
  replace RB6 := RB6.ext x
  clear x
  go_wp2_with fail
  try simp only [Act.put, List.setIfInBounds_toArray, List.set_cons_zero, List.set_cons_succ]
  have hq18 : w38.heap.size ≤ w38.drew.heap.size := Nat.le_refl _
  have z19 := (Ext.refl w38).drew.size
  replace E := E.trans (Ext.refl w38).drew
  replace LB4 := LB4.ext (Ext.refl w38).drew
  replace LB5 := LB5.ext (Ext.refl w38).drew
  replace LB6 := LB6.ext (Ext.refl w38).drew
  replace RB6 := RB6.ext (Ext.refl w38).drew
  refine wp_region_held_drew (S := (fun w' => Lay 8 w' B4 v ∧ Lay 8 w' B5 u)) (by kernel_rfl) ⟨LB4, LB5⟩ (fun hHeld => ?_)
  refine wpAnyH_take (i := 0) (oi := { dst := some 42, op := Go.Op.load 34 (Go.Operand.tmp 4), type := 34, pos := "relate.go:63", after := #[], guard := none }) (v := v) rfl (by kernel_rfl) (by kernel_rfl) (by kernel_rfl) (fun _ _ _ h => h) (yieldV (by rfl) rfl rfl fun w' hx => hx.1) hHeld ?_
  try simp only [Act.put, List.setIfInBounds_toArray, List.set_cons_zero, List.set_cons_succ]
  refine wpAnyH_take (i := 2) (oi := { dst := some 44, op := Go.Op.load 34 (Go.Operand.tmp 5), type := 34, pos := "relate.go:63", after := #[], guard := none }) (v := u) rfl (by kernel_rfl) (by kernel_rfl) (by kernel_rfl) (fun _ _ _ h => h) (yieldV (by rfl) rfl rfl fun w' hx => hx.2) hHeld ?_
  try simp only [Act.put, List.setIfInBounds_toArray, List.set_cons_zero, List.set_cons_succ]
  refine wpAnyH_ready (rs := [1]) (by kernel_rfl) (by simp) ?_
  refine AllReadyH.cons (o := { dst := some 43, op := Go.Op.call { callee := Go.Callee.value (Go.Operand.func 56), args := #[Go.Operand.tmp 42], argTypes := #[34] }, type := 3, pos := "relate.go:63", after := #[{ on := 0, ground := Go.Ground.data }], guard := none }) rfl (fun K hK => ?_) (AllReadyH.nil)
  go_simp
  refine (da _ E).mono ?_
  rintro e w43 ⟨rfl, x⟩
  have z22 := x.size
  replace E := E.trans x
  replace LB4 := LB4.ext x
  replace LB5 := LB5.ext x
  replace LB6 := LB6.ext x
  replace RB6 := RB6.ext x
  clear x
  clear hHeld
  have hHeld := And.intro LB4 (LB5)
  refine hK.out _ _ hHeld (fun _ => ?_)
  clear hK K
  try simp only [Act.put, List.setIfInBounds_toArray, List.set_cons_zero, List.set_cons_succ]
  refine wpAnyH_ready (rs := [3]) (by kernel_rfl) (by simp) ?_
  refine AllReadyH.cons (o := { dst := some 45, op := Go.Op.call { callee := Go.Callee.value (Go.Operand.func 56), args := #[Go.Operand.tmp 44], argTypes := #[34] }, type := 3, pos := "relate.go:63", after := #[{ on := 2, ground := Go.Ground.data }, { on := 1, ground := Go.Ground.chain }], guard := none }) rfl (fun K hK => ?_) (AllReadyH.nil)
  go_simp
  refine (db _ E).mono ?_
  rintro e w45 ⟨rfl, x⟩
  have z23 := x.size
  replace E := E.trans x
  replace LB4 := LB4.ext x
  replace LB5 := LB5.ext x
  replace LB6 := LB6.ext x
  replace RB6 := RB6.ext x
  clear x
  clear hHeld
  have hHeld := And.intro LB4 (LB5)
  refine hK.out _ _ hHeld (fun _ => ?_)
  clear hK K
  try simp only [Act.put, List.setIfInBounds_toArray, List.set_cons_zero, List.set_cons_succ]
  refine wpAnyH_take (i := 4) (oi := { dst := some 46, op := Go.Op.binOp Go.BinOp.neq 3 (Go.Operand.tmp 43) (Go.Operand.tmp 45) 3, type := 4, pos := "relate.go:63", after := #[{ on := 1, ground := Go.Ground.data }, { on := 3, ground := Go.Ground.data }], guard := none }) (v := ?v24) rfl (by kernel_rfl) (by kernel_rfl) (by kernel_rfl) (fun _ _ _ h => h) (Or.inl ⟨by rfl, ?hy24⟩) hHeld ?rest24
  case hy24 => (intro w hSw; (try dsimp only at hSw); go_simp; (first | done | with_reducible rfl))
  try simp only [Act.put, List.setIfInBounds_toArray, List.set_cons_zero, List.set_cons_succ]
  refine wpAnyH_take (i := 5) (oi := { dst := some 47, op := Go.Op.move (Go.Operand.tmp 46), type := 4, pos := "relate.go:63", after := #[{ on := 4, ground := Go.Ground.data }, { on := 3, ground := Go.Ground.chain }], guard := none }) (v := ?v25) rfl (by kernel_rfl) (by kernel_rfl) (by kernel_rfl) (fun _ _ _ h => h) (Or.inl ⟨by rfl, ?hy25⟩) hHeld ?rest25
  case hy25 => (intro w hSw; (try dsimp only at hSw); go_simp; (first | done | with_reducible rfl))
  try simp only [Act.put, List.setIfInBounds_toArray, List.set_cons_zero, List.set_cons_succ]
  refine wpAnyH_take (i := 6) (oi := { dst := some 48, op := Go.Op.load 34 (Go.Operand.tmp 4), type := 34, pos := "relate.go:63", after := #[{ on := 5, ground := Go.Ground.guard }], guard := some (5, false) }) (v := v) rfl (by kernel_rfl) (by kernel_rfl) (by kernel_rfl) (fun _ _ _ h => h) (yieldV (by rfl) rfl rfl fun w' hx => hx.1) hHeld ?_
  try simp only [Act.put, List.setIfInBounds_toArray, List.set_cons_zero, List.set_cons_succ]
  refine wpAnyH_ready (rs := [7]) (by kernel_rfl) (by simp) ?_
  refine AllReadyH.cons (o := { dst := some 49, op := Go.Op.call { callee := Go.Callee.value (Go.Operand.func 56), args := #[Go.Operand.tmp 48], argTypes := #[34] }, type := 3, pos := "relate.go:63", after := #[{ on := 6, ground := Go.Ground.data }, { on := 5, ground := Go.Ground.chain }, { on := 5, ground := Go.Ground.guard }], guard := some (5, false) }) rfl (fun K hK => ?_) (AllReadyH.nil)
  go_simp
  refine (da _ E).mono ?_
  rintro e w49 ⟨rfl, x⟩
  have z27 := x.size
  replace E := E.trans x
  replace LB4 := LB4.ext x
  replace LB5 := LB5.ext x
  replace LB6 := LB6.ext x
  replace RB6 := RB6.ext x
  clear x
  clear hHeld
  have hHeld := And.intro LB4 (LB5)
  refine hK.out _ _ hHeld (fun _ => ?_)
  clear hK K
  try simp only [Act.put, List.setIfInBounds_toArray, List.set_cons_zero, List.set_cons_succ]
  refine wpAnyH_take (i := 8) (oi := { dst := some 50, op := Go.Op.binOp Go.BinOp.eql 3 (Go.Operand.tmp 49) (Go.Operand.const (Go.Value.int Go.IntKind.i64 1)) 3, type := 4, pos := "relate.go:63", after := #[{ on := 7, ground := Go.Ground.data }, { on := 5, ground := Go.Ground.guard }], guard := some (5, false) }) (v := ?v28) rfl (by kernel_rfl) (by kernel_rfl) (by kernel_rfl) (fun _ _ _ h => h) (Or.inl ⟨by rfl, ?hy28⟩) hHeld ?rest28
  case hy28 => (intro w hSw; (try dsimp only at hSw); go_simp; (first | done | with_reducible rfl))
  try simp only [Act.put, List.setIfInBounds_toArray, List.set_cons_zero, List.set_cons_succ]
  refine wpAnyH_take (i := 9) (oi := { dst := some 51, op := Go.Op.pick (Go.Operand.tmp 47) (Go.Operand.const (Go.Value.bool true)) (Go.Operand.tmp 50), type := 4, pos := "relate.go:63", after := #[{ on := 5, ground := Go.Ground.data }, { on := 8, ground := Go.Ground.data }], guard := none }) (v := ?v29) rfl (by kernel_rfl) (by kernel_rfl) (by kernel_rfl) (fun _ _ _ h => h) (Or.inl ⟨by rfl, ?hy29⟩) hHeld ?rest29
  case hy29 => (intro w hSw; (try dsimp only at hSw); go_simp; (first | done | with_reducible rfl))
  try simp only [Act.put, List.setIfInBounds_toArray, List.set_cons_zero, List.set_cons_succ]
  refine wpAnyH_done (by kernel_rfl) ?_ _
  go_wp2_with (first | (refine loadsV (B := B4) (by rfl) rfl rfl LB4 ?_) | (refine loadsV (B := B5) (by rfl) rfl rfl LB5 ?_))
  clear LB4 LB5
  refine (cc _ E).mono ?_
  rintro e w56 ⟨p, rfl, hq, x⟩
  have NP := hq.now
  have Fp := NP.is.flat
  clear hq
  have z30 := x.size
  replace E := E.trans x
  replace LB6 := LB6.ext x
  replace RB6 := RB6.ext x
  clear x
  have TG31 : True := trivial
  go_wp2_with (clear TG31; have hRl := (RB6).lt (Nat.zero_lt_succ _); refine storesV (B := B6) rfl rfl rfl (v := p) rfl RB6 Fp ?_; clear LB6; intro s31 G31 LB6 RQ; have z32 := G31.size; replace E := grown_ext E G31 (by omega); replace NP := NP.grown G31 (by first | omega | (dsimp only [New]; omega)); clear RB6; have RB6 := RQ; clear RQ hRl; clear RB6)
  refine bodyPost_ret (results_lay2 rfl rfl rfl (ldV LB6)) rfl ?_
  exact ⟨p, rfl, NP.mono (fun i hi h => by dsimp only [New] at *; omega), E⟩
theorem rapp_num1 (hf : 11 ≤ f ∧ f ≤ 16) (m n : Int) (ca : ∀ w', Ext w w' → Calls Try.prog 30 #[v] w' fun e w2 => e = .returned (.int .i64 m) ∧ Ext w' w2) (cb : ∀ w', Ext w w' → Calls Try.prog 30 #[u] w' fun e w2 => e = .returned (.int .i64 n) ∧ Ext w' w2) (hl : lenOk m n = true) (N : Nat) (hN : lenV m n = (N : Int)) (da : ∀ w', Ext w w' → Calls Try.prog 56 #[v] w' fun e w2 => e = .returned (.int .i64 0) ∧ Ext w' w2) (db : ∀ w', Ext w w' → Calls Try.prog 56 #[u] w' fun e w2 => e = .returned (.int .i64 0) ∧ Ext w' w2) (RL : List Bool) (cn : ∀ w', Ext w w' → Calls Try.prog 81 #[.int .i64 f, .int .i64 (N : Int), v, u] w' fun e w2 => ∃ p, e = .returned p ∧ VecS w2 p (VD.bits RL) (New w'.heap.size) ∧ Ext w' w2) (sp : ∀ w', Ext w w' → Calls Try.prog 79 #[v, .int .i64 (N : Int)] w' fun e w2 => e = .returned (.tuple #[zeroBits, .bool false]) ∧ Ext w' w2) (sq : ∀ w', Ext w w' → Calls Try.prog 79 #[u, .int .i64 (N : Int)] w' fun e w2 => ∃ q b, e = .returned (.tuple #[q, .bool b]) ∧ Flat 2 q ∧ Ext w' w2) (hF : Flat 8 v) (hG : Flat 8 u) :
    Calls Try.prog 49 #[.int .i64 f, v, u] w fun e w' => ∃ p, e = .returned (.tuple #[p, .int .i64 0]) ∧ VecS w' p (VD.bits RL) (New w.heap.size) ∧ Ext w w' := by
  have E := Ext.refl w
  obtain ⟨h1, h2⟩ := hf
  have cl : ∀ w', Calls Try.prog 71 #[.int .i64 m, .int .i64 n] w' fun e w2 => e = .returned (.tuple #[.int .i64 (lenV m n), .bool true]) ∧ Ext w' w2 := fun w' => (length_any m n w').mono fun e w2 h => ⟨by rw [h.1, hl], h.2 ▸ Ext.refl _⟩
  rw [hN] at cl
  clear hl hN
  go_enter Try.func49, Try.ntmps49
  have TB4 : True := trivial
  have TB5 : True := trivial
  have TB6 : True := trivial
  go_wp2_with (first | (clear TB4; refine boxsV (v := v) rfl rfl rfl hF ?_; intro B4 w4 bB4 cB4 XB4 LB4 RB4; have z1 := XB4.size; replace E := E.trans XB4; clear RB4) | (clear TB5; refine boxsV (v := u) rfl rfl rfl hG ?_; intro B5 w5 bB5 cB5 XB5 LB5 RB5; have z2 := XB5.size; replace E := E.trans XB5; replace LB4 := LB4.ext XB5; clear RB5) | (clear TB6; refine allocsV rfl rfl ?_; intro B6 w6 bB6 cB6 XB6 LB6 RB6; have z3 := XB6.size; replace E := E.trans XB6; replace LB4 := LB4.ext XB6; replace LB5 := LB5.ext XB6))
  try simp only [Act.put, List.setIfInBounds_toArray, List.set_cons_zero, List.set_cons_succ]
  have hq4 : w6.heap.size ≤ w6.drew.heap.size := Nat.le_refl _
  have z5 := (Ext.refl w6).drew.size
  replace E := E.trans (Ext.refl w6).drew
  replace LB4 := LB4.ext (Ext.refl w6).drew
  replace LB5 := LB5.ext (Ext.refl w6).drew
  replace LB6 := LB6.ext (Ext.refl w6).drew
  replace RB6 := RB6.ext (Ext.refl w6).drew
  refine wp_region_held_drew (S := (fun w' => Lay 8 w' B4 v ∧ Lay 8 w' B5 u)) (by kernel_rfl) ⟨LB4, LB5⟩ (fun hHeld => ?_)
  refine wpAnyH_take (i := 0) (oi := { dst := some 23, op := Go.Op.load 34 (Go.Operand.tmp 4), type := 34, pos := "relate.go:56", after := #[], guard := none }) (v := v) rfl (by kernel_rfl) (by kernel_rfl) (by kernel_rfl) (fun _ _ _ h => h) (yieldV (by rfl) rfl rfl fun w' hx => hx.1) hHeld ?_
  try simp only [Act.put, List.setIfInBounds_toArray, List.set_cons_zero, List.set_cons_succ]
  refine wpAnyH_take (i := 2) (oi := { dst := some 25, op := Go.Op.load 34 (Go.Operand.tmp 5), type := 34, pos := "relate.go:56", after := #[], guard := none }) (v := u) rfl (by kernel_rfl) (by kernel_rfl) (by kernel_rfl) (fun _ _ _ h => h) (yieldV (by rfl) rfl rfl fun w' hx => hx.2) hHeld ?_
  try simp only [Act.put, List.setIfInBounds_toArray, List.set_cons_zero, List.set_cons_succ]
  refine wpAnyH_ready (rs := [1]) (by kernel_rfl) (by simp) ?_
  refine AllReadyH.cons (o := { dst := some 24, op := Go.Op.call { callee := Go.Callee.value (Go.Operand.func 30), args := #[Go.Operand.tmp 23], argTypes := #[34] }, type := 3, pos := "relate.go:56", after := #[{ on := 0, ground := Go.Ground.data }], guard := none }) rfl (fun K hK => ?_) (AllReadyH.nil)
  go_simp
  refine (ca _ E).mono ?_
  rintro e w24 ⟨rfl, x⟩
  have z8 := x.size
  replace E := E.trans x
  replace LB4 := LB4.ext x
  replace LB5 := LB5.ext x
  replace LB6 := LB6.ext x
  replace RB6 := RB6.ext x
  clear x
  clear hHeld
  have hHeld := And.intro LB4 (LB5)
  refine hK.out _ _ hHeld (fun _ => ?_)
  clear hK K
  try simp only [Act.put, List.setIfInBounds_toArray, List.set_cons_zero, List.set_cons_succ]
  refine wpAnyH_ready (rs := [3]) (by kernel_rfl) (by simp) ?_
  refine AllReadyH.cons (o := { dst := some 26, op := Go.Op.call { callee := Go.Callee.value (Go.Operand.func 30), args := #[Go.Operand.tmp 25], argTypes := #[34] }, type := 3, pos := "relate.go:56", after := #[{ on := 2, ground := Go.Ground.data }, { on := 1, ground := Go.Ground.chain }], guard := none }) rfl (fun K hK => ?_) (AllReadyH.nil)
  go_simp
  refine (cb _ E).mono ?_
  rintro e w26 ⟨rfl, x⟩
  have z9 := x.size
  replace E := E.trans x
  replace LB4 := LB4.ext x
  replace LB5 := LB5.ext x
  replace LB6 := LB6.ext x
  replace RB6 := RB6.ext x
  clear x
  clear hHeld
  have hHeld := And.intro LB4 (LB5)
  refine hK.out _ _ hHeld (fun _ => ?_)
  clear hK K
  try simp only [Act.put, List.setIfInBounds_toArray, List.set_cons_zero, List.set_cons_succ]
  refine wpAnyH_ready (rs := [4]) (by kernel_rfl) (by simp) ?_
  refine AllReadyH.cons (o := { dst := some 27, op := Go.Op.call { callee := Go.Callee.value (Go.Operand.func 71), args := #[Go.Operand.tmp 24, Go.Operand.tmp 26], argTypes := #[3, 3] }, type := 110, pos := "relate.go:56", after := #[{ on := 1, ground := Go.Ground.data }, { on := 3, ground := Go.Ground.data }, { on := 3, ground := Go.Ground.chain }], guard := none }) rfl (fun K hK => ?_) (AllReadyH.nil)
  go_simp
  refine (cl _).mono ?_
  rintro e w27 ⟨rfl, x⟩
  have z10 := x.size
  replace E := E.trans x
  replace LB4 := LB4.ext x
  replace LB5 := LB5.ext x
  replace LB6 := LB6.ext x
  replace RB6 := RB6.ext x
  clear x
  clear hHeld
  have hHeld := And.intro LB4 (LB5)
  refine hK.out _ _ hHeld (fun _ => ?_)
  clear hK K
  try simp only [Act.put, List.setIfInBounds_toArray, List.set_cons_zero, List.set_cons_succ]
  refine wpAnyH_take (i := 5) (oi := { dst := some 22, op := Go.Op.move (Go.Operand.tmp 27), type := 110, pos := "relate.go:56", after := #[{ on := 4, ground := Go.Ground.data }], guard := none }) (v := ?v11) rfl (by kernel_rfl) (by kernel_rfl) (by kernel_rfl) (fun _ _ _ h => h) (Or.inl ⟨by rfl, ?hy11⟩) hHeld ?rest11
  case hy11 => (intro w hSw; (try dsimp only at hSw); go_simp; (first | done | with_reducible rfl))
  try simp only [Act.put, List.setIfInBounds_toArray, List.set_cons_zero, List.set_cons_succ]
  refine wpAnyH_take (i := 6) (oi := { dst := some 28, op := Go.Op.extract (Go.Operand.tmp 22) 0, type := 3, pos := "relate.go:56", after := #[{ on := 5, ground := Go.Ground.data }], guard := none }) (v := ?v12) rfl (by kernel_rfl) (by kernel_rfl) (by kernel_rfl) (fun _ _ _ h => h) (Or.inl ⟨by rfl, ?hy12⟩) hHeld ?rest12
  case hy12 => (intro w hSw; (try dsimp only at hSw); go_simp; (first | done | with_reducible rfl))
  try simp only [Act.put, List.setIfInBounds_toArray, List.set_cons_zero, List.set_cons_succ]
  refine wpAnyH_take (i := 7) (oi := { dst := some 29, op := Go.Op.extract (Go.Operand.tmp 22) 1, type := 4, pos := "relate.go:56", after := #[{ on := 5, ground := Go.Ground.data }, { on := 8, ground := Go.Ground.gcOnly Go.Departure.lateStores }], guard := none }) (v := ?v13) rfl (by kernel_rfl) (by kernel_rfl) (by kernel_rfl) (fun _ _ _ h => h) (Or.inl ⟨by rfl, ?hy13⟩) hHeld ?rest13
  case hy13 => (intro w hSw; (try dsimp only at hSw); go_simp; (first | done | with_reducible rfl))
  try simp only [Act.put, List.setIfInBounds_toArray, List.set_cons_zero, List.set_cons_succ]
  refine wpAnyH_take (i := 8) (oi := { dst := some 8, op := Go.Op.assign (Go.Operand.tmp 28), type := 3, pos := "relate.go:56", after := #[{ on := 6, ground := Go.Ground.data }, { on := 4, ground := Go.Ground.chain }, { on := 0, ground := Go.Ground.phase }, { on := 1, ground := Go.Ground.phase }, { on := 2, ground := Go.Ground.phase }, { on := 3, ground := Go.Ground.phase }, { on := 4, ground := Go.Ground.phase }, { on := 5, ground := Go.Ground.phase }, { on := 6, ground := Go.Ground.phase }, { on := 7, ground := Go.Ground.textOnly Go.Departure.lateStores }], guard := none }) (v := ?v14) rfl (by kernel_rfl) (by kernel_rfl) (by kernel_rfl) (fun _ _ _ h => h) (Or.inl ⟨by rfl, ?hy14⟩) hHeld ?rest14
  case hy14 => (intro w hSw; (try dsimp only at hSw); go_simp; (first | done | with_reducible rfl))
  try simp only [Act.put, List.setIfInBounds_toArray, List.set_cons_zero, List.set_cons_succ]
  refine wpAnyH_take (i := 9) (oi := { dst := some 9, op := Go.Op.assign (Go.Operand.tmp 29), type := 4, pos := "relate.go:56", after := #[{ on := 7, ground := Go.Ground.data }, { on := 8, ground := Go.Ground.chain }, { on := 0, ground := Go.Ground.phase }, { on := 1, ground := Go.Ground.phase }, { on := 2, ground := Go.Ground.phase }, { on := 3, ground := Go.Ground.phase }, { on := 4, ground := Go.Ground.phase }, { on := 5, ground := Go.Ground.phase }, { on := 6, ground := Go.Ground.phase }, { on := 7, ground := Go.Ground.phase }, { on := 8, ground := Go.Ground.phase }], guard := none }) (v := ?v15) rfl (by kernel_rfl) (by kernel_rfl) (by kernel_rfl) (fun _ _ _ h => h) (Or.inl ⟨by rfl, ?hy15⟩) hHeld ?rest15
  case hy15 => (intro w hSw; (try dsimp only at hSw); go_simp; (first | done | with_reducible rfl))
  try simp only [Act.put, List.setIfInBounds_toArray, List.set_cons_zero, List.set_cons_succ]
  refine wpAnyH_done (by kernel_rfl) ?_ _
  go_wp2_with (refine loadsV (B := B4) (by rfl) rfl rfl LB4 ?_)
  refine (da _ E).mono ?_
  rintro e w34 ⟨rfl, x⟩
  have z16 := x.size
  replace E := E.trans x
  replace LB4 := LB4.ext x
  replace LB5 := LB5.ext x
  replace LB6 := LB6.ext x
  replace RB6 := RB6.ext x
  clear x
  go_wp2_with (refine loadgV (B := B5) (by rfl) rfl rfl LB5 ?_)
  refine (db _ E).mono ?_
  rintro e w38 ⟨rfl, x⟩
  have z17 := x.size
  replace E := E.trans x
  replace LB4 := LB4.ext x
  replace LB5 := LB5.ext x
  replace LB6 := LB6.ext x
  replace RB6 := RB6.ext x
  clear x
  go_wp2_with fail
  try simp only [Act.put, List.setIfInBounds_toArray, List.set_cons_zero, List.set_cons_succ]
  have hq18 : w38.heap.size ≤ w38.drew.heap.size := Nat.le_refl _
  have z19 := (Ext.refl w38).drew.size
  replace E := E.trans (Ext.refl w38).drew
  replace LB4 := LB4.ext (Ext.refl w38).drew
  replace LB5 := LB5.ext (Ext.refl w38).drew
  replace LB6 := LB6.ext (Ext.refl w38).drew
  replace RB6 := RB6.ext (Ext.refl w38).drew
  refine wp_region_held_drew (S := (fun w' => Lay 8 w' B4 v ∧ Lay 8 w' B5 u)) (by kernel_rfl) ⟨LB4, LB5⟩ (fun hHeld => ?_)
  refine wpAnyH_take (i := 0) (oi := { dst := some 42, op := Go.Op.load 34 (Go.Operand.tmp 4), type := 34, pos := "relate.go:63", after := #[], guard := none }) (v := v) rfl (by kernel_rfl) (by kernel_rfl) (by kernel_rfl) (fun _ _ _ h => h) (yieldV (by rfl) rfl rfl fun w' hx => hx.1) hHeld ?_
  try simp only [Act.put, List.setIfInBounds_toArray, List.set_cons_zero, List.set_cons_succ]
  refine wpAnyH_take (i := 2) (oi := { dst := some 44, op := Go.Op.load 34 (Go.Operand.tmp 5), type := 34, pos := "relate.go:63", after := #[], guard := none }) (v := u) rfl (by kernel_rfl) (by kernel_rfl) (by kernel_rfl) (fun _ _ _ h => h) (yieldV (by rfl) rfl rfl fun w' hx => hx.2) hHeld ?_
  try simp only [Act.put, List.setIfInBounds_toArray, List.set_cons_zero, List.set_cons_succ]
  refine wpAnyH_ready (rs := [1]) (by kernel_rfl) (by simp) ?_
  refine AllReadyH.cons (o := { dst := some 43, op := Go.Op.call { callee := Go.Callee.value (Go.Operand.func 56), args := #[Go.Operand.tmp 42], argTypes := #[34] }, type := 3, pos := "relate.go:63", after := #[{ on := 0, ground := Go.Ground.data }], guard := none }) rfl (fun K hK => ?_) (AllReadyH.nil)
  go_simp
  refine (da _ E).mono ?_
  rintro e w43 ⟨rfl, x⟩
  have z22 := x.size
  replace E := E.trans x
  replace LB4 := LB4.ext x
  replace LB5 := LB5.ext x
  replace LB6 := LB6.ext x
  replace RB6 := RB6.ext x
  clear x
  clear hHeld
  have hHeld := And.intro LB4 (LB5)
  refine hK.out _ _ hHeld (fun _ => ?_)
  clear hK K
  try simp only [Act.put, List.setIfInBounds_toArray, List.set_cons_zero, List.set_cons_succ]
  refine wpAnyH_ready (rs := [3]) (by kernel_rfl) (by simp) ?_
  refine AllReadyH.cons (o := { dst := some 45, op := Go.Op.call { callee := Go.Callee.value (Go.Operand.func 56), args := #[Go.Operand.tmp 44], argTypes := #[34] }, type := 3, pos := "relate.go:63", after := #[{ on := 2, ground := Go.Ground.data }, { on := 1, ground := Go.Ground.chain }], guard := none }) rfl (fun K hK => ?_) (AllReadyH.nil)
  go_simp
  refine (db _ E).mono ?_
  rintro e w45 ⟨rfl, x⟩
  have z23 := x.size
  replace E := E.trans x
  replace LB4 := LB4.ext x
  replace LB5 := LB5.ext x
  replace LB6 := LB6.ext x
  replace RB6 := RB6.ext x
  clear x
  clear hHeld
  have hHeld := And.intro LB4 (LB5)
  refine hK.out _ _ hHeld (fun _ => ?_)
  clear hK K
  try simp only [Act.put, List.setIfInBounds_toArray, List.set_cons_zero, List.set_cons_succ]
  refine wpAnyH_take (i := 4) (oi := { dst := some 46, op := Go.Op.binOp Go.BinOp.neq 3 (Go.Operand.tmp 43) (Go.Operand.tmp 45) 3, type := 4, pos := "relate.go:63", after := #[{ on := 1, ground := Go.Ground.data }, { on := 3, ground := Go.Ground.data }], guard := none }) (v := ?v24) rfl (by kernel_rfl) (by kernel_rfl) (by kernel_rfl) (fun _ _ _ h => h) (Or.inl ⟨by rfl, ?hy24⟩) hHeld ?rest24
  case hy24 => (intro w hSw; (try dsimp only at hSw); go_simp; (first | done | with_reducible rfl))
  try simp only [Act.put, List.setIfInBounds_toArray, List.set_cons_zero, List.set_cons_succ]
  refine wpAnyH_take (i := 5) (oi := { dst := some 47, op := Go.Op.move (Go.Operand.tmp 46), type := 4, pos := "relate.go:63", after := #[{ on := 4, ground := Go.Ground.data }, { on := 3, ground := Go.Ground.chain }], guard := none }) (v := ?v25) rfl (by kernel_rfl) (by kernel_rfl) (by kernel_rfl) (fun _ _ _ h => h) (Or.inl ⟨by rfl, ?hy25⟩) hHeld ?rest25
  case hy25 => (intro w hSw; (try dsimp only at hSw); go_simp; (first | done | with_reducible rfl))
  try simp only [Act.put, List.setIfInBounds_toArray, List.set_cons_zero, List.set_cons_succ]
  refine wpAnyH_take (i := 6) (oi := { dst := some 48, op := Go.Op.load 34 (Go.Operand.tmp 4), type := 34, pos := "relate.go:63", after := #[{ on := 5, ground := Go.Ground.guard }], guard := some (5, false) }) (v := v) rfl (by kernel_rfl) (by kernel_rfl) (by kernel_rfl) (fun _ _ _ h => h) (yieldV (by rfl) rfl rfl fun w' hx => hx.1) hHeld ?_
  try simp only [Act.put, List.setIfInBounds_toArray, List.set_cons_zero, List.set_cons_succ]
  refine wpAnyH_ready (rs := [7]) (by kernel_rfl) (by simp) ?_
  refine AllReadyH.cons (o := { dst := some 49, op := Go.Op.call { callee := Go.Callee.value (Go.Operand.func 56), args := #[Go.Operand.tmp 48], argTypes := #[34] }, type := 3, pos := "relate.go:63", after := #[{ on := 6, ground := Go.Ground.data }, { on := 5, ground := Go.Ground.chain }, { on := 5, ground := Go.Ground.guard }], guard := some (5, false) }) rfl (fun K hK => ?_) (AllReadyH.nil)
  go_simp
  refine (da _ E).mono ?_
  rintro e w49 ⟨rfl, x⟩
  have z27 := x.size
  replace E := E.trans x
  replace LB4 := LB4.ext x
  replace LB5 := LB5.ext x
  replace LB6 := LB6.ext x
  replace RB6 := RB6.ext x
  clear x
  clear hHeld
  have hHeld := And.intro LB4 (LB5)
  refine hK.out _ _ hHeld (fun _ => ?_)
  clear hK K
  try simp only [Act.put, List.setIfInBounds_toArray, List.set_cons_zero, List.set_cons_succ]
  refine wpAnyH_take (i := 8) (oi := { dst := some 50, op := Go.Op.binOp Go.BinOp.eql 3 (Go.Operand.tmp 49) (Go.Operand.const (Go.Value.int Go.IntKind.i64 1)) 3, type := 4, pos := "relate.go:63", after := #[{ on := 7, ground := Go.Ground.data }, { on := 5, ground := Go.Ground.guard }], guard := some (5, false) }) (v := ?v28) rfl (by kernel_rfl) (by kernel_rfl) (by kernel_rfl) (fun _ _ _ h => h) (Or.inl ⟨by rfl, ?hy28⟩) hHeld ?rest28
  case hy28 => (intro w hSw; (try dsimp only at hSw); go_simp; (first | done | with_reducible rfl))
  try simp only [Act.put, List.setIfInBounds_toArray, List.set_cons_zero, List.set_cons_succ]
  refine wpAnyH_take (i := 9) (oi := { dst := some 51, op := Go.Op.pick (Go.Operand.tmp 47) (Go.Operand.const (Go.Value.bool true)) (Go.Operand.tmp 50), type := 4, pos := "relate.go:63", after := #[{ on := 5, ground := Go.Ground.data }, { on := 8, ground := Go.Ground.data }], guard := none }) (v := ?v29) rfl (by kernel_rfl) (by kernel_rfl) (by kernel_rfl) (fun _ _ _ h => h) (Or.inl ⟨by rfl, ?hy29⟩) hHeld ?rest29
  case hy29 => (intro w hSw; (try dsimp only at hSw); go_simp; (first | done | with_reducible rfl))
  try simp only [Act.put, List.setIfInBounds_toArray, List.set_cons_zero, List.set_cons_succ]
  refine wpAnyH_done (by kernel_rfl) ?_ _
  go_wp2_with (refine loadsV (B := B4) (by rfl) rfl rfl LB4 ?_)
  refine (sp _ E).mono ?_
  rintro e w62 ⟨rfl, x⟩
  have z30 := x.size
  replace E := E.trans x
  replace LB4 := LB4.ext x
  replace LB5 := LB5.ext x
  replace LB6 := LB6.ext x
  replace RB6 := RB6.ext x
  clear x
  have TB10 : True := trivial
  have TG32 : True := trivial
  go_wp2_with (first | (clear TB10; refine allocsB rfl rfl ?_; intro B10 w10 bB10 cB10 XB10 LB10 RB10; have z31 := XB10.size; replace E := E.trans XB10; replace LB4 := LB4.ext XB10; replace LB5 := LB5.ext XB10; replace LB6 := LB6.ext XB10; replace RB6 := RB6.ext XB10; clear LB10) | (clear TG32; have hRl := (RB10).lt (Nat.zero_lt_succ _); refine storesB (B := B10) rfl rfl rfl (v := zeroBits) rfl RB10 zeroBits_flat ?_; intro s32 G32 LB10 RQ; have z33 := G32.size; replace E := grown_ext E G32 (by omega); replace LB4 := LB4.grown G32 (by omega); replace LB5 := LB5.grown G32 (by omega); replace LB6 := LB6.grown G32 (by omega); replace RB6 := RB6.grown G32 (by omega); clear RB10; have RB10 := RQ; clear RQ hRl; clear LB10 RB10) | (refine loadsV (B := B5) (by rfl) rfl rfl LB5 ?_))
  refine (sq _ E).mono ?_
  rintro e w68 ⟨q, bq, rfl, Fq, x⟩
  have z34 := x.size
  replace E := E.trans x
  replace LB4 := LB4.ext x
  replace LB5 := LB5.ext x
  replace LB6 := LB6.ext x
  replace RB6 := RB6.ext x
  clear x
  have TB11 : True := trivial
  have TG36 : True := trivial
  go_wp2_with (first | (clear TB11; refine allocsB rfl rfl ?_; intro B11 w11 bB11 cB11 XB11 LB11 RB11; have z35 := XB11.size; replace E := E.trans XB11; replace LB4 := LB4.ext XB11; replace LB5 := LB5.ext XB11; replace LB6 := LB6.ext XB11; replace RB6 := RB6.ext XB11; clear LB11) | (clear TG36; have hRl := (RB11).lt (Nat.zero_lt_succ _); refine storesB (B := B11) rfl rfl rfl (v := q) rfl RB11 Fq ?_; intro s36 G36 LB11 RQ; have z37 := G36.size; replace E := grown_ext E G36 (by omega); replace LB4 := LB4.grown G36 (by omega); replace LB5 := LB5.grown G36 (by omega); replace LB6 := LB6.grown G36 (by omega); replace RB6 := RB6.grown G36 (by omega); clear RB11; have RB11 := RQ; clear RQ hRl; clear LB11 RB11) | (refine loadsV (B := B4) (by rfl) rfl rfl LB4 ?_) | (refine loadsV (B := B5) (by rfl) rfl rfl LB5 ?_))
  clear LB4 LB5
  refine (cn _ E).mono ?_
  rintro e w89 ⟨p, rfl, hq, x⟩
  have NP := hq.now
  have Fp := NP.is.flat
  clear hq
  have z38 := x.size
  replace E := E.trans x
  replace LB6 := LB6.ext x
  replace RB6 := RB6.ext x
  clear x
  have TG39 : True := trivial
  go_wp2_with (clear TG39; have hRl := (RB6).lt (Nat.zero_lt_succ _); refine storesV (B := B6) rfl rfl rfl (v := p) rfl RB6 Fp ?_; clear LB6; intro s39 G39 LB6 RQ; have z40 := G39.size; replace E := grown_ext E G39 (by omega); replace NP := NP.grown G39 (by first | omega | (dsimp only [New]; omega)); clear RB6; have RB6 := RQ; clear RQ hRl; clear RB6)
  refine bodyPost_ret (results_lay2 rfl rfl rfl (ldV LB6)) rfl ?_
  exact ⟨p, rfl, NP.mono (fun i hi h => by dsimp only [New] at *; omega), E⟩
theorem rapp_num2 (hf : 11 ≤ f ∧ f ≤ 16) (m n : Int) (ca : ∀ w', Ext w w' → Calls Try.prog 30 #[v] w' fun e w2 => e = .returned (.int .i64 m) ∧ Ext w' w2) (cb : ∀ w', Ext w w' → Calls Try.prog 30 #[u] w' fun e w2 => e = .returned (.int .i64 n) ∧ Ext w' w2) (hl : lenOk m n = true) (N : Nat) (hN : lenV m n = (N : Int)) (da : ∀ w', Ext w w' → Calls Try.prog 56 #[v] w' fun e w2 => e = .returned (.int .i64 0) ∧ Ext w' w2) (db : ∀ w', Ext w w' → Calls Try.prog 56 #[u] w' fun e w2 => e = .returned (.int .i64 0) ∧ Ext w' w2) (RL : List Bool) (cn : ∀ w', Ext w w' → Calls Try.prog 81 #[.int .i64 f, .int .i64 (N : Int), v, u] w' fun e w2 => ∃ p, e = .returned p ∧ VecS w2 p (VD.bits RL) (New w'.heap.size) ∧ Ext w' w2) (x : List Bool) (sp : ∀ w', Ext w w' → Calls Try.prog 79 #[v, .int .i64 (N : Int)] w' fun e w2 => ∃ q, e = .returned (.tuple #[q, .bool true]) ∧ BitS w2 q x (fun i => i < w.heap.size ∨ New w'.heap.size i) ∧ Ext w' w2) (sq : ∀ w', Ext w w' → Calls Try.prog 79 #[u, .int .i64 (N : Int)] w' fun e w2 => e = .returned (.tuple #[zeroBits, .bool false]) ∧ Ext w' w2) (hF : Flat 8 v) (hG : Flat 8 u) :
    Calls Try.prog 49 #[.int .i64 f, v, u] w fun e w' => ∃ p, e = .returned (.tuple #[p, .int .i64 0]) ∧ VecS w' p (VD.bits RL) (New w.heap.size) ∧ Ext w w' := by
  have E := Ext.refl w
  obtain ⟨h1, h2⟩ := hf
  have cl : ∀ w', Calls Try.prog 71 #[.int .i64 m, .int .i64 n] w' fun e w2 => e = .returned (.tuple #[.int .i64 (lenV m n), .bool true]) ∧ Ext w' w2 := fun w' => (length_any m n w').mono fun e w2 h => ⟨by rw [h.1, hl], h.2 ▸ Ext.refl _⟩
  rw [hN] at cl
  clear hl hN
  go_enter Try.func49, Try.ntmps49
  have TB4 : True := trivial
  have TB5 : True := trivial
  have TB6 : True := trivial
  go_wp2_with (first | (clear TB4; refine boxsV (v := v) rfl rfl rfl hF ?_; intro B4 w4 bB4 cB4 XB4 LB4 RB4; have z1 := XB4.size; replace E := E.trans XB4; clear RB4) | (clear TB5; refine boxsV (v := u) rfl rfl rfl hG ?_; intro B5 w5 bB5 cB5 XB5 LB5 RB5; have z2 := XB5.size; replace E := E.trans XB5; replace LB4 := LB4.ext XB5; clear RB5) | (clear TB6; refine allocsV rfl rfl ?_; intro B6 w6 bB6 cB6 XB6 LB6 RB6; have z3 := XB6.size; replace E := E.trans XB6; replace LB4 := LB4.ext XB6; replace LB5 := LB5.ext XB6))
  try simp only [Act.put, List.setIfInBounds_toArray, List.set_cons_zero, List.set_cons_succ]
  have hq4 : w6.heap.size ≤ w6.drew.heap.size := Nat.le_refl _
  have z5 := (Ext.refl w6).drew.size
  replace E := E.trans (Ext.refl w6).drew
  replace LB4 := LB4.ext (Ext.refl w6).drew
  replace LB5 := LB5.ext (Ext.refl w6).drew
  replace LB6 := LB6.ext (Ext.refl w6).drew
  replace RB6 := RB6.ext (Ext.refl w6).drew
  refine wp_region_held_drew (S := (fun w' => Lay 8 w' B4 v ∧ Lay 8 w' B5 u)) (by kernel_rfl) ⟨LB4, LB5⟩ (fun hHeld => ?_)
  refine wpAnyH_take (i := 0) (oi := { dst := some 23, op := Go.Op.load 34 (Go.Operand.tmp 4), type := 34, pos := "relate.go:56", after := #[], guard := none }) (v := v) rfl (by kernel_rfl) (by kernel_rfl) (by kernel_rfl) (fun _ _ _ h => h) (yieldV (by rfl) rfl rfl fun w' hx => hx.1) hHeld ?_
  try simp only [Act.put, List.setIfInBounds_toArray, List.set_cons_zero, List.set_cons_succ]
  refine wpAnyH_take (i := 2) (oi := { dst := some 25, op := Go.Op.load 34 (Go.Operand.tmp 5), type := 34, pos := "relate.go:56", after := #[], guard := none }) (v := u) rfl (by kernel_rfl) (by kernel_rfl) (by kernel_rfl) (fun _ _ _ h => h) (yieldV (by rfl) rfl rfl fun w' hx => hx.2) hHeld ?_
  try simp only [Act.put, List.setIfInBounds_toArray, List.set_cons_zero, List.set_cons_succ]
  refine wpAnyH_ready (rs := [1]) (by kernel_rfl) (by simp) ?_
  refine AllReadyH.cons (o := { dst := some 24, op := Go.Op.call { callee := Go.Callee.value (Go.Operand.func 30), args := #[Go.Operand.tmp 23], argTypes := #[34] }, type := 3, pos := "relate.go:56", after := #[{ on := 0, ground := Go.Ground.data }], guard := none }) rfl (fun K hK => ?_) (AllReadyH.nil)
  go_simp
  refine (ca _ E).mono ?_
  rintro e w24 ⟨rfl, x⟩
  have z8 := x.size
  replace E := E.trans x
  replace LB4 := LB4.ext x
  replace LB5 := LB5.ext x
  replace LB6 := LB6.ext x
  replace RB6 := RB6.ext x
  clear x
  clear hHeld
  have hHeld := And.intro LB4 (LB5)
  refine hK.out _ _ hHeld (fun _ => ?_)
  clear hK K
  try simp only [Act.put, List.setIfInBounds_toArray, List.set_cons_zero, List.set_cons_succ]
  refine wpAnyH_ready (rs := [3]) (by kernel_rfl) (by simp) ?_
  refine AllReadyH.cons (o := { dst := some 26, op := Go.Op.call { callee := Go.Callee.value (Go.Operand.func 30), args := #[Go.Operand.tmp 25], argTypes := #[34] }, type := 3, pos := "relate.go:56", after := #[{ on := 2, ground := Go.Ground.data }, { on := 1, ground := Go.Ground.chain }], guard := none }) rfl (fun K hK => ?_) (AllReadyH.nil)
  go_simp
  refine (cb _ E).mono ?_
  rintro e w26 ⟨rfl, x⟩
  have z9 := x.size
  replace E := E.trans x
  replace LB4 := LB4.ext x
  replace LB5 := LB5.ext x
  replace LB6 := LB6.ext x
  replace RB6 := RB6.ext x
  clear x
  clear hHeld
  have hHeld := And.intro LB4 (LB5)
  refine hK.out _ _ hHeld (fun _ => ?_)
  clear hK K
  try simp only [Act.put, List.setIfInBounds_toArray, List.set_cons_zero, List.set_cons_succ]
  refine wpAnyH_ready (rs := [4]) (by kernel_rfl) (by simp) ?_
  refine AllReadyH.cons (o := { dst := some 27, op := Go.Op.call { callee := Go.Callee.value (Go.Operand.func 71), args := #[Go.Operand.tmp 24, Go.Operand.tmp 26], argTypes := #[3, 3] }, type := 110, pos := "relate.go:56", after := #[{ on := 1, ground := Go.Ground.data }, { on := 3, ground := Go.Ground.data }, { on := 3, ground := Go.Ground.chain }], guard := none }) rfl (fun K hK => ?_) (AllReadyH.nil)
  go_simp
  refine (cl _).mono ?_
  rintro e w27 ⟨rfl, x⟩
  have z10 := x.size
  replace E := E.trans x
  replace LB4 := LB4.ext x
  replace LB5 := LB5.ext x
  replace LB6 := LB6.ext x
  replace RB6 := RB6.ext x
  clear x
  clear hHeld
  have hHeld := And.intro LB4 (LB5)
  refine hK.out _ _ hHeld (fun _ => ?_)
  clear hK K
  try simp only [Act.put, List.setIfInBounds_toArray, List.set_cons_zero, List.set_cons_succ]
  refine wpAnyH_take (i := 5) (oi := { dst := some 22, op := Go.Op.move (Go.Operand.tmp 27), type := 110, pos := "relate.go:56", after := #[{ on := 4, ground := Go.Ground.data }], guard := none }) (v := ?v11) rfl (by kernel_rfl) (by kernel_rfl) (by kernel_rfl) (fun _ _ _ h => h) (Or.inl ⟨by rfl, ?hy11⟩) hHeld ?rest11
  case hy11 => (intro w hSw; (try dsimp only at hSw); go_simp; (first | done | with_reducible rfl))
  try simp only [Act.put, List.setIfInBounds_toArray, List.set_cons_zero, List.set_cons_succ]
  refine wpAnyH_take (i := 6) (oi := { dst := some 28, op := Go.Op.extract (Go.Operand.tmp 22) 0, type := 3, pos := "relate.go:56", after := #[{ on := 5, ground := Go.Ground.data }], guard := none }) (v := ?v12) rfl (by kernel_rfl) (by kernel_rfl) (by kernel_rfl) (fun _ _ _ h => h) (Or.inl ⟨by rfl, ?hy12⟩) hHeld ?rest12
  case hy12 => (intro w hSw; (try dsimp only at hSw); go_simp; (first | done | with_reducible rfl))
  try simp only [Act.put, List.setIfInBounds_toArray, List.set_cons_zero, List.set_cons_succ]
  refine wpAnyH_take (i := 7) (oi := { dst := some 29, op := Go.Op.extract (Go.Operand.tmp 22) 1, type := 4, pos := "relate.go:56", after := #[{ on := 5, ground := Go.Ground.data }, { on := 8, ground := Go.Ground.gcOnly Go.Departure.lateStores }], guard := none }) (v := ?v13) rfl (by kernel_rfl) (by kernel_rfl) (by kernel_rfl) (fun _ _ _ h => h) (Or.inl ⟨by rfl, ?hy13⟩) hHeld ?rest13
  case hy13 => (intro w hSw; (try dsimp only at hSw); go_simp; (first | done | with_reducible rfl))
  try simp only [Act.put, List.setIfInBounds_toArray, List.set_cons_zero, List.set_cons_succ]
  refine wpAnyH_take (i := 8) (oi := { dst := some 8, op := Go.Op.assign (Go.Operand.tmp 28), type := 3, pos := "relate.go:56", after := #[{ on := 6, ground := Go.Ground.data }, { on := 4, ground := Go.Ground.chain }, { on := 0, ground := Go.Ground.phase }, { on := 1, ground := Go.Ground.phase }, { on := 2, ground := Go.Ground.phase }, { on := 3, ground := Go.Ground.phase }, { on := 4, ground := Go.Ground.phase }, { on := 5, ground := Go.Ground.phase }, { on := 6, ground := Go.Ground.phase }, { on := 7, ground := Go.Ground.textOnly Go.Departure.lateStores }], guard := none }) (v := ?v14) rfl (by kernel_rfl) (by kernel_rfl) (by kernel_rfl) (fun _ _ _ h => h) (Or.inl ⟨by rfl, ?hy14⟩) hHeld ?rest14
  case hy14 => (intro w hSw; (try dsimp only at hSw); go_simp; (first | done | with_reducible rfl))
  try simp only [Act.put, List.setIfInBounds_toArray, List.set_cons_zero, List.set_cons_succ]
  refine wpAnyH_take (i := 9) (oi := { dst := some 9, op := Go.Op.assign (Go.Operand.tmp 29), type := 4, pos := "relate.go:56", after := #[{ on := 7, ground := Go.Ground.data }, { on := 8, ground := Go.Ground.chain }, { on := 0, ground := Go.Ground.phase }, { on := 1, ground := Go.Ground.phase }, { on := 2, ground := Go.Ground.phase }, { on := 3, ground := Go.Ground.phase }, { on := 4, ground := Go.Ground.phase }, { on := 5, ground := Go.Ground.phase }, { on := 6, ground := Go.Ground.phase }, { on := 7, ground := Go.Ground.phase }, { on := 8, ground := Go.Ground.phase }], guard := none }) (v := ?v15) rfl (by kernel_rfl) (by kernel_rfl) (by kernel_rfl) (fun _ _ _ h => h) (Or.inl ⟨by rfl, ?hy15⟩) hHeld ?rest15
  case hy15 => (intro w hSw; (try dsimp only at hSw); go_simp; (first | done | with_reducible rfl))
  try simp only [Act.put, List.setIfInBounds_toArray, List.set_cons_zero, List.set_cons_succ]
  refine wpAnyH_done (by kernel_rfl) ?_ _
  go_wp2_with (refine loadsV (B := B4) (by rfl) rfl rfl LB4 ?_)
  refine (da _ E).mono ?_
  rintro e w34 ⟨rfl, x⟩
  have z16 := x.size
  replace E := E.trans x
  replace LB4 := LB4.ext x
  replace LB5 := LB5.ext x
  replace LB6 := LB6.ext x
  replace RB6 := RB6.ext x
  clear x
  go_wp2_with (refine loadgV (B := B5) (by rfl) rfl rfl LB5 ?_)
  refine (db _ E).mono ?_
  rintro e w38 ⟨rfl, x⟩
  have z17 := x.size
  replace E := E.trans x
  replace LB4 := LB4.ext x
  replace LB5 := LB5.ext x
  replace LB6 := LB6.ext x
  replace RB6 := RB6.ext x
  clear x
  go_wp2_with fail
  try simp only [Act.put, List.setIfInBounds_toArray, List.set_cons_zero, List.set_cons_succ]
  have hq18 : w38.heap.size ≤ w38.drew.heap.size := Nat.le_refl _
  have z19 := (Ext.refl w38).drew.size
  replace E := E.trans (Ext.refl w38).drew
  replace LB4 := LB4.ext (Ext.refl w38).drew
  replace LB5 := LB5.ext (Ext.refl w38).drew
  replace LB6 := LB6.ext (Ext.refl w38).drew
  replace RB6 := RB6.ext (Ext.refl w38).drew
  refine wp_region_held_drew (S := (fun w' => Lay 8 w' B4 v ∧ Lay 8 w' B5 u)) (by kernel_rfl) ⟨LB4, LB5⟩ (fun hHeld => ?_)
  refine wpAnyH_take (i := 0) (oi := { dst := some 42, op := Go.Op.load 34 (Go.Operand.tmp 4), type := 34, pos := "relate.go:63", after := #[], guard := none }) (v := v) rfl (by kernel_rfl) (by kernel_rfl) (by kernel_rfl) (fun _ _ _ h => h) (yieldV (by rfl) rfl rfl fun w' hx => hx.1) hHeld ?_
  try simp only [Act.put, List.setIfInBounds_toArray, List.set_cons_zero, List.set_cons_succ]
  refine wpAnyH_take (i := 2) (oi := { dst := some 44, op := Go.Op.load 34 (Go.Operand.tmp 5), type := 34, pos := "relate.go:63", after := #[], guard := none }) (v := u) rfl (by kernel_rfl) (by kernel_rfl) (by kernel_rfl) (fun _ _ _ h => h) (yieldV (by rfl) rfl rfl fun w' hx => hx.2) hHeld ?_
  try simp only [Act.put, List.setIfInBounds_toArray, List.set_cons_zero, List.set_cons_succ]
  refine wpAnyH_ready (rs := [1]) (by kernel_rfl) (by simp) ?_
  refine AllReadyH.cons (o := { dst := some 43, op := Go.Op.call { callee := Go.Callee.value (Go.Operand.func 56), args := #[Go.Operand.tmp 42], argTypes := #[34] }, type := 3, pos := "relate.go:63", after := #[{ on := 0, ground := Go.Ground.data }], guard := none }) rfl (fun K hK => ?_) (AllReadyH.nil)
  go_simp
  refine (da _ E).mono ?_
  rintro e w43 ⟨rfl, x⟩
  have z22 := x.size
  replace E := E.trans x
  replace LB4 := LB4.ext x
  replace LB5 := LB5.ext x
  replace LB6 := LB6.ext x
  replace RB6 := RB6.ext x
  clear x
  clear hHeld
  have hHeld := And.intro LB4 (LB5)
  refine hK.out _ _ hHeld (fun _ => ?_)
  clear hK K
  try simp only [Act.put, List.setIfInBounds_toArray, List.set_cons_zero, List.set_cons_succ]
  refine wpAnyH_ready (rs := [3]) (by kernel_rfl) (by simp) ?_
  refine AllReadyH.cons (o := { dst := some 45, op := Go.Op.call { callee := Go.Callee.value (Go.Operand.func 56), args := #[Go.Operand.tmp 44], argTypes := #[34] }, type := 3, pos := "relate.go:63", after := #[{ on := 2, ground := Go.Ground.data }, { on := 1, ground := Go.Ground.chain }], guard := none }) rfl (fun K hK => ?_) (AllReadyH.nil)
  go_simp
  refine (db _ E).mono ?_
  rintro e w45 ⟨rfl, x⟩
  have z23 := x.size
  replace E := E.trans x
  replace LB4 := LB4.ext x
  replace LB5 := LB5.ext x
  replace LB6 := LB6.ext x
  replace RB6 := RB6.ext x
  clear x
  clear hHeld
  have hHeld := And.intro LB4 (LB5)
  refine hK.out _ _ hHeld (fun _ => ?_)
  clear hK K
  try simp only [Act.put, List.setIfInBounds_toArray, List.set_cons_zero, List.set_cons_succ]
  refine wpAnyH_take (i := 4) (oi := { dst := some 46, op := Go.Op.binOp Go.BinOp.neq 3 (Go.Operand.tmp 43) (Go.Operand.tmp 45) 3, type := 4, pos := "relate.go:63", after := #[{ on := 1, ground := Go.Ground.data }, { on := 3, ground := Go.Ground.data }], guard := none }) (v := ?v24) rfl (by kernel_rfl) (by kernel_rfl) (by kernel_rfl) (fun _ _ _ h => h) (Or.inl ⟨by rfl, ?hy24⟩) hHeld ?rest24
  case hy24 => (intro w hSw; (try dsimp only at hSw); go_simp; (first | done | with_reducible rfl))
  try simp only [Act.put, List.setIfInBounds_toArray, List.set_cons_zero, List.set_cons_succ]
  refine wpAnyH_take (i := 5) (oi := { dst := some 47, op := Go.Op.move (Go.Operand.tmp 46), type := 4, pos := "relate.go:63", after := #[{ on := 4, ground := Go.Ground.data }, { on := 3, ground := Go.Ground.chain }], guard := none }) (v := ?v25) rfl (by kernel_rfl) (by kernel_rfl) (by kernel_rfl) (fun _ _ _ h => h) (Or.inl ⟨by rfl, ?hy25⟩) hHeld ?rest25
  case hy25 => (intro w hSw; (try dsimp only at hSw); go_simp; (first | done | with_reducible rfl))
  try simp only [Act.put, List.setIfInBounds_toArray, List.set_cons_zero, List.set_cons_succ]
  refine wpAnyH_take (i := 6) (oi := { dst := some 48, op := Go.Op.load 34 (Go.Operand.tmp 4), type := 34, pos := "relate.go:63", after := #[{ on := 5, ground := Go.Ground.guard }], guard := some (5, false) }) (v := v) rfl (by kernel_rfl) (by kernel_rfl) (by kernel_rfl) (fun _ _ _ h => h) (yieldV (by rfl) rfl rfl fun w' hx => hx.1) hHeld ?_
  try simp only [Act.put, List.setIfInBounds_toArray, List.set_cons_zero, List.set_cons_succ]
  refine wpAnyH_ready (rs := [7]) (by kernel_rfl) (by simp) ?_
  refine AllReadyH.cons (o := { dst := some 49, op := Go.Op.call { callee := Go.Callee.value (Go.Operand.func 56), args := #[Go.Operand.tmp 48], argTypes := #[34] }, type := 3, pos := "relate.go:63", after := #[{ on := 6, ground := Go.Ground.data }, { on := 5, ground := Go.Ground.chain }, { on := 5, ground := Go.Ground.guard }], guard := some (5, false) }) rfl (fun K hK => ?_) (AllReadyH.nil)
  go_simp
  refine (da _ E).mono ?_
  rintro e w49 ⟨rfl, x⟩
  have z27 := x.size
  replace E := E.trans x
  replace LB4 := LB4.ext x
  replace LB5 := LB5.ext x
  replace LB6 := LB6.ext x
  replace RB6 := RB6.ext x
  clear x
  clear hHeld
  have hHeld := And.intro LB4 (LB5)
  refine hK.out _ _ hHeld (fun _ => ?_)
  clear hK K
  try simp only [Act.put, List.setIfInBounds_toArray, List.set_cons_zero, List.set_cons_succ]
  refine wpAnyH_take (i := 8) (oi := { dst := some 50, op := Go.Op.binOp Go.BinOp.eql 3 (Go.Operand.tmp 49) (Go.Operand.const (Go.Value.int Go.IntKind.i64 1)) 3, type := 4, pos := "relate.go:63", after := #[{ on := 7, ground := Go.Ground.data }, { on := 5, ground := Go.Ground.guard }], guard := some (5, false) }) (v := ?v28) rfl (by kernel_rfl) (by kernel_rfl) (by kernel_rfl) (fun _ _ _ h => h) (Or.inl ⟨by rfl, ?hy28⟩) hHeld ?rest28
  case hy28 => (intro w hSw; (try dsimp only at hSw); go_simp; (first | done | with_reducible rfl))
  try simp only [Act.put, List.setIfInBounds_toArray, List.set_cons_zero, List.set_cons_succ]
  refine wpAnyH_take (i := 9) (oi := { dst := some 51, op := Go.Op.pick (Go.Operand.tmp 47) (Go.Operand.const (Go.Value.bool true)) (Go.Operand.tmp 50), type := 4, pos := "relate.go:63", after := #[{ on := 5, ground := Go.Ground.data }, { on := 8, ground := Go.Ground.data }], guard := none }) (v := ?v29) rfl (by kernel_rfl) (by kernel_rfl) (by kernel_rfl) (fun _ _ _ h => h) (Or.inl ⟨by rfl, ?hy29⟩) hHeld ?rest29
  case hy29 => (intro w hSw; (try dsimp only at hSw); go_simp; (first | done | with_reducible rfl))
  try simp only [Act.put, List.setIfInBounds_toArray, List.set_cons_zero, List.set_cons_succ]
  refine wpAnyH_done (by kernel_rfl) ?_ _
  go_wp2_with (refine loadsV (B := B4) (by rfl) rfl rfl LB4 ?_)
  refine (sp _ E).mono ?_
  rintro e w62 ⟨q1, rfl, hq, x⟩
  have BP := hq.now
  have Fq1 := BP.is.flat
  clear hq
  have z30 := x.size
  replace E := E.trans x
  replace LB4 := LB4.ext x
  replace LB5 := LB5.ext x
  replace LB6 := LB6.ext x
  replace RB6 := RB6.ext x
  clear x
  have TB10 : True := trivial
  have TG32 : True := trivial
  go_wp2_with (first | (clear TB10; refine allocsB rfl rfl ?_; intro B10 w10 bB10 cB10 XB10 LB10 RB10; have z31 := XB10.size; replace E := E.trans XB10; replace LB4 := LB4.ext XB10; replace LB5 := LB5.ext XB10; replace LB6 := LB6.ext XB10; replace RB6 := RB6.ext XB10; replace BP := BP.ext XB10; clear LB10) | (clear TG32; have hRl := (RB10).lt (Nat.zero_lt_succ _); refine storesB (B := B10) rfl rfl rfl (v := q1) rfl RB10 Fq1 ?_; intro s32 G32 LB10 RQ; have z33 := G32.size; replace E := grown_ext E G32 (by omega); replace LB4 := LB4.grown G32 (by omega); replace LB5 := LB5.grown G32 (by omega); replace LB6 := LB6.grown G32 (by omega); replace RB6 := RB6.grown G32 (by omega); replace BP := BP.grown G32 (by first | omega | (dsimp only [New]; omega)); clear RB10; have RB10 := RQ; clear RQ hRl; clear LB10 RB10) | (refine loadsV (B := B5) (by rfl) rfl rfl LB5 ?_))
  refine (sq _ E).mono ?_
  rintro e w68 ⟨rfl, x⟩
  have z34 := x.size
  replace E := E.trans x
  replace LB4 := LB4.ext x
  replace LB5 := LB5.ext x
  replace LB6 := LB6.ext x
  replace RB6 := RB6.ext x
  replace BP := BP.ext x
  clear x
  have TB11 : True := trivial
  have TG36 : True := trivial
  go_wp2_with (first | (clear TB11; refine allocsB rfl rfl ?_; intro B11 w11 bB11 cB11 XB11 LB11 RB11; have z35 := XB11.size; replace E := E.trans XB11; replace LB4 := LB4.ext XB11; replace LB5 := LB5.ext XB11; replace LB6 := LB6.ext XB11; replace RB6 := RB6.ext XB11; replace BP := BP.ext XB11; clear LB11) | (clear TG36; have hRl := (RB11).lt (Nat.zero_lt_succ _); refine storesB (B := B11) rfl rfl rfl (v := zeroBits) rfl RB11 zeroBits_flat ?_; intro s36 G36 LB11 RQ; have z37 := G36.size; replace E := grown_ext E G36 (by omega); replace LB4 := LB4.grown G36 (by omega); replace LB5 := LB5.grown G36 (by omega); replace LB6 := LB6.grown G36 (by omega); replace RB6 := RB6.grown G36 (by omega); replace BP := BP.grown G36 (by first | omega | (dsimp only [New]; omega)); clear RB11; have RB11 := RQ; clear RQ hRl; clear LB11 RB11) | (refine loadsV (B := B4) (by rfl) rfl rfl LB4 ?_) | (refine loadsV (B := B5) (by rfl) rfl rfl LB5 ?_))
  clear LB4 LB5
  refine (cn _ E).mono ?_
  rintro e w89 ⟨p, rfl, hq, x⟩
  have NP := hq.now
  have Fp := NP.is.flat
  clear hq
  have z38 := x.size
  replace E := E.trans x
  replace LB6 := LB6.ext x
  replace RB6 := RB6.ext x
  replace BP := BP.ext x
  clear x
  have TG39 : True := trivial
  go_wp2_with (clear TG39; have hRl := (RB6).lt (Nat.zero_lt_succ _); refine storesV (B := B6) rfl rfl rfl (v := p) rfl RB6 Fp ?_; clear LB6; intro s39 G39 LB6 RQ; have z40 := G39.size; replace E := grown_ext E G39 (by omega); replace BP := BP.grown G39 (by first | omega | (dsimp only [New]; omega)); replace NP := NP.grown G39 (by first | omega | (dsimp only [New]; omega)); clear RB6; have RB6 := RQ; clear RQ hRl; clear RB6)
  refine bodyPost_ret (results_lay2 rfl rfl rfl (ldV LB6)) rfl ?_
  exact ⟨p, rfl, NP.mono (fun i hi h => by dsimp only [New] at *; omega), E⟩
theorem rapp_bits (hf : 11 ≤ f ∧ f ≤ 16) (m n : Int) (ca : ∀ w', Ext w w' → Calls Try.prog 30 #[v] w' fun e w2 => e = .returned (.int .i64 m) ∧ Ext w' w2) (cb : ∀ w', Ext w w' → Calls Try.prog 30 #[u] w' fun e w2 => e = .returned (.int .i64 n) ∧ Ext w' w2) (hl : lenOk m n = true) (N : Nat) (hN : lenV m n = (N : Int)) (da : ∀ w', Ext w w' → Calls Try.prog 56 #[v] w' fun e w2 => e = .returned (.int .i64 0) ∧ Ext w' w2) (db : ∀ w', Ext w w' → Calls Try.prog 56 #[u] w' fun e w2 => e = .returned (.int .i64 0) ∧ Ext w' w2) (x y : List Bool) (hxy : x.length = y.length) (sp : ∀ w', Ext w w' → Calls Try.prog 79 #[v, .int .i64 (N : Int)] w' fun e w2 => ∃ q, e = .returned (.tuple #[q, .bool true]) ∧ BitS w2 q x (fun i => i < w.heap.size ∨ New w'.heap.size i) ∧ Ext w' w2) (sq : ∀ w', Ext w w' → Calls Try.prog 79 #[u, .int .i64 (N : Int)] w' fun e w2 => ∃ q, e = .returned (.tuple #[q, .bool true]) ∧ BitS w2 q y (fun i => i < w.heap.size ∨ New w'.heap.size i) ∧ Ext w' w2) (hF : Flat 8 v) (hG : Flat 8 u) :
    Calls Try.prog 49 #[.int .i64 f, v, u] w fun e w' => ∃ p, e = .returned (.tuple #[p, .int .i64 0]) ∧ VecS w' p (VD.bits (ttL (tblR f) x y)) (New w.heap.size) ∧ Ext w w' := by
  have E := Ext.refl w
  obtain ⟨h1, h2⟩ := hf
  have cl : ∀ w', Calls Try.prog 71 #[.int .i64 m, .int .i64 n] w' fun e w2 => e = .returned (.tuple #[.int .i64 (lenV m n), .bool true]) ∧ Ext w' w2 := fun w' => (length_any m n w').mono fun e w2 h => ⟨by rw [h.1, hl], h.2 ▸ Ext.refl _⟩
  rw [hN] at cl
  clear hl hN
  have ct : ∀ w', Calls Try.prog 80 #[.int .i64 f] w' fun e w2 => e = .returned (.int .u8 (tblR f : Int)) ∧ Ext w' w2 := fun w' => (rtable_any f w').mono fun e w2 h => ⟨h.1, h.2 ▸ Ext.refl _⟩
  have cv := fun p q w hp hq => truth_yes (tblR f) (tblR_lt f) p q x y w hp hq hxy
  clear hxy
  generalize ttL (tblR f) x y = R at *
  generalize (tblR f : Int) = t at *
  go_enter Try.func49, Try.ntmps49
  have TB4 : True := trivial
  have TB5 : True := trivial
  have TB6 : True := trivial
  go_wp2_with (first | (clear TB4; refine boxsV (v := v) rfl rfl rfl hF ?_; intro B4 w4 bB4 cB4 XB4 LB4 RB4; have z1 := XB4.size; replace E := E.trans XB4; clear RB4) | (clear TB5; refine boxsV (v := u) rfl rfl rfl hG ?_; intro B5 w5 bB5 cB5 XB5 LB5 RB5; have z2 := XB5.size; replace E := E.trans XB5; replace LB4 := LB4.ext XB5; clear RB5) | (clear TB6; refine allocsV rfl rfl ?_; intro B6 w6 bB6 cB6 XB6 LB6 RB6; have z3 := XB6.size; replace E := E.trans XB6; replace LB4 := LB4.ext XB6; replace LB5 := LB5.ext XB6))
  try simp only [Act.put, List.setIfInBounds_toArray, List.set_cons_zero, List.set_cons_succ]
  have hq4 : w6.heap.size ≤ w6.drew.heap.size := Nat.le_refl _
  have z5 := (Ext.refl w6).drew.size
  replace E := E.trans (Ext.refl w6).drew
  replace LB4 := LB4.ext (Ext.refl w6).drew
  replace LB5 := LB5.ext (Ext.refl w6).drew
  replace LB6 := LB6.ext (Ext.refl w6).drew
  replace RB6 := RB6.ext (Ext.refl w6).drew
  refine wp_region_held_drew (S := (fun w' => Lay 8 w' B4 v ∧ Lay 8 w' B5 u)) (by kernel_rfl) ⟨LB4, LB5⟩ (fun hHeld => ?_)
  refine wpAnyH_take (i := 0) (oi := { dst := some 23, op := Go.Op.load 34 (Go.Operand.tmp 4), type := 34, pos := "relate.go:56", after := #[], guard := none }) (v := v) rfl (by kernel_rfl) (by kernel_rfl) (by kernel_rfl) (fun _ _ _ h => h) (yieldV (by rfl) rfl rfl fun w' hx => hx.1) hHeld ?_
  try simp only [Act.put, List.setIfInBounds_toArray, List.set_cons_zero, List.set_cons_succ]
  refine wpAnyH_take (i := 2) (oi := { dst := some 25, op := Go.Op.load 34 (Go.Operand.tmp 5), type := 34, pos := "relate.go:56", after := #[], guard := none }) (v := u) rfl (by kernel_rfl) (by kernel_rfl) (by kernel_rfl) (fun _ _ _ h => h) (yieldV (by rfl) rfl rfl fun w' hx => hx.2) hHeld ?_
  try simp only [Act.put, List.setIfInBounds_toArray, List.set_cons_zero, List.set_cons_succ]
  refine wpAnyH_ready (rs := [1]) (by kernel_rfl) (by simp) ?_
  refine AllReadyH.cons (o := { dst := some 24, op := Go.Op.call { callee := Go.Callee.value (Go.Operand.func 30), args := #[Go.Operand.tmp 23], argTypes := #[34] }, type := 3, pos := "relate.go:56", after := #[{ on := 0, ground := Go.Ground.data }], guard := none }) rfl (fun K hK => ?_) (AllReadyH.nil)
  go_simp
  refine (ca _ E).mono ?_
  rintro e w24 ⟨rfl, x⟩
  have z8 := x.size
  replace E := E.trans x
  replace LB4 := LB4.ext x
  replace LB5 := LB5.ext x
  replace LB6 := LB6.ext x
  replace RB6 := RB6.ext x
  clear x
  clear hHeld
  have hHeld := And.intro LB4 (LB5)
  refine hK.out _ _ hHeld (fun _ => ?_)
  clear hK K
  try simp only [Act.put, List.setIfInBounds_toArray, List.set_cons_zero, List.set_cons_succ]
  refine wpAnyH_ready (rs := [3]) (by kernel_rfl) (by simp) ?_
  refine AllReadyH.cons (o := { dst := some 26, op := Go.Op.call { callee := Go.Callee.value (Go.Operand.func 30), args := #[Go.Operand.tmp 25], argTypes := #[34] }, type := 3, pos := "relate.go:56", after := #[{ on := 2, ground := Go.Ground.data }, { on := 1, ground := Go.Ground.chain }], guard := none }) rfl (fun K hK => ?_) (AllReadyH.nil)
  go_simp
  refine (cb _ E).mono ?_
  rintro e w26 ⟨rfl, x⟩
  have z9 := x.size
  replace E := E.trans x
  replace LB4 := LB4.ext x
  replace LB5 := LB5.ext x
  replace LB6 := LB6.ext x
  replace RB6 := RB6.ext x
  clear x
  clear hHeld
  have hHeld := And.intro LB4 (LB5)
  refine hK.out _ _ hHeld (fun _ => ?_)
  clear hK K
  try simp only [Act.put, List.setIfInBounds_toArray, List.set_cons_zero, List.set_cons_succ]
  refine wpAnyH_ready (rs := [4]) (by kernel_rfl) (by simp) ?_
  refine AllReadyH.cons (o := { dst := some 27, op := Go.Op.call { callee := Go.Callee.value (Go.Operand.func 71), args := #[Go.Operand.tmp 24, Go.Operand.tmp 26], argTypes := #[3, 3] }, type := 110, pos := "relate.go:56", after := #[{ on := 1, ground := Go.Ground.data }, { on := 3, ground := Go.Ground.data }, { on := 3, ground := Go.Ground.chain }], guard := none }) rfl (fun K hK => ?_) (AllReadyH.nil)
  go_simp
  refine (cl _).mono ?_
  rintro e w27 ⟨rfl, x⟩
  have z10 := x.size
  replace E := E.trans x
  replace LB4 := LB4.ext x
  replace LB5 := LB5.ext x
  replace LB6 := LB6.ext x
  replace RB6 := RB6.ext x
  clear x
  clear hHeld
  have hHeld := And.intro LB4 (LB5)
  refine hK.out _ _ hHeld (fun _ => ?_)
  clear hK K
  try simp only [Act.put, List.setIfInBounds_toArray, List.set_cons_zero, List.set_cons_succ]
  refine wpAnyH_take (i := 5) (oi := { dst := some 22, op := Go.Op.move (Go.Operand.tmp 27), type := 110, pos := "relate.go:56", after := #[{ on := 4, ground := Go.Ground.data }], guard := none }) (v := ?v11) rfl (by kernel_rfl) (by kernel_rfl) (by kernel_rfl) (fun _ _ _ h => h) (Or.inl ⟨by rfl, ?hy11⟩) hHeld ?rest11
  case hy11 => (intro w hSw; (try dsimp only at hSw); go_simp; (first | done | with_reducible rfl))
  try simp only [Act.put, List.setIfInBounds_toArray, List.set_cons_zero, List.set_cons_succ]
  refine wpAnyH_take (i := 6) (oi := { dst := some 28, op := Go.Op.extract (Go.Operand.tmp 22) 0, type := 3, pos := "relate.go:56", after := #[{ on := 5, ground := Go.Ground.data }], guard := none }) (v := ?v12) rfl (by kernel_rfl) (by kernel_rfl) (by kernel_rfl) (fun _ _ _ h => h) (Or.inl ⟨by rfl, ?hy12⟩) hHeld ?rest12
  case hy12 => (intro w hSw; (try dsimp only at hSw); go_simp; (first | done | with_reducible rfl))
  try simp only [Act.put, List.setIfInBounds_toArray, List.set_cons_zero, List.set_cons_succ]
  refine wpAnyH_take (i := 7) (oi := { dst := some 29, op := Go.Op.extract (Go.Operand.tmp 22) 1, type := 4, pos := "relate.go:56", after := #[{ on := 5, ground := Go.Ground.data }, { on := 8, ground := Go.Ground.gcOnly Go.Departure.lateStores }], guard := none }) (v := ?v13) rfl (by kernel_rfl) (by kernel_rfl) (by kernel_rfl) (fun _ _ _ h => h) (Or.inl ⟨by rfl, ?hy13⟩) hHeld ?rest13
  case hy13 => (intro w hSw; (try dsimp only at hSw); go_simp; (first | done | with_reducible rfl))
  try simp only [Act.put, List.setIfInBounds_toArray, List.set_cons_zero, List.set_cons_succ]
  refine wpAnyH_take (i := 8) (oi := { dst := some 8, op := Go.Op.assign (Go.Operand.tmp 28), type := 3, pos := "relate.go:56", after := #[{ on := 6, ground := Go.Ground.data }, { on := 4, ground := Go.Ground.chain }, { on := 0, ground := Go.Ground.phase }, { on := 1, ground := Go.Ground.phase }, { on := 2, ground := Go.Ground.phase }, { on := 3, ground := Go.Ground.phase }, { on := 4, ground := Go.Ground.phase }, { on := 5, ground := Go.Ground.phase }, { on := 6, ground := Go.Ground.phase }, { on := 7, ground := Go.Ground.textOnly Go.Departure.lateStores }], guard := none }) (v := ?v14) rfl (by kernel_rfl) (by kernel_rfl) (by kernel_rfl) (fun _ _ _ h => h) (Or.inl ⟨by rfl, ?hy14⟩) hHeld ?rest14
  case hy14 => (intro w hSw; (try dsimp only at hSw); go_simp; (first | done | with_reducible rfl))
  try simp only [Act.put, List.setIfInBounds_toArray, List.set_cons_zero, List.set_cons_succ]
  refine wpAnyH_take (i := 9) (oi := { dst := some 9, op := Go.Op.assign (Go.Operand.tmp 29), type := 4, pos := "relate.go:56", after := #[{ on := 7, ground := Go.Ground.data }, { on := 8, ground := Go.Ground.chain }, { on := 0, ground := Go.Ground.phase }, { on := 1, ground := Go.Ground.phase }, { on := 2, ground := Go.Ground.phase }, { on := 3, ground := Go.Ground.phase }, { on := 4, ground := Go.Ground.phase }, { on := 5, ground := Go.Ground.phase }, { on := 6, ground := Go.Ground.phase }, { on := 7, ground := Go.Ground.phase }, { on := 8, ground := Go.Ground.phase }], guard := none }) (v := ?v15) rfl (by kernel_rfl) (by kernel_rfl) (by kernel_rfl) (fun _ _ _ h => h) (Or.inl ⟨by rfl, ?hy15⟩) hHeld ?rest15
  case hy15 => (intro w hSw; (try dsimp only at hSw); go_simp; (first | done | with_reducible rfl))
  try simp only [Act.put, List.setIfInBounds_toArray, List.set_cons_zero, List.set_cons_succ]
  refine wpAnyH_done (by kernel_rfl) ?_ _
  go_wp2_with (refine loadsV (B := B4) (by rfl) rfl rfl LB4 ?_)
  refine (da _ E).mono ?_
  rintro e w34 ⟨rfl, x⟩
  have z16 := x.size
  replace E := E.trans x
  replace LB4 := LB4.ext x
  replace LB5 := LB5.ext x
  replace LB6 := LB6.ext x
  replace RB6 := RB6.ext x
  clear x
  go_wp2_with (refine loadgV (B := B5) (by rfl) rfl rfl LB5 ?_)
  refine (db _ E).mono ?_
  rintro e w38 ⟨rfl, x⟩
  have z17 := x.size
  replace E := E.trans x
  replace LB4 := LB4.ext x
  replace LB5 := LB5.ext x
  replace LB6 := LB6.ext x
  replace RB6 := RB6.ext x
  clear x
  go_wp2_with fail
  try simp only [Act.put, List.setIfInBounds_toArray, List.set_cons_zero, List.set_cons_succ]
  have hq18 : w38.heap.size ≤ w38.drew.heap.size := Nat.le_refl _
  have z19 := (Ext.refl w38).drew.size
  replace E := E.trans (Ext.refl w38).drew
  replace LB4 := LB4.ext (Ext.refl w38).drew
  replace LB5 := LB5.ext (Ext.refl w38).drew
  replace LB6 := LB6.ext (Ext.refl w38).drew
  replace RB6 := RB6.ext (Ext.refl w38).drew
  refine wp_region_held_drew (S := (fun w' => Lay 8 w' B4 v ∧ Lay 8 w' B5 u)) (by kernel_rfl) ⟨LB4, LB5⟩ (fun hHeld => ?_)
  refine wpAnyH_take (i := 0) (oi := { dst := some 42, op := Go.Op.load 34 (Go.Operand.tmp 4), type := 34, pos := "relate.go:63", after := #[], guard := none }) (v := v) rfl (by kernel_rfl) (by kernel_rfl) (by kernel_rfl) (fun _ _ _ h => h) (yieldV (by rfl) rfl rfl fun w' hx => hx.1) hHeld ?_
  try simp only [Act.put, List.setIfInBounds_toArray, List.set_cons_zero, List.set_cons_succ]
  refine wpAnyH_take (i := 2) (oi := { dst := some 44, op := Go.Op.load 34 (Go.Operand.tmp 5), type := 34, pos := "relate.go:63", after := #[], guard := none }) (v := u) rfl (by kernel_rfl) (by kernel_rfl) (by kernel_rfl) (fun _ _ _ h => h) (yieldV (by rfl) rfl rfl fun w' hx => hx.2) hHeld ?_
  try simp only [Act.put, List.setIfInBounds_toArray, List.set_cons_zero, List.set_cons_succ]
  refine wpAnyH_ready (rs := [1]) (by kernel_rfl) (by simp) ?_
  refine AllReadyH.cons (o := { dst := some 43, op := Go.Op.call { callee := Go.Callee.value (Go.Operand.func 56), args := #[Go.Operand.tmp 42], argTypes := #[34] }, type := 3, pos := "relate.go:63", after := #[{ on := 0, ground := Go.Ground.data }], guard := none }) rfl (fun K hK => ?_) (AllReadyH.nil)
  go_simp
  refine (da _ E).mono ?_
  rintro e w43 ⟨rfl, x⟩
  have z22 := x.size
  replace E := E.trans x
  replace LB4 := LB4.ext x
  replace LB5 := LB5.ext x
  replace LB6 := LB6.ext x
  replace RB6 := RB6.ext x
  clear x
  clear hHeld
  have hHeld := And.intro LB4 (LB5)
  refine hK.out _ _ hHeld (fun _ => ?_)
  clear hK K
  try simp only [Act.put, List.setIfInBounds_toArray, List.set_cons_zero, List.set_cons_succ]
  refine wpAnyH_ready (rs := [3]) (by kernel_rfl) (by simp) ?_
  refine AllReadyH.cons (o := { dst := some 45, op := Go.Op.call { callee := Go.Callee.value (Go.Operand.func 56), args := #[Go.Operand.tmp 44], argTypes := #[34] }, type := 3, pos := "relate.go:63", after := #[{ on := 2, ground := Go.Ground.data }, { on := 1, ground := Go.Ground.chain }], guard := none }) rfl (fun K hK => ?_) (AllReadyH.nil)
  go_simp
  refine (db _ E).mono ?_
  rintro e w45 ⟨rfl, x⟩
  have z23 := x.size
  replace E := E.trans x
  replace LB4 := LB4.ext x
  replace LB5 := LB5.ext x
  replace LB6 := LB6.ext x
  replace RB6 := RB6.ext x
  clear x
  clear hHeld
  have hHeld := And.intro LB4 (LB5)
  refine hK.out _ _ hHeld (fun _ => ?_)
  clear hK K
  try simp only [Act.put, List.setIfInBounds_toArray, List.set_cons_zero, List.set_cons_succ]
  refine wpAnyH_take (i := 4) (oi := { dst := some 46, op := Go.Op.binOp Go.BinOp.neq 3 (Go.Operand.tmp 43) (Go.Operand.tmp 45) 3, type := 4, pos := "relate.go:63", after := #[{ on := 1, ground := Go.Ground.data }, { on := 3, ground := Go.Ground.data }], guard := none }) (v := ?v24) rfl (by kernel_rfl) (by kernel_rfl) (by kernel_rfl) (fun _ _ _ h => h) (Or.inl ⟨by rfl, ?hy24⟩) hHeld ?rest24
  case hy24 => (intro w hSw; (try dsimp only at hSw); go_simp; (first | done | with_reducible rfl))
  try simp only [Act.put, List.setIfInBounds_toArray, List.set_cons_zero, List.set_cons_succ]
  refine wpAnyH_take (i := 5) (oi := { dst := some 47, op := Go.Op.move (Go.Operand.tmp 46), type := 4, pos := "relate.go:63", after := #[{ on := 4, ground := Go.Ground.data }, { on := 3, ground := Go.Ground.chain }], guard := none }) (v := ?v25) rfl (by kernel_rfl) (by kernel_rfl) (by kernel_rfl) (fun _ _ _ h => h) (Or.inl ⟨by rfl, ?hy25⟩) hHeld ?rest25
  case hy25 => (intro w hSw; (try dsimp only at hSw); go_simp; (first | done | with_reducible rfl))
  try simp only [Act.put, List.setIfInBounds_toArray, List.set_cons_zero, List.set_cons_succ]
  refine wpAnyH_take (i := 6) (oi := { dst := some 48, op := Go.Op.load 34 (Go.Operand.tmp 4), type := 34, pos := "relate.go:63", after := #[{ on := 5, ground := Go.Ground.guard }], guard := some (5, false) }) (v := v) rfl (by kernel_rfl) (by kernel_rfl) (by kernel_rfl) (fun _ _ _ h => h) (yieldV (by rfl) rfl rfl fun w' hx => hx.1) hHeld ?_
  try simp only [Act.put, List.setIfInBounds_toArray, List.set_cons_zero, List.set_cons_succ]
  refine wpAnyH_ready (rs := [7]) (by kernel_rfl) (by simp) ?_
  refine AllReadyH.cons (o := { dst := some 49, op := Go.Op.call { callee := Go.Callee.value (Go.Operand.func 56), args := #[Go.Operand.tmp 48], argTypes := #[34] }, type := 3, pos := "relate.go:63", after := #[{ on := 6, ground := Go.Ground.data }, { on := 5, ground := Go.Ground.chain }, { on := 5, ground := Go.Ground.guard }], guard := some (5, false) }) rfl (fun K hK => ?_) (AllReadyH.nil)
  go_simp
  refine (da _ E).mono ?_
  rintro e w49 ⟨rfl, x⟩
  have z27 := x.size
  replace E := E.trans x
  replace LB4 := LB4.ext x
  replace LB5 := LB5.ext x
  replace LB6 := LB6.ext x
  replace RB6 := RB6.ext x
  clear x
  clear hHeld
  have hHeld := And.intro LB4 (LB5)
  refine hK.out _ _ hHeld (fun _ => ?_)
  clear hK K
  try simp only [Act.put, List.setIfInBounds_toArray, List.set_cons_zero, List.set_cons_succ]
  refine wpAnyH_take (i := 8) (oi := { dst := some 50, op := Go.Op.binOp Go.BinOp.eql 3 (Go.Operand.tmp 49) (Go.Operand.const (Go.Value.int Go.IntKind.i64 1)) 3, type := 4, pos := "relate.go:63", after := #[{ on := 7, ground := Go.Ground.data }, { on := 5, ground := Go.Ground.guard }], guard := some (5, false) }) (v := ?v28) rfl (by kernel_rfl) (by kernel_rfl) (by kernel_rfl) (fun _ _ _ h => h) (Or.inl ⟨by rfl, ?hy28⟩) hHeld ?rest28
  case hy28 => (intro w hSw; (try dsimp only at hSw); go_simp; (first | done | with_reducible rfl))
  try simp only [Act.put, List.setIfInBounds_toArray, List.set_cons_zero, List.set_cons_succ]
  refine wpAnyH_take (i := 9) (oi := { dst := some 51, op := Go.Op.pick (Go.Operand.tmp 47) (Go.Operand.const (Go.Value.bool true)) (Go.Operand.tmp 50), type := 4, pos := "relate.go:63", after := #[{ on := 5, ground := Go.Ground.data }, { on := 8, ground := Go.Ground.data }], guard := none }) (v := ?v29) rfl (by kernel_rfl) (by kernel_rfl) (by kernel_rfl) (fun _ _ _ h => h) (Or.inl ⟨by rfl, ?hy29⟩) hHeld ?rest29
  case hy29 => (intro w hSw; (try dsimp only at hSw); go_simp; (first | done | with_reducible rfl))
  try simp only [Act.put, List.setIfInBounds_toArray, List.set_cons_zero, List.set_cons_succ]
  refine wpAnyH_done (by kernel_rfl) ?_ _
  go_wp2_with (refine loadsV (B := B4) (by rfl) rfl rfl LB4 ?_)
  clear LB4
  refine (sp _ E).mono ?_
  rintro e w62 ⟨p, rfl, hq, x⟩
  have BP := hq.now
  have Fp := BP.is.flat
  clear hq
  have z30 := x.size
  replace E := E.trans x
  replace LB5 := LB5.ext x
  replace LB6 := LB6.ext x
  replace RB6 := RB6.ext x
  clear x
  have TB10 : True := trivial
  have TG32 : True := trivial
  go_wp2_with (first | (clear TB10; refine allocsB rfl rfl ?_; intro B10 w10 bB10 cB10 XB10 LB10 RB10; have z31 := XB10.size; replace E := E.trans XB10; replace LB5 := LB5.ext XB10; replace LB6 := LB6.ext XB10; replace RB6 := RB6.ext XB10; replace BP := BP.ext XB10) | (clear TG32; have hRl := (RB10).lt (Nat.zero_lt_succ _); refine storesB (B := B10) rfl rfl rfl (v := p) rfl RB10 Fp ?_; clear LB10; intro s32 G32 LB10 RQ; have z33 := G32.size; replace E := grown_ext E G32 (by omega); replace LB5 := LB5.grown G32 (by omega); replace LB6 := LB6.grown G32 (by omega); replace RB6 := RB6.grown G32 (by omega); replace BP := BP.grown G32 (by first | omega | (dsimp only [New]; omega)); clear RB10; have RB10 := RQ; clear RQ hRl; clear RB10) | (refine loadsV (B := B5) (by rfl) rfl rfl LB5 ?_))
  clear LB5
  refine (sq _ E).mono ?_
  rintro e w68 ⟨q, rfl, hq, x⟩
  have BQ := hq.now
  have Fq := BQ.is.flat
  clear hq
  have z34 := x.size
  replace E := E.trans x
  replace LB6 := LB6.ext x
  replace RB6 := RB6.ext x
  replace BP := BP.ext x
  replace LB10 := LB10.ext x
  clear x
  have TB11 : True := trivial
  have TG36 : True := trivial
  go_wp2_with (first | (clear TB11; refine allocsB rfl rfl ?_; intro B11 w11 bB11 cB11 XB11 LB11 RB11; have z35 := XB11.size; replace E := E.trans XB11; replace LB6 := LB6.ext XB11; replace RB6 := RB6.ext XB11; replace BP := BP.ext XB11; replace LB10 := LB10.ext XB11; replace BQ := BQ.ext XB11) | (clear TG36; have hRl := (RB11).lt (Nat.zero_lt_succ _); refine storesB (B := B11) rfl rfl rfl (v := q) rfl RB11 Fq ?_; clear LB11; intro s36 G36 LB11 RQ; have z37 := G36.size; replace E := grown_ext E G36 (by omega); replace LB6 := LB6.grown G36 (by omega); replace RB6 := RB6.grown G36 (by omega); replace BP := BP.grown G36 (by first | omega | (dsimp only [New]; omega)); replace LB10 := LB10.grown G36 (by omega); replace BQ := BQ.grown G36 (by first | omega | (dsimp only [New]; omega)); clear RB11; have RB11 := RQ; clear RQ hRl; clear RB11))
  try simp only [Act.put, List.setIfInBounds_toArray, List.set_cons_zero, List.set_cons_succ]
  have hq38 : s36.heap.size ≤ s36.drew.heap.size := Nat.le_refl _
  have z39 := (Ext.refl s36).drew.size
  replace E := E.trans (Ext.refl s36).drew
  replace LB6 := LB6.ext (Ext.refl s36).drew
  replace RB6 := RB6.ext (Ext.refl s36).drew
  replace BP := BP.ext (Ext.refl s36).drew
  replace LB10 := LB10.ext (Ext.refl s36).drew
  replace BQ := BQ.ext (Ext.refl s36).drew
  replace LB11 := LB11.ext (Ext.refl s36).drew
  refine wp_region_held_drew (S := (fun w' => Lay 2 w' B10 p ∧ Lay 2 w' B11 q)) (by kernel_rfl) ⟨LB10, LB11⟩ (fun hHeld => ?_)
  refine wpAnyH_take (i := 0) (oi := { dst := some 76, op := Go.Op.move (Go.Operand.tmp 0), type := 3, pos := "relate.go:69", after := #[], guard := none }) (v := ?v40) rfl (by kernel_rfl) (by kernel_rfl) (by kernel_rfl) (fun _ _ _ h => h) (Or.inl ⟨by rfl, ?hy40⟩) hHeld ?rest40
  case hy40 => (intro w hSw; (try dsimp only at hSw); go_simp; (first | done | with_reducible rfl))
  try simp only [Act.put, List.setIfInBounds_toArray, List.set_cons_zero, List.set_cons_succ]
  refine wpAnyH_take (i := 2) (oi := { dst := some 78, op := Go.Op.load 28 (Go.Operand.tmp 10), type := 28, pos := "relate.go:69", after := #[], guard := none }) (v := p) rfl (by kernel_rfl) (by kernel_rfl) (by kernel_rfl) (fun _ _ _ h => h) (yieldB (by rfl) rfl rfl fun w' hx => hx.1) hHeld ?_
  try simp only [Act.put, List.setIfInBounds_toArray, List.set_cons_zero, List.set_cons_succ]
  refine wpAnyH_take (i := 3) (oi := { dst := some 79, op := Go.Op.load 28 (Go.Operand.tmp 11), type := 28, pos := "relate.go:69", after := #[], guard := none }) (v := q) rfl (by kernel_rfl) (by kernel_rfl) (by kernel_rfl) (fun _ _ _ h => h) (yieldB (by rfl) rfl rfl fun w' hx => hx.2) hHeld ?_
  try simp only [Act.put, List.setIfInBounds_toArray, List.set_cons_zero, List.set_cons_succ]
  refine wpAnyH_ready (rs := [1, 8]) (by kernel_rfl) (by simp) ?_
  refine AllReadyH.cons (o := { dst := some 77, op := Go.Op.call { callee := Go.Callee.value (Go.Operand.func 80), args := #[Go.Operand.tmp 76], argTypes := #[3] }, type := 5, pos := "relate.go:69", after := #[{ on := 0, ground := Go.Ground.data }], guard := none }) rfl (fun K hK => ?_) (AllReadyH.cons (o := { dst := some 13, op := Go.Op.alloc 28, type := 0, pos := "relate.go:69", after := #[], guard := none }) rfl (fun K hK => ?_) (AllReadyH.nil))
  · go_simp
    refine (ct _).mono ?_
    rintro e w77 ⟨rfl, x⟩
    have z43 := x.size
    replace E := E.trans x
    replace LB6 := LB6.ext x
    replace RB6 := RB6.ext x
    replace BP := BP.ext x
    replace LB10 := LB10.ext x
    replace BQ := BQ.ext x
    replace LB11 := LB11.ext x
    clear x
    clear hHeld
    have hHeld := And.intro LB10 (LB11)
    refine hK.out _ _ hHeld (fun _ => ?_)
    clear hK K
    try simp only [Act.put, List.setIfInBounds_toArray, List.set_cons_zero, List.set_cons_succ]
    refine wpAnyH_ready (rs := [4, 8]) (by kernel_rfl) (by simp) ?_
    refine AllReadyH.cons (o := { dst := some 80, op := Go.Op.call { callee := Go.Callee.value (Go.Operand.func 74), args := #[Go.Operand.tmp 77, Go.Operand.tmp 78, Go.Operand.tmp 79], argTypes := #[5, 28, 28] }, type := 65, pos := "relate.go:69", after := #[{ on := 1, ground := Go.Ground.data }, { on := 2, ground := Go.Ground.data }, { on := 3, ground := Go.Ground.data }, { on := 1, ground := Go.Ground.chain }], guard := none }) rfl (fun K hK => ?_) (AllReadyH.cons (o := { dst := some 13, op := Go.Op.alloc 28, type := 0, pos := "relate.go:69", after := #[], guard := none }) rfl (fun K hK => ?_) (AllReadyH.nil))
    · go_simp
      refine (cv p q _ BP.is BQ.is).mono ?_
      rintro e w80 ⟨r, rfl, hq, x⟩
      clear BP BQ
      have BR := hq.bs.now
      have Fr := BR.is.flat
      clear hq
      have z44 := x.size
      replace E := E.trans x
      replace LB6 := LB6.ext x
      replace RB6 := RB6.ext x
      replace LB10 := LB10.ext x
      replace LB11 := LB11.ext x
      clear x
      clear hHeld
      have hHeld := And.intro LB10 (LB11)
      refine hK.out _ _ hHeld (fun _ => ?_)
      clear hK K
      try simp only [Act.put, List.setIfInBounds_toArray, List.set_cons_zero, List.set_cons_succ]
      refine wpAnyH_take (i := 5) (oi := { dst := some 75, op := Go.Op.move (Go.Operand.tmp 80), type := 65, pos := "relate.go:69", after := #[{ on := 4, ground := Go.Ground.data }], guard := none }) (v := ?v45) rfl (by kernel_rfl) (by kernel_rfl) (by kernel_rfl) (fun _ _ _ h => h) (Or.inl ⟨by rfl, ?hy45⟩) hHeld ?rest45
      case hy45 => (intro w hSw; (try dsimp only at hSw); go_simp; (first | done | with_reducible rfl))
      try simp only [Act.put, List.setIfInBounds_toArray, List.set_cons_zero, List.set_cons_succ]
      refine wpAnyH_take (i := 6) (oi := { dst := some 81, op := Go.Op.extract (Go.Operand.tmp 75) 0, type := 28, pos := "relate.go:69", after := #[{ on := 5, ground := Go.Ground.data }], guard := none }) (v := ?v46) rfl (by kernel_rfl) (by kernel_rfl) (by kernel_rfl) (fun _ _ _ h => h) (Or.inl ⟨by rfl, ?hy46⟩) hHeld ?rest46
      case hy46 => (intro w hSw; (try dsimp only at hSw); go_simp; (first | done | with_reducible rfl))
      try simp only [Act.put, List.setIfInBounds_toArray, List.set_cons_zero, List.set_cons_succ]
      refine wpAnyH_take (i := 7) (oi := { dst := some 82, op := Go.Op.extract (Go.Operand.tmp 75) 1, type := 4, pos := "relate.go:69", after := #[{ on := 5, ground := Go.Ground.data }, { on := 9, ground := Go.Ground.gcOnly Go.Departure.lateStores }], guard := none }) (v := ?v47) rfl (by kernel_rfl) (by kernel_rfl) (by kernel_rfl) (fun _ _ _ h => h) (Or.inl ⟨by rfl, ?hy47⟩) hHeld ?rest47
      case hy47 => (intro w hSw; (try dsimp only at hSw); go_simp; (first | done | with_reducible rfl))
      try simp only [Act.put, List.setIfInBounds_toArray, List.set_cons_zero, List.set_cons_succ]
      refine wpAnyH_ready (rs := [8]) (by kernel_rfl) (by simp) ?_
      refine AllReadyH.cons (o := { dst := some 13, op := Go.Op.alloc 28, type := 0, pos := "relate.go:69", after := #[], guard := none }) rfl (fun K hK => ?_) (AllReadyH.nil)
      rw [if_pos (by rfl)]
      refine allocB rfl ?_
      intro B13 w13 bB13 cB13 XB13 LB13 RB13
      have z48 := XB13.size
      replace E := E.trans XB13
      replace LB6 := LB6.ext XB13
      replace RB6 := RB6.ext XB13
      replace LB10 := LB10.ext XB13
      replace LB11 := LB11.ext XB13
      replace BR := BR.ext XB13
      clear hHeld
      have hHeld := And.intro LB10 (LB11)
      refine hK.out _ _ hHeld (fun _ => ?_)
      clear hK K
      try simp only [Act.put, List.setIfInBounds_toArray, List.set_cons_zero, List.set_cons_succ]
      refine wpAnyH_ready (rs := [9]) (by kernel_rfl) (by simp) ?_
      refine AllReadyH.cons (o := { dst := none, op := Go.Op.store 28 (Go.Operand.tmp 13) (Go.Operand.tmp 81), type := 0, pos := "relate.go:69", after := #[{ on := 8, ground := Go.Ground.data }, { on := 6, ground := Go.Ground.data }, { on := 4, ground := Go.Ground.chain }, { on := 0, ground := Go.Ground.phase }, { on := 1, ground := Go.Ground.phase }, { on := 2, ground := Go.Ground.phase }, { on := 3, ground := Go.Ground.phase }, { on := 4, ground := Go.Ground.phase }, { on := 5, ground := Go.Ground.phase }, { on := 6, ground := Go.Ground.phase }, { on := 7, ground := Go.Ground.textOnly Go.Departure.lateStores }, { on := 8, ground := Go.Ground.phase }], guard := none }) rfl (fun K hK => ?_) (AllReadyH.nil)
      rw [if_pos (by rfl)]
      have hRl := (RB13).lt (Nat.zero_lt_succ _)
      refine storeB (by rfl) (by rfl) (v := r) (by rfl) RB13 Fr ?_
      clear LB13
      intro s49 G49 LB13 RQ
      have z50 := G49.size
      replace E := grown_ext E G49 (by omega)
      replace LB6 := LB6.grown G49 (by omega)
      replace RB6 := RB6.grown G49 (by omega)
      replace LB10 := LB10.grown G49 (by omega)
      replace LB11 := LB11.grown G49 (by omega)
      replace BR := BR.grown G49 (by first | omega | (dsimp only [New]; omega))
      clear RB13
      have RB13 := RQ
      clear RQ hRl G49
      clear hHeld
      have hHeld := And.intro LB10 (LB11)
      refine hK.out _ _ hHeld (fun _ => ?_)
      clear hK K
      try simp only [Act.put]
      refine wpAnyH_take (i := 10) (oi := { dst := some 14, op := Go.Op.assign (Go.Operand.tmp 82), type := 4, pos := "relate.go:69", after := #[{ on := 7, ground := Go.Ground.data }, { on := 9, ground := Go.Ground.chain }, { on := 0, ground := Go.Ground.phase }, { on := 1, ground := Go.Ground.phase }, { on := 2, ground := Go.Ground.phase }, { on := 3, ground := Go.Ground.phase }, { on := 4, ground := Go.Ground.phase }, { on := 5, ground := Go.Ground.phase }, { on := 6, ground := Go.Ground.phase }, { on := 7, ground := Go.Ground.phase }, { on := 8, ground := Go.Ground.phase }, { on := 9, ground := Go.Ground.phase }], guard := none }) (v := ?v51) rfl (by kernel_rfl) (by kernel_rfl) (by kernel_rfl) (fun _ _ _ h => h) (Or.inl ⟨by rfl, ?hy51⟩) hHeld ?rest51
      case hy51 => (intro w hSw; (try dsimp only at hSw); go_simp; (first | done | with_reducible rfl))
      try simp only [Act.put, List.setIfInBounds_toArray, List.set_cons_zero, List.set_cons_succ]
      refine wpAnyH_done (by kernel_rfl) ?_ _
      go_wp2_with (refine loadsB (B := B13) (by rfl) rfl rfl LB13 ?_)
      clear LB10 LB11 LB13 RB13
      refine (VecS.bits_of r R _ BR.is).mono ?_
      rintro e w84 ⟨o, rfl, hq, x⟩
      have VO := hq _ BR
      have Fo := VO.is.flat
      clear hq
      have z52 := x.size
      replace E := E.trans x
      replace LB6 := LB6.ext x
      replace RB6 := RB6.ext x
      replace BR := BR.ext x
      clear x
      have TG53 : True := trivial
      go_wp2_with (clear TG53; have hRl := (RB6).lt (Nat.zero_lt_succ _); refine storesV (B := B6) rfl rfl rfl (v := o) rfl RB6 Fo ?_; clear LB6; intro s53 G53 LB6 RQ; have z54 := G53.size; replace E := grown_ext E G53 (by omega); replace BR := BR.grown G53 (by first | omega | (dsimp only [New]; omega)); replace VO := VO.grown G53 (by first | omega | (dsimp only [New]; omega)); clear RB6; have RB6 := RQ; clear RQ hRl; clear RB6)
      refine bodyPost_ret (results_lay2 rfl rfl rfl (ldV LB6)) rfl ?_
      exact ⟨o, rfl, VO.mono (fun i hi h => by dsimp only [New] at *; omega), E⟩
    · rw [if_pos (by rfl)]
      refine allocB rfl ?_
      intro B13 w13 bB13 cB13 XB13 LB13 RB13
      have z55 := XB13.size
      replace E := E.trans XB13
      replace LB6 := LB6.ext XB13
      replace RB6 := RB6.ext XB13
      replace BP := BP.ext XB13
      replace LB10 := LB10.ext XB13
      replace BQ := BQ.ext XB13
      replace LB11 := LB11.ext XB13
      clear hHeld
      have hHeld := And.intro LB10 (LB11)
      refine hK.out _ _ hHeld (fun _ => ?_)
      clear hK K
      try simp only [Act.put, List.setIfInBounds_toArray, List.set_cons_zero, List.set_cons_succ]
      refine wpAnyH_ready (rs := [4]) (by kernel_rfl) (by simp) ?_
      refine AllReadyH.cons (o := { dst := some 80, op := Go.Op.call { callee := Go.Callee.value (Go.Operand.func 74), args := #[Go.Operand.tmp 77, Go.Operand.tmp 78, Go.Operand.tmp 79], argTypes := #[5, 28, 28] }, type := 65, pos := "relate.go:69", after := #[{ on := 1, ground := Go.Ground.data }, { on := 2, ground := Go.Ground.data }, { on := 3, ground := Go.Ground.data }, { on := 1, ground := Go.Ground.chain }], guard := none }) rfl (fun K hK => ?_) (AllReadyH.nil)
      go_simp
      refine (cv p q _ BP.is BQ.is).mono ?_
      rintro e w80 ⟨r, rfl, hq, x⟩
      clear BP BQ
      have BR := hq.bs.now
      have Fr := BR.is.flat
      clear hq
      have z56 := x.size
      replace E := E.trans x
      replace LB6 := LB6.ext x
      replace RB6 := RB6.ext x
      replace LB10 := LB10.ext x
      replace LB11 := LB11.ext x
      replace LB13 := LB13.ext x
      replace RB13 := RB13.ext x
      clear x
      clear hHeld
      have hHeld := And.intro LB10 (LB11)
      refine hK.out _ _ hHeld (fun _ => ?_)
      clear hK K
      try simp only [Act.put, List.setIfInBounds_toArray, List.set_cons_zero, List.set_cons_succ]
      refine wpAnyH_take (i := 5) (oi := { dst := some 75, op := Go.Op.move (Go.Operand.tmp 80), type := 65, pos := "relate.go:69", after := #[{ on := 4, ground := Go.Ground.data }], guard := none }) (v := ?v57) rfl (by kernel_rfl) (by kernel_rfl) (by kernel_rfl) (fun _ _ _ h => h) (Or.inl ⟨by rfl, ?hy57⟩) hHeld ?rest57
      case hy57 => (intro w hSw; (try dsimp only at hSw); go_simp; (first | done | with_reducible rfl))
      try simp only [Act.put, List.setIfInBounds_toArray, List.set_cons_zero, List.set_cons_succ]
      refine wpAnyH_take (i := 6) (oi := { dst := some 81, op := Go.Op.extract (Go.Operand.tmp 75) 0, type := 28, pos := "relate.go:69", after := #[{ on := 5, ground := Go.Ground.data }], guard := none }) (v := ?v58) rfl (by kernel_rfl) (by kernel_rfl) (by kernel_rfl) (fun _ _ _ h => h) (Or.inl ⟨by rfl, ?hy58⟩) hHeld ?rest58
      case hy58 => (intro w hSw; (try dsimp only at hSw); go_simp; (first | done | with_reducible rfl))
      try simp only [Act.put, List.setIfInBounds_toArray, List.set_cons_zero, List.set_cons_succ]
      refine wpAnyH_take (i := 7) (oi := { dst := some 82, op := Go.Op.extract (Go.Operand.tmp 75) 1, type := 4, pos := "relate.go:69", after := #[{ on := 5, ground := Go.Ground.data }, { on := 9, ground := Go.Ground.gcOnly Go.Departure.lateStores }], guard := none }) (v := ?v59) rfl (by kernel_rfl) (by kernel_rfl) (by kernel_rfl) (fun _ _ _ h => h) (Or.inl ⟨by rfl, ?hy59⟩) hHeld ?rest59
      case hy59 => (intro w hSw; (try dsimp only at hSw); go_simp; (first | done | with_reducible rfl))
      try simp only [Act.put, List.setIfInBounds_toArray, List.set_cons_zero, List.set_cons_succ]
      refine wpAnyH_ready (rs := [9]) (by kernel_rfl) (by simp) ?_
      refine AllReadyH.cons (o := { dst := none, op := Go.Op.store 28 (Go.Operand.tmp 13) (Go.Operand.tmp 81), type := 0, pos := "relate.go:69", after := #[{ on := 8, ground := Go.Ground.data }, { on := 6, ground := Go.Ground.data }, { on := 4, ground := Go.Ground.chain }, { on := 0, ground := Go.Ground.phase }, { on := 1, ground := Go.Ground.phase }, { on := 2, ground := Go.Ground.phase }, { on := 3, ground := Go.Ground.phase }, { on := 4, ground := Go.Ground.phase }, { on := 5, ground := Go.Ground.phase }, { on := 6, ground := Go.Ground.phase }, { on := 7, ground := Go.Ground.textOnly Go.Departure.lateStores }, { on := 8, ground := Go.Ground.phase }], guard := none }) rfl (fun K hK => ?_) (AllReadyH.nil)
      rw [if_pos (by rfl)]
      have hRl := (RB13).lt (Nat.zero_lt_succ _)
      refine storeB (by rfl) (by rfl) (v := r) (by rfl) RB13 Fr ?_
      clear LB13
      intro s60 G60 LB13 RQ
      have z61 := G60.size
      replace E := grown_ext E G60 (by omega)
      replace LB6 := LB6.grown G60 (by omega)
      replace RB6 := RB6.grown G60 (by omega)
      replace LB10 := LB10.grown G60 (by omega)
      replace LB11 := LB11.grown G60 (by omega)
      replace BR := BR.grown G60 (by first | omega | (dsimp only [New]; omega))
      clear RB13
      have RB13 := RQ
      clear RQ hRl G60
      clear hHeld
      have hHeld := And.intro LB10 (LB11)
      refine hK.out _ _ hHeld (fun _ => ?_)
      clear hK K
      try simp only [Act.put]
      refine wpAnyH_take (i := 10) (oi := { dst := some 14, op := Go.Op.assign (Go.Operand.tmp 82), type := 4, pos := "relate.go:69", after := #[{ on := 7, ground := Go.Ground.data }, { on := 9, ground := Go.Ground.chain }, { on := 0, ground := Go.Ground.phase }, { on := 1, ground := Go.Ground.phase }, { on := 2, ground := Go.Ground.phase }, { on := 3, ground := Go.Ground.phase }, { on := 4, ground := Go.Ground.phase }, { on := 5, ground := Go.Ground.phase }, { on := 6, ground := Go.Ground.phase }, { on := 7, ground := Go.Ground.phase }, { on := 8, ground := Go.Ground.phase }, { on := 9, ground := Go.Ground.phase }], guard := none }) (v := ?v62) rfl (by kernel_rfl) (by kernel_rfl) (by kernel_rfl) (fun _ _ _ h => h) (Or.inl ⟨by rfl, ?hy62⟩) hHeld ?rest62
      case hy62 => (intro w hSw; (try dsimp only at hSw); go_simp; (first | done | with_reducible rfl))
      try simp only [Act.put, List.setIfInBounds_toArray, List.set_cons_zero, List.set_cons_succ]
      refine wpAnyH_done (by kernel_rfl) ?_ _
      go_wp2_with (refine loadsB (B := B13) (by rfl) rfl rfl LB13 ?_)
      clear LB10 LB11 LB13 RB13
      refine (VecS.bits_of r R _ BR.is).mono ?_
      rintro e w84 ⟨o, rfl, hq, x⟩
      have VO := hq _ BR
      have Fo := VO.is.flat
      clear hq
      have z63 := x.size
      replace E := E.trans x
      replace LB6 := LB6.ext x
      replace RB6 := RB6.ext x
      replace BR := BR.ext x
      clear x
      have TG64 : True := trivial
      go_wp2_with (clear TG64; have hRl := (RB6).lt (Nat.zero_lt_succ _); refine storesV (B := B6) rfl rfl rfl (v := o) rfl RB6 Fo ?_; clear LB6; intro s64 G64 LB6 RQ; have z65 := G64.size; replace E := grown_ext E G64 (by omega); replace BR := BR.grown G64 (by first | omega | (dsimp only [New]; omega)); replace VO := VO.grown G64 (by first | omega | (dsimp only [New]; omega)); clear RB6; have RB6 := RQ; clear RQ hRl; clear RB6)
      refine bodyPost_ret (results_lay2 rfl rfl rfl (ldV LB6)) rfl ?_
      exact ⟨o, rfl, VO.mono (fun i hi h => by dsimp only [New] at *; omega), E⟩
  · rw [if_pos (by rfl)]
    refine allocB rfl ?_
    intro B13 w13 bB13 cB13 XB13 LB13 RB13
    have z66 := XB13.size
    replace E := E.trans XB13
    replace LB6 := LB6.ext XB13
    replace RB6 := RB6.ext XB13
    replace BP := BP.ext XB13
    replace LB10 := LB10.ext XB13
    replace BQ := BQ.ext XB13
    replace LB11 := LB11.ext XB13
    clear hHeld
    have hHeld := And.intro LB10 (LB11)
    refine hK.out _ _ hHeld (fun _ => ?_)
    clear hK K
    try simp only [Act.put, List.setIfInBounds_toArray, List.set_cons_zero, List.set_cons_succ]
    refine wpAnyH_ready (rs := [1]) (by kernel_rfl) (by simp) ?_
    refine AllReadyH.cons (o := { dst := some 77, op := Go.Op.call { callee := Go.Callee.value (Go.Operand.func 80), args := #[Go.Operand.tmp 76], argTypes := #[3] }, type := 5, pos := "relate.go:69", after := #[{ on := 0, ground := Go.Ground.data }], guard := none }) rfl (fun K hK => ?_) (AllReadyH.nil)
    go_simp
    refine (ct _).mono ?_
    rintro e w77 ⟨rfl, x⟩
    have z67 := x.size
    replace E := E.trans x
    replace LB6 := LB6.ext x
    replace RB6 := RB6.ext x
    replace BP := BP.ext x
    replace LB10 := LB10.ext x
    replace BQ := BQ.ext x
    replace LB11 := LB11.ext x
    replace LB13 := LB13.ext x
    replace RB13 := RB13.ext x
    clear x
    clear hHeld
    have hHeld := And.intro LB10 (LB11)
    refine hK.out _ _ hHeld (fun _ => ?_)
    clear hK K
    try simp only [Act.put, List.setIfInBounds_toArray, List.set_cons_zero, List.set_cons_succ]
    refine wpAnyH_ready (rs := [4]) (by kernel_rfl) (by simp) ?_
    refine AllReadyH.cons (o := { dst := some 80, op := Go.Op.call { callee := Go.Callee.value (Go.Operand.func 74), args := #[Go.Operand.tmp 77, Go.Operand.tmp 78, Go.Operand.tmp 79], argTypes := #[5, 28, 28] }, type := 65, pos := "relate.go:69", after := #[{ on := 1, ground := Go.Ground.data }, { on := 2, ground := Go.Ground.data }, { on := 3, ground := Go.Ground.data }, { on := 1, ground := Go.Ground.chain }], guard := none }) rfl (fun K hK => ?_) (AllReadyH.nil)
    go_simp
    refine (cv p q _ BP.is BQ.is).mono ?_
    rintro e w80 ⟨r, rfl, hq, x⟩
    clear BP BQ
    have BR := hq.bs.now
    have Fr := BR.is.flat
    clear hq
    have z68 := x.size
    replace E := E.trans x
    replace LB6 := LB6.ext x
    replace RB6 := RB6.ext x
    replace LB10 := LB10.ext x
    replace LB11 := LB11.ext x
    replace LB13 := LB13.ext x
    replace RB13 := RB13.ext x
    clear x
    clear hHeld
    have hHeld := And.intro LB10 (LB11)
    refine hK.out _ _ hHeld (fun _ => ?_)
    clear hK K
    try simp only [Act.put, List.setIfInBounds_toArray, List.set_cons_zero, List.set_cons_succ]
    refine wpAnyH_take (i := 5) (oi := { dst := some 75, op := Go.Op.move (Go.Operand.tmp 80), type := 65, pos := "relate.go:69", after := #[{ on := 4, ground := Go.Ground.data }], guard := none }) (v := ?v69) rfl (by kernel_rfl) (by kernel_rfl) (by kernel_rfl) (fun _ _ _ h => h) (Or.inl ⟨by rfl, ?hy69⟩) hHeld ?rest69
    case hy69 => (intro w hSw; (try dsimp only at hSw); go_simp; (first | done | with_reducible rfl))
    try simp only [Act.put, List.setIfInBounds_toArray, List.set_cons_zero, List.set_cons_succ]
    refine wpAnyH_take (i := 6) (oi := { dst := some 81, op := Go.Op.extract (Go.Operand.tmp 75) 0, type := 28, pos := "relate.go:69", after := #[{ on := 5, ground := Go.Ground.data }], guard := none }) (v := ?v70) rfl (by kernel_rfl) (by kernel_rfl) (by kernel_rfl) (fun _ _ _ h => h) (Or.inl ⟨by rfl, ?hy70⟩) hHeld ?rest70
    case hy70 => (intro w hSw; (try dsimp only at hSw); go_simp; (first | done | with_reducible rfl))
    try simp only [Act.put, List.setIfInBounds_toArray, List.set_cons_zero, List.set_cons_succ]
    refine wpAnyH_take (i := 7) (oi := { dst := some 82, op := Go.Op.extract (Go.Operand.tmp 75) 1, type := 4, pos := "relate.go:69", after := #[{ on := 5, ground := Go.Ground.data }, { on := 9, ground := Go.Ground.gcOnly Go.Departure.lateStores }], guard := none }) (v := ?v71) rfl (by kernel_rfl) (by kernel_rfl) (by kernel_rfl) (fun _ _ _ h => h) (Or.inl ⟨by rfl, ?hy71⟩) hHeld ?rest71
    case hy71 => (intro w hSw; (try dsimp only at hSw); go_simp; (first | done | with_reducible rfl))
    try simp only [Act.put, List.setIfInBounds_toArray, List.set_cons_zero, List.set_cons_succ]
    refine wpAnyH_ready (rs := [9]) (by kernel_rfl) (by simp) ?_
    refine AllReadyH.cons (o := { dst := none, op := Go.Op.store 28 (Go.Operand.tmp 13) (Go.Operand.tmp 81), type := 0, pos := "relate.go:69", after := #[{ on := 8, ground := Go.Ground.data }, { on := 6, ground := Go.Ground.data }, { on := 4, ground := Go.Ground.chain }, { on := 0, ground := Go.Ground.phase }, { on := 1, ground := Go.Ground.phase }, { on := 2, ground := Go.Ground.phase }, { on := 3, ground := Go.Ground.phase }, { on := 4, ground := Go.Ground.phase }, { on := 5, ground := Go.Ground.phase }, { on := 6, ground := Go.Ground.phase }, { on := 7, ground := Go.Ground.textOnly Go.Departure.lateStores }, { on := 8, ground := Go.Ground.phase }], guard := none }) rfl (fun K hK => ?_) (AllReadyH.nil)
    rw [if_pos (by rfl)]
    have hRl := (RB13).lt (Nat.zero_lt_succ _)
    refine storeB (by rfl) (by rfl) (v := r) (by rfl) RB13 Fr ?_
    clear LB13
    intro s72 G72 LB13 RQ
    have z73 := G72.size
    replace E := grown_ext E G72 (by omega)
    replace LB6 := LB6.grown G72 (by omega)
    replace RB6 := RB6.grown G72 (by omega)
    replace LB10 := LB10.grown G72 (by omega)
    replace LB11 := LB11.grown G72 (by omega)
    replace BR := BR.grown G72 (by first | omega | (dsimp only [New]; omega))
    clear RB13
    have RB13 := RQ
    clear RQ hRl G72
    clear hHeld
    have hHeld := And.intro LB10 (LB11)
    refine hK.out _ _ hHeld (fun _ => ?_)
    clear hK K
    try simp only [Act.put]
    refine wpAnyH_take (i := 10) (oi := { dst := some 14, op := Go.Op.assign (Go.Operand.tmp 82), type := 4, pos := "relate.go:69", after := #[{ on := 7, ground := Go.Ground.data }, { on := 9, ground := Go.Ground.chain }, { on := 0, ground := Go.Ground.phase }, { on := 1, ground := Go.Ground.phase }, { on := 2, ground := Go.Ground.phase }, { on := 3, ground := Go.Ground.phase }, { on := 4, ground := Go.Ground.phase }, { on := 5, ground := Go.Ground.phase }, { on := 6, ground := Go.Ground.phase }, { on := 7, ground := Go.Ground.phase }, { on := 8, ground := Go.Ground.phase }, { on := 9, ground := Go.Ground.phase }], guard := none }) (v := ?v74) rfl (by kernel_rfl) (by kernel_rfl) (by kernel_rfl) (fun _ _ _ h => h) (Or.inl ⟨by rfl, ?hy74⟩) hHeld ?rest74
    case hy74 => (intro w hSw; (try dsimp only at hSw); go_simp; (first | done | with_reducible rfl))
    try simp only [Act.put, List.setIfInBounds_toArray, List.set_cons_zero, List.set_cons_succ]
    refine wpAnyH_done (by kernel_rfl) ?_ _
    go_wp2_with (refine loadsB (B := B13) (by rfl) rfl rfl LB13 ?_)
    clear LB10 LB11 LB13 RB13
    refine (VecS.bits_of r R _ BR.is).mono ?_
    rintro e w84 ⟨o, rfl, hq, x⟩
    have VO := hq _ BR
    have Fo := VO.is.flat
    clear hq
    have z75 := x.size
    replace E := E.trans x
    replace LB6 := LB6.ext x
    replace RB6 := RB6.ext x
    replace BR := BR.ext x
    clear x
    have TG76 : True := trivial
    go_wp2_with (clear TG76; have hRl := (RB6).lt (Nat.zero_lt_succ _); refine storesV (B := B6) rfl rfl rfl (v := o) rfl RB6 Fo ?_; clear LB6; intro s76 G76 LB6 RQ; have z77 := G76.size; replace E := grown_ext E G76 (by omega); replace BR := BR.grown G76 (by first | omega | (dsimp only [New]; omega)); replace VO := VO.grown G76 (by first | omega | (dsimp only [New]; omega)); clear RB6; have RB6 := RQ; clear RQ hRl; clear RB6)
    refine bodyPost_ret (results_lay2 rfl rfl rfl (ldV LB6)) rfl ?_
    exact ⟨o, rfl, VO.mono (fun i hi h => by dsimp only [New] at *; omega), E⟩
end
end Go.Proofs.Ytdfhefnjoekgbaa
