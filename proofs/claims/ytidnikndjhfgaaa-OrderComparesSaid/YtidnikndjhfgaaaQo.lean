/- Contracts of squeeze at characters and boxes; Chars, Boxes with what they read. -/
import Derived.Test.YtidnikndjhfgaaaQm
namespace Go.Proofs.Ytidnikndjhfgaaa
open Go.ChangeShapes Go.WideShapes Go.RowKit Bv Fl
attribute [local go_sem ↓] Go.wp_at_zero Go.wp_at_succ
attribute [local go_sem] run_store_f64
/-- of another class than numbers -/
def Other (d : VD) : Prop := d.kind = 5 ∨ d.kind = 6
theorem Other.cls {d : VD} (h : Other d) : ((d.cls : Int) != 0) = true := by
  have : d.cls = 1 ∨ d.cls = 2 := by
    unfold VD.cls
    rcases h with h | h <;> rw [h]
    · exact .inl rfl
    · exact .inr rfl
  rcases this with h | h <;> rw [h] <;> rfl
set_option maxHeartbeats 1000000
set_option maxRecDepth 100000
theorem oleast_any (v : Value) (d : VD) (w : World) (h : IsVec w v d) (ho : Other d) : Calls Try.prog 72 #[v] w fun e w' => e = .returned (.int .i64 (d.kind : Int)) ∧ Ext w w' := by
  have hF := h.flat
  have hcl := ho.cls
  have cc := fun w h => vclass_any v d w h
  have ck := fun w h => vkind_any v d w h
  generalize (d.cls : Int) = cl at *
  generalize (d.kind : Int) = kd at *
  have V0 := h
  clear h ho
  have E := Ext.refl w
  go_enter Try.func72, Try.ntmps72
  go_wp2_with (first | (refine boxsV (v := v) rfl rfl rfl hF ?_; intro B1 w1 bB1 cB1 x L1 R1; have z1 := x.size; replace E := E.trans x; replace V0 := V0.ext x; clear x) | (refine loadsV (B := B1) (by rfl) rfl rfl L1 ?_))
  refine (cc _ V0).mono ?_
  rintro e w2 ⟨rfl, x⟩
  have z2 := x.size
  replace E := E.trans x
  replace V0 := V0.ext x
  replace L1 := L1.ext x
  replace R1 := R1.ext x
  clear x
  go_wp2_with (refine loadsV (B := B1) (by rfl) rfl rfl L1 ?_)
  refine (ck _ V0).mono ?_
  rintro e w3 ⟨rfl, x⟩
  have z3 := x.size
  replace E := E.trans x
  replace V0 := V0.ext x
  replace L1 := L1.ext x
  replace R1 := R1.ext x
  clear x
  go_wp2
  go_ret
  exact ⟨rfl, E⟩
theorem ointo_same (v : Value) (d : VD) (w : World) (h : IsVec w v d) : Calls Try.prog 68 #[v, .int .i64 (d.kind : Int)] w fun e w' => e = .returned (.tuple #[v, .bool true]) ∧ Ext w w' := by
  have hF := h.flat
  have ck := fun w h => vkind_any v d w h
  generalize (d.kind : Int) = kd at *
  have V0 := h
  clear h
  have E := Ext.refl w
  go_enter Try.func68, Try.ntmps68
  go_wp2_with (first | (refine boxsV (v := v) rfl rfl rfl hF ?_; intro B1 w1 bB1 cB1 x L1 R1; have z1 := x.size; replace E := E.trans x; replace V0 := V0.ext x; clear x) | (refine allocsV rfl rfl ?_; intro B2 w2 bB2 cB2 x L2 R2; have z2 := x.size; replace E := E.trans x; replace V0 := V0.ext x; replace L1 := L1.ext x; replace R1 := R1.ext x; clear x) | (refine loadsV (B := B1) (by rfl) rfl rfl L1 ?_))
  refine (ck _ V0).mono ?_
  rintro e w3 ⟨rfl, x⟩
  have z3 := x.size
  replace E := E.trans x
  replace V0 := V0.ext x
  replace L1 := L1.ext x
  replace R1 := R1.ext x
  replace L2 := L2.ext x
  replace R2 := R2.ext x
  clear x
  clear V0 R1
  go_wp2_with (first | (refine loadsV (B := B1) (by rfl) rfl rfl L1 ?_) | (have hRl := (R2).lt (Nat.zero_lt_succ _); refine storesV (B := B2) rfl rfl rfl (v := v) rfl R2 hF ?_; clear L2; intro w4 g L2 RQ; have z4 := g.size; replace E := grown_ext E g (by omega); replace L1 := L1.grown g (by omega); clear R2; have R2 := RQ; clear RQ hRl; clear g))
  exact bodyPost_ret (results_lay2 rfl rfl rfl (ldV L2)) rfl ⟨rfl, E⟩
theorem ointo_no (v : Value) (d : VD) (kind : Int) (w : World) (h : IsVec w v d) (ho : Other d) (hk : (d.kind : Int) ≠ kind) : Calls Try.prog 68 #[v, .int .i64 kind] w fun e w' => e = .returned (.tuple #[zeroVec, .bool false]) ∧ Ext w w' := by
  have hF := h.flat
  have hcl := ho.cls
  have hkk : ((d.kind : Int) == kind) = false := by simpa using hk
  have cc := fun w h => vclass_any v d w h
  have ck := fun w h => vkind_any v d w h
  generalize (d.cls : Int) = cl at *
  generalize (d.kind : Int) = kd at *
  have V0 := h
  clear h ho hk
  have E := Ext.refl w
  go_enter Try.func68, Try.ntmps68
  go_wp2_with (first | (refine boxsV (v := v) rfl rfl rfl hF ?_; intro B1 w1 bB1 cB1 x L1 R1; have z1 := x.size; replace E := E.trans x; replace V0 := V0.ext x; clear x) | (refine allocsV rfl rfl ?_; intro B2 w2 bB2 cB2 x L2 R2; have z2 := x.size; replace E := E.trans x; replace V0 := V0.ext x; replace L1 := L1.ext x; replace R1 := R1.ext x; clear x) | (refine loadsV (B := B1) (by rfl) rfl rfl L1 ?_))
  refine (ck _ V0).mono ?_
  rintro e w3 ⟨rfl, x⟩
  have z3 := x.size
  replace E := E.trans x
  replace V0 := V0.ext x
  replace L1 := L1.ext x
  replace R1 := R1.ext x
  replace L2 := L2.ext x
  replace R2 := R2.ext x
  clear x
  go_wp2_with (refine loadsV (B := B1) (by rfl) rfl rfl L1 ?_)
  refine (cc _ V0).mono ?_
  rintro e w4 ⟨rfl, x⟩
  have z4 := x.size
  replace E := E.trans x
  replace V0 := V0.ext x
  replace L1 := L1.ext x
  replace R1 := R1.ext x
  replace L2 := L2.ext x
  replace R2 := R2.ext x
  clear x
  clear V0 R1
  go_wp2_with (have hRl := (R2).lt (Nat.zero_lt_succ _); refine storesV (B := B2) rfl rfl rfl (v := zeroVec) rfl R2 zeroVec_flat ?_; clear L2; intro w5 g L2 RQ; have z5 := g.size; replace E := grown_ext E g (by omega); replace L1 := L1.grown g (by omega); clear R2; have R2 := RQ; clear RQ hRl; clear g)
  exact bodyPost_ret (results_lay2 rfl rfl rfl (ldV L2)) rfl ⟨rfl, E⟩
theorem otight_any (v : Value) (d : VD) (w : World) (h : IsVec w v d) (ho : Other d) : Calls Try.prog 43 #[v] w fun e w' => e = .returned (.bool true) ∧ Ext w w' := by
  have hF := h.flat
  have ck := fun w h => vkind_any v d w h
  have cL := fun w h => oleast_any v d w h ho
  generalize (d.kind : Int) = kd at *
  have V0 := h
  clear h ho
  have E := Ext.refl w
  go_enter Try.func43, Try.ntmps43
  go_wp2_with (refine boxsV (v := v) rfl rfl rfl hF ?_; intro B1 w1 bB1 cB1 x L1 R1; have z1 := x.size; replace E := E.trans x; replace V0 := V0.ext x; clear x)
  try simp only [Act.put, List.setIfInBounds_toArray, List.set_cons_zero, List.set_cons_succ]
  refine wp_region_held_drew (S := (fun w' => Ext w1 w')) (by kernel_rfl) ((Ext.refl w1).drew) (fun hHeld => ?_)
  have hz0 : w1.heap.size ≤ w1.drew.heap.size := Nat.le_refl _
  replace V0 := V0.ext (Ext.refl w1).drew
  refine wpAnyH_take (i := 0) (oi := { dst := some 3, op := Go.Op.load 41 (Go.Operand.tmp 1), type := 41, pos := "squeeze.go:43", after := #[], guard := none }) (v := v) rfl (by kernel_rfl) (by kernel_rfl) (by kernel_rfl) (fun _ _ _ h => h) (yieldV (by rfl) rfl rfl fun w' hx => L1.ext hx) hHeld ?_
  try simp only [Act.put, List.setIfInBounds_toArray, List.set_cons_zero, List.set_cons_succ]
  refine wpAnyH_take (i := 2) (oi := { dst := some 5, op := Go.Op.load 41 (Go.Operand.tmp 1), type := 41, pos := "squeeze.go:43", after := #[], guard := none }) (v := v) rfl (by kernel_rfl) (by kernel_rfl) (by kernel_rfl) (fun _ _ _ h => h) (yieldV (by rfl) rfl rfl fun w' hx => L1.ext hx) hHeld ?_
  try simp only [Act.put, List.setIfInBounds_toArray, List.set_cons_zero, List.set_cons_succ]
  refine wpAnyH_ready (rs := [1]) (by kernel_rfl) (by simp) ?_
  refine AllReadyH.cons (o := { dst := some 4, op := Go.Op.call { callee := Go.Callee.value (Go.Operand.func 40), args := #[Go.Operand.tmp 3], argTypes := #[41] }, type := 3, pos := "squeeze.go:43", after := #[{ on := 0, ground := Go.Ground.data }], guard := none }) rfl (fun K hK => ?_) (AllReadyH.nil)
  go_simp
  refine (ck _ V0).mono ?_
  rintro e w3 ⟨rfl, hx⟩
  replace V0 := V0.ext hx
  have hz1 := hx.size
  replace hHeld := Ext.trans hHeld hx
  refine hK.out _ _ hHeld (fun _ => ?_)
  clear hK K hx
  try simp only [Act.put, List.setIfInBounds_toArray, List.set_cons_zero, List.set_cons_succ]
  refine wpAnyH_ready (rs := [3]) (by kernel_rfl) (by simp) ?_
  refine AllReadyH.cons (o := { dst := some 6, op := Go.Op.call { callee := Go.Callee.value (Go.Operand.func 72), args := #[Go.Operand.tmp 5], argTypes := #[41] }, type := 3, pos := "squeeze.go:43", after := #[{ on := 2, ground := Go.Ground.data }, { on := 1, ground := Go.Ground.chain }], guard := none }) rfl (fun K hK => ?_) (AllReadyH.nil)
  go_simp
  refine (cL _ V0).mono ?_
  rintro e w4 ⟨rfl, hx⟩
  replace V0 := V0.ext hx
  have hz3 := hx.size
  replace hHeld := Ext.trans hHeld hx
  refine hK.out _ _ hHeld (fun _ => ?_)
  clear hK K hx
  try simp only [Act.put, List.setIfInBounds_toArray, List.set_cons_zero, List.set_cons_succ]
  refine wpAnyH_take (i := 4) (oi := { dst := some 7, op := Go.Op.binOp Go.BinOp.eql 3 (Go.Operand.tmp 4) (Go.Operand.tmp 6) 3, type := 4, pos := "squeeze.go:43", after := #[{ on := 1, ground := Go.Ground.data }, { on := 3, ground := Go.Ground.data }], guard := none }) (v := ?v3) rfl (by kernel_rfl) (by kernel_rfl) (by kernel_rfl) (fun _ _ _ h => h) (Or.inl ⟨by rfl, ?hy3⟩) hHeld ?rest3
  case hy3 => (intro w hSw; (try dsimp only at hSw); go_simp; (first | done | with_reducible rfl))
  try simp only [Act.put, List.setIfInBounds_toArray, List.set_cons_zero, List.set_cons_succ]
  refine wpAnyH_take (i := 5) (oi := { dst := some 2, op := Go.Op.assign (Go.Operand.tmp 7), type := 4, pos := "squeeze.go:43", after := #[{ on := 4, ground := Go.Ground.data }, { on := 3, ground := Go.Ground.chain }, { on := 0, ground := Go.Ground.phase }, { on := 1, ground := Go.Ground.phase }, { on := 2, ground := Go.Ground.phase }, { on := 3, ground := Go.Ground.phase }, { on := 4, ground := Go.Ground.phase }], guard := none }) (v := ?v4) rfl (by kernel_rfl) (by kernel_rfl) (by kernel_rfl) (fun _ _ _ h => h) (Or.inl ⟨by rfl, ?hy4⟩) hHeld ?rest4
  case hy4 => (intro w hSw; (try dsimp only at hSw); go_simp; (first | done | with_reducible rfl))
  try simp only [Act.put, List.setIfInBounds_toArray, List.set_cons_zero, List.set_cons_succ]
  refine wpAnyH_done (by kernel_rfl) ?_ _
  go_wp2
  go_ret
  exact ⟨by simp, E.trans hHeld⟩
theorem osqueeze_any (v : Value) (d : VD) (w : World) (h : IsVec w v d) (ho : Other d) : Calls Try.prog 74 #[v] w fun e w' => e = .returned v ∧ Ext w w' := by
  have hF := h.flat
  have cI := fun w h => ointo_same v d w h
  have cL := fun w h => oleast_any v d w h ho
  generalize (d.kind : Int) = kd at *
  have V0 := h
  clear h ho
  have E := Ext.refl w
  go_enter Try.func74, Try.ntmps74
  go_wp2_with (first | (refine boxsV (v := v) rfl rfl rfl hF ?_; intro B1 w1 bB1 cB1 x L1 R1; have z1 := x.size; replace E := E.trans x; replace V0 := V0.ext x; clear x) | (refine allocsV rfl rfl ?_; intro B2 w2 bB2 cB2 x L2 R2; have z2 := x.size; replace E := E.trans x; replace V0 := V0.ext x; replace L1 := L1.ext x; replace R1 := R1.ext x; clear x))
  try simp only [Act.put, List.setIfInBounds_toArray, List.set_cons_zero, List.set_cons_succ]
  go_upto_region 1 with fail
  go_cut [3, 4] (fun s3 s4 wx => ∃ B, s3 = .pointer (some ⟨B, 0, none⟩) ∧ s4 = .bool true ∧ Lay 8 wx B v ∧ w2.heap.size ≤ B ∧ Ext w2 wx)
  case first =>
    refine wp_region_held_drew (S := (fun w' => Ext w2 w')) (by kernel_rfl) ((Ext.refl w2).drew) (fun hHeld => ?_)
    have hz0 : w2.heap.size ≤ w2.drew.heap.size := Nat.le_refl _
    replace V0 := V0.ext (Ext.refl w2).drew
    refine wpAnyH_take (i := 0) (oi := { dst := some 6, op := Go.Op.load 41 (Go.Operand.tmp 1), type := 41, pos := "squeeze.go:47", after := #[], guard := none }) (v := v) rfl (by kernel_rfl) (by kernel_rfl) (by kernel_rfl) (fun _ _ _ h => h) (yieldV (by rfl) rfl rfl fun w' hx => L1.ext hx) hHeld ?_
    try simp only [Act.put, List.setIfInBounds_toArray, List.set_cons_zero, List.set_cons_succ]
    refine wpAnyH_take (i := 1) (oi := { dst := some 7, op := Go.Op.load 41 (Go.Operand.tmp 1), type := 41, pos := "squeeze.go:47", after := #[], guard := none }) (v := v) rfl (by kernel_rfl) (by kernel_rfl) (by kernel_rfl) (fun _ _ _ h => h) (yieldV (by rfl) rfl rfl fun w' hx => L1.ext hx) hHeld ?_
    try simp only [Act.put, List.setIfInBounds_toArray, List.set_cons_zero, List.set_cons_succ]
    refine wpAnyH_ready (rs := [2, 7]) (by kernel_rfl) (by simp) ?_
    refine AllReadyH.cons (o := { dst := some 8, op := Go.Op.call { callee := Go.Callee.value (Go.Operand.func 72), args := #[Go.Operand.tmp 7], argTypes := #[41] }, type := 3, pos := "squeeze.go:47", after := #[{ on := 1, ground := Go.Ground.data }], guard := none }) rfl (fun K hK => ?_) (AllReadyH.cons (o := { dst := some 3, op := Go.Op.alloc 41, type := 0, pos := "squeeze.go:47", after := #[], guard := none }) rfl (fun K hK => ?_) (AllReadyH.nil))
    · go_simp
      refine (cL _ V0).mono ?_
      rintro e w3 ⟨rfl, hx⟩
      replace V0 := V0.ext hx
      have hz2 := hx.size
      replace hHeld := Ext.trans hHeld hx
      refine hK.out _ _ hHeld (fun _ => ?_)
      clear hK K hx
      try simp only [Act.put, List.setIfInBounds_toArray, List.set_cons_zero, List.set_cons_succ]
      refine wpAnyH_ready (rs := [3, 7]) (by kernel_rfl) (by simp) ?_
      refine AllReadyH.cons (o := { dst := some 9, op := Go.Op.call { callee := Go.Callee.value (Go.Operand.func 68), args := #[Go.Operand.tmp 6, Go.Operand.tmp 8], argTypes := #[41, 3] }, type := 76, pos := "squeeze.go:47", after := #[{ on := 0, ground := Go.Ground.data }, { on := 2, ground := Go.Ground.data }, { on := 2, ground := Go.Ground.chain }], guard := none }) rfl (fun K hK => ?_) (AllReadyH.cons (o := { dst := some 3, op := Go.Op.alloc 41, type := 0, pos := "squeeze.go:47", after := #[], guard := none }) rfl (fun K hK => ?_) (AllReadyH.nil))
      · go_simp
        refine (cI _ V0).mono ?_
        rintro e w4 ⟨rfl, hx⟩
        replace V0 := V0.ext hx
        have hz3 := hx.size
        replace hHeld := Ext.trans hHeld hx
        refine hK.out _ _ hHeld (fun _ => ?_)
        clear hK K hx
        try simp only [Act.put, List.setIfInBounds_toArray, List.set_cons_zero, List.set_cons_succ]
        refine wpAnyH_take (i := 4) (oi := { dst := some 5, op := Go.Op.move (Go.Operand.tmp 9), type := 76, pos := "squeeze.go:47", after := #[{ on := 3, ground := Go.Ground.data }], guard := none }) (v := ?v3) rfl (by kernel_rfl) (by kernel_rfl) (by kernel_rfl) (fun _ _ _ h => h) (Or.inl ⟨by rfl, ?hy3⟩) hHeld ?rest3
        case hy3 => (intro w hSw; (try dsimp only at hSw); go_simp; (first | done | with_reducible rfl))
        try simp only [Act.put, List.setIfInBounds_toArray, List.set_cons_zero, List.set_cons_succ]
        refine wpAnyH_take (i := 5) (oi := { dst := some 10, op := Go.Op.extract (Go.Operand.tmp 5) 0, type := 41, pos := "squeeze.go:47", after := #[{ on := 4, ground := Go.Ground.data }], guard := none }) (v := ?v4) rfl (by kernel_rfl) (by kernel_rfl) (by kernel_rfl) (fun _ _ _ h => h) (Or.inl ⟨by rfl, ?hy4⟩) hHeld ?rest4
        case hy4 => (intro w hSw; (try dsimp only at hSw); go_simp; (first | done | with_reducible rfl))
        try simp only [Act.put, List.setIfInBounds_toArray, List.set_cons_zero, List.set_cons_succ]
        refine wpAnyH_take (i := 6) (oi := { dst := some 11, op := Go.Op.extract (Go.Operand.tmp 5) 1, type := 4, pos := "squeeze.go:47", after := #[{ on := 4, ground := Go.Ground.data }, { on := 8, ground := Go.Ground.gcOnly Go.Departure.lateStores }], guard := none }) (v := ?v5) rfl (by kernel_rfl) (by kernel_rfl) (by kernel_rfl) (fun _ _ _ h => h) (Or.inl ⟨by rfl, ?hy5⟩) hHeld ?rest5
        case hy5 => (intro w hSw; (try dsimp only at hSw); go_simp; (first | done | with_reducible rfl))
        try simp only [Act.put, List.setIfInBounds_toArray, List.set_cons_zero, List.set_cons_succ]
        refine wpAnyH_ready (rs := [7]) (by kernel_rfl) (by simp) ?_
        refine AllReadyH.cons (o := { dst := some 3, op := Go.Op.alloc 41, type := 0, pos := "squeeze.go:47", after := #[], guard := none }) rfl (fun K hK => ?_) (AllReadyH.nil)
        rw [if_pos (by rfl)]
        refine allocV rfl ?_
        intro B3 w5 hB3l hB3r hx L3 R3
        replace V0 := V0.ext hx
        have hz7 := hx.size
        replace hHeld := Ext.trans hHeld hx
        refine hK.out _ _ hHeld (fun _ => ?_)
        clear hK K hx
        try simp only [Act.put, List.setIfInBounds_toArray, List.set_cons_zero, List.set_cons_succ]
        refine wpAnyH_ready (rs := [8]) (by kernel_rfl) (by simp) ?_
        refine AllReadyH.cons (o := { dst := none, op := Go.Op.store 41 (Go.Operand.tmp 3) (Go.Operand.tmp 10), type := 0, pos := "squeeze.go:47", after := #[{ on := 7, ground := Go.Ground.data }, { on := 5, ground := Go.Ground.data }, { on := 3, ground := Go.Ground.chain }, { on := 0, ground := Go.Ground.phase }, { on := 1, ground := Go.Ground.phase }, { on := 2, ground := Go.Ground.phase }, { on := 3, ground := Go.Ground.phase }, { on := 4, ground := Go.Ground.phase }, { on := 5, ground := Go.Ground.phase }, { on := 6, ground := Go.Ground.textOnly Go.Departure.lateStores }, { on := 7, ground := Go.Ground.phase }], guard := none }) rfl (fun K hK => ?_) (AllReadyH.nil)
        rw [if_pos (by rfl)]
        have hRl := (R3).lt (Nat.zero_lt_succ _)
        have hHs := hHeld.size
        refine storeV (by rfl) (by rfl) (v := v) (by rfl) R3 hF ?_
        intro ws hg LQ RQ
        have hz8 := hg.size
        replace hHeld := grown_ext hHeld hg (by omega)
        have L3 := LQ
        have R3 := RQ
        clear LQ RQ hg
        refine hK.out _ _ hHeld (fun _ => ?_)
        clear hK K
        try simp only [Act.put]
        refine wpAnyH_take (i := 9) (oi := { dst := some 4, op := Go.Op.assign (Go.Operand.tmp 11), type := 4, pos := "squeeze.go:47", after := #[{ on := 6, ground := Go.Ground.data }, { on := 8, ground := Go.Ground.chain }, { on := 0, ground := Go.Ground.phase }, { on := 1, ground := Go.Ground.phase }, { on := 2, ground := Go.Ground.phase }, { on := 3, ground := Go.Ground.phase }, { on := 4, ground := Go.Ground.phase }, { on := 5, ground := Go.Ground.phase }, { on := 6, ground := Go.Ground.phase }, { on := 7, ground := Go.Ground.phase }, { on := 8, ground := Go.Ground.phase }], guard := none }) (v := ?v6) rfl (by kernel_rfl) (by kernel_rfl) (by kernel_rfl) (fun _ _ _ h => h) (Or.inl ⟨by rfl, ?hy6⟩) hHeld ?rest6
        case hy6 => (intro w hSw; (try dsimp only at hSw); go_simp; (first | done | with_reducible rfl))
        try simp only [Act.put, List.setIfInBounds_toArray, List.set_cons_zero, List.set_cons_succ]
        refine wpAnyH_done (by kernel_rfl) ?_ _
        go_wp2_with fail
        go_meet
        exact ⟨B3, rfl, rfl, L3, by omega, hHeld⟩
      · rw [if_pos (by rfl)]
        refine allocV rfl ?_
        intro B3 w5 hB3l hB3r hx L3 R3
        replace V0 := V0.ext hx
        have hz7 := hx.size
        replace hHeld := Ext.trans hHeld hx
        refine hK.out _ _ hHeld (fun _ => ?_)
        clear hK K hx
        try simp only [Act.put, List.setIfInBounds_toArray, List.set_cons_zero, List.set_cons_succ]
        refine wpAnyH_ready (rs := [3]) (by kernel_rfl) (by simp) ?_
        refine AllReadyH.cons (o := { dst := some 9, op := Go.Op.call { callee := Go.Callee.value (Go.Operand.func 68), args := #[Go.Operand.tmp 6, Go.Operand.tmp 8], argTypes := #[41, 3] }, type := 76, pos := "squeeze.go:47", after := #[{ on := 0, ground := Go.Ground.data }, { on := 2, ground := Go.Ground.data }, { on := 2, ground := Go.Ground.chain }], guard := none }) rfl (fun K hK => ?_) (AllReadyH.nil)
        go_simp
        refine (cI _ V0).mono ?_
        rintro e w4 ⟨rfl, hx⟩
        replace V0 := V0.ext hx
        replace L3 := L3.ext hx
        replace R3 := R3.ext hx
        have hz3 := hx.size
        replace hHeld := Ext.trans hHeld hx
        refine hK.out _ _ hHeld (fun _ => ?_)
        clear hK K hx
        try simp only [Act.put, List.setIfInBounds_toArray, List.set_cons_zero, List.set_cons_succ]
        refine wpAnyH_take (i := 4) (oi := { dst := some 5, op := Go.Op.move (Go.Operand.tmp 9), type := 76, pos := "squeeze.go:47", after := #[{ on := 3, ground := Go.Ground.data }], guard := none }) (v := ?v7) rfl (by kernel_rfl) (by kernel_rfl) (by kernel_rfl) (fun _ _ _ h => h) (Or.inl ⟨by rfl, ?hy7⟩) hHeld ?rest7
        case hy7 => (intro w hSw; (try dsimp only at hSw); go_simp; (first | done | with_reducible rfl))
        try simp only [Act.put, List.setIfInBounds_toArray, List.set_cons_zero, List.set_cons_succ]
        refine wpAnyH_take (i := 5) (oi := { dst := some 10, op := Go.Op.extract (Go.Operand.tmp 5) 0, type := 41, pos := "squeeze.go:47", after := #[{ on := 4, ground := Go.Ground.data }], guard := none }) (v := ?v8) rfl (by kernel_rfl) (by kernel_rfl) (by kernel_rfl) (fun _ _ _ h => h) (Or.inl ⟨by rfl, ?hy8⟩) hHeld ?rest8
        case hy8 => (intro w hSw; (try dsimp only at hSw); go_simp; (first | done | with_reducible rfl))
        try simp only [Act.put, List.setIfInBounds_toArray, List.set_cons_zero, List.set_cons_succ]
        refine wpAnyH_take (i := 6) (oi := { dst := some 11, op := Go.Op.extract (Go.Operand.tmp 5) 1, type := 4, pos := "squeeze.go:47", after := #[{ on := 4, ground := Go.Ground.data }, { on := 8, ground := Go.Ground.gcOnly Go.Departure.lateStores }], guard := none }) (v := ?v9) rfl (by kernel_rfl) (by kernel_rfl) (by kernel_rfl) (fun _ _ _ h => h) (Or.inl ⟨by rfl, ?hy9⟩) hHeld ?rest9
        case hy9 => (intro w hSw; (try dsimp only at hSw); go_simp; (first | done | with_reducible rfl))
        try simp only [Act.put, List.setIfInBounds_toArray, List.set_cons_zero, List.set_cons_succ]
        refine wpAnyH_ready (rs := [8]) (by kernel_rfl) (by simp) ?_
        refine AllReadyH.cons (o := { dst := none, op := Go.Op.store 41 (Go.Operand.tmp 3) (Go.Operand.tmp 10), type := 0, pos := "squeeze.go:47", after := #[{ on := 7, ground := Go.Ground.data }, { on := 5, ground := Go.Ground.data }, { on := 3, ground := Go.Ground.chain }, { on := 0, ground := Go.Ground.phase }, { on := 1, ground := Go.Ground.phase }, { on := 2, ground := Go.Ground.phase }, { on := 3, ground := Go.Ground.phase }, { on := 4, ground := Go.Ground.phase }, { on := 5, ground := Go.Ground.phase }, { on := 6, ground := Go.Ground.textOnly Go.Departure.lateStores }, { on := 7, ground := Go.Ground.phase }], guard := none }) rfl (fun K hK => ?_) (AllReadyH.nil)
        rw [if_pos (by rfl)]
        have hRl := (R3).lt (Nat.zero_lt_succ _)
        have hHs := hHeld.size
        refine storeV (by rfl) (by rfl) (v := v) (by rfl) R3 hF ?_
        intro ws hg LQ RQ
        have hz8 := hg.size
        replace hHeld := grown_ext hHeld hg (by omega)
        have L3 := LQ
        have R3 := RQ
        clear LQ RQ hg
        refine hK.out _ _ hHeld (fun _ => ?_)
        clear hK K
        try simp only [Act.put]
        refine wpAnyH_take (i := 9) (oi := { dst := some 4, op := Go.Op.assign (Go.Operand.tmp 11), type := 4, pos := "squeeze.go:47", after := #[{ on := 6, ground := Go.Ground.data }, { on := 8, ground := Go.Ground.chain }, { on := 0, ground := Go.Ground.phase }, { on := 1, ground := Go.Ground.phase }, { on := 2, ground := Go.Ground.phase }, { on := 3, ground := Go.Ground.phase }, { on := 4, ground := Go.Ground.phase }, { on := 5, ground := Go.Ground.phase }, { on := 6, ground := Go.Ground.phase }, { on := 7, ground := Go.Ground.phase }, { on := 8, ground := Go.Ground.phase }], guard := none }) (v := ?v10) rfl (by kernel_rfl) (by kernel_rfl) (by kernel_rfl) (fun _ _ _ h => h) (Or.inl ⟨by rfl, ?hy10⟩) hHeld ?rest10
        case hy10 => (intro w hSw; (try dsimp only at hSw); go_simp; (first | done | with_reducible rfl))
        try simp only [Act.put, List.setIfInBounds_toArray, List.set_cons_zero, List.set_cons_succ]
        refine wpAnyH_done (by kernel_rfl) ?_ _
        go_wp2_with fail
        go_meet
        exact ⟨B3, rfl, rfl, L3, by omega, hHeld⟩
    · rw [if_pos (by rfl)]
      refine allocV rfl ?_
      intro B3 w5 hB3l hB3r hx L3 R3
      replace V0 := V0.ext hx
      have hz7 := hx.size
      replace hHeld := Ext.trans hHeld hx
      refine hK.out _ _ hHeld (fun _ => ?_)
      clear hK K hx
      try simp only [Act.put, List.setIfInBounds_toArray, List.set_cons_zero, List.set_cons_succ]
      refine wpAnyH_ready (rs := [2]) (by kernel_rfl) (by simp) ?_
      refine AllReadyH.cons (o := { dst := some 8, op := Go.Op.call { callee := Go.Callee.value (Go.Operand.func 72), args := #[Go.Operand.tmp 7], argTypes := #[41] }, type := 3, pos := "squeeze.go:47", after := #[{ on := 1, ground := Go.Ground.data }], guard := none }) rfl (fun K hK => ?_) (AllReadyH.nil)
      go_simp
      refine (cL _ V0).mono ?_
      rintro e w3 ⟨rfl, hx⟩
      replace V0 := V0.ext hx
      replace L3 := L3.ext hx
      replace R3 := R3.ext hx
      have hz2 := hx.size
      replace hHeld := Ext.trans hHeld hx
      refine hK.out _ _ hHeld (fun _ => ?_)
      clear hK K hx
      try simp only [Act.put, List.setIfInBounds_toArray, List.set_cons_zero, List.set_cons_succ]
      refine wpAnyH_ready (rs := [3]) (by kernel_rfl) (by simp) ?_
      refine AllReadyH.cons (o := { dst := some 9, op := Go.Op.call { callee := Go.Callee.value (Go.Operand.func 68), args := #[Go.Operand.tmp 6, Go.Operand.tmp 8], argTypes := #[41, 3] }, type := 76, pos := "squeeze.go:47", after := #[{ on := 0, ground := Go.Ground.data }, { on := 2, ground := Go.Ground.data }, { on := 2, ground := Go.Ground.chain }], guard := none }) rfl (fun K hK => ?_) (AllReadyH.nil)
      go_simp
      refine (cI _ V0).mono ?_
      rintro e w4 ⟨rfl, hx⟩
      replace V0 := V0.ext hx
      replace L3 := L3.ext hx
      replace R3 := R3.ext hx
      have hz3 := hx.size
      replace hHeld := Ext.trans hHeld hx
      refine hK.out _ _ hHeld (fun _ => ?_)
      clear hK K hx
      try simp only [Act.put, List.setIfInBounds_toArray, List.set_cons_zero, List.set_cons_succ]
      refine wpAnyH_take (i := 4) (oi := { dst := some 5, op := Go.Op.move (Go.Operand.tmp 9), type := 76, pos := "squeeze.go:47", after := #[{ on := 3, ground := Go.Ground.data }], guard := none }) (v := ?v11) rfl (by kernel_rfl) (by kernel_rfl) (by kernel_rfl) (fun _ _ _ h => h) (Or.inl ⟨by rfl, ?hy11⟩) hHeld ?rest11
      case hy11 => (intro w hSw; (try dsimp only at hSw); go_simp; (first | done | with_reducible rfl))
      try simp only [Act.put, List.setIfInBounds_toArray, List.set_cons_zero, List.set_cons_succ]
      refine wpAnyH_take (i := 5) (oi := { dst := some 10, op := Go.Op.extract (Go.Operand.tmp 5) 0, type := 41, pos := "squeeze.go:47", after := #[{ on := 4, ground := Go.Ground.data }], guard := none }) (v := ?v12) rfl (by kernel_rfl) (by kernel_rfl) (by kernel_rfl) (fun _ _ _ h => h) (Or.inl ⟨by rfl, ?hy12⟩) hHeld ?rest12
      case hy12 => (intro w hSw; (try dsimp only at hSw); go_simp; (first | done | with_reducible rfl))
      try simp only [Act.put, List.setIfInBounds_toArray, List.set_cons_zero, List.set_cons_succ]
      refine wpAnyH_take (i := 6) (oi := { dst := some 11, op := Go.Op.extract (Go.Operand.tmp 5) 1, type := 4, pos := "squeeze.go:47", after := #[{ on := 4, ground := Go.Ground.data }, { on := 8, ground := Go.Ground.gcOnly Go.Departure.lateStores }], guard := none }) (v := ?v13) rfl (by kernel_rfl) (by kernel_rfl) (by kernel_rfl) (fun _ _ _ h => h) (Or.inl ⟨by rfl, ?hy13⟩) hHeld ?rest13
      case hy13 => (intro w hSw; (try dsimp only at hSw); go_simp; (first | done | with_reducible rfl))
      try simp only [Act.put, List.setIfInBounds_toArray, List.set_cons_zero, List.set_cons_succ]
      refine wpAnyH_ready (rs := [8]) (by kernel_rfl) (by simp) ?_
      refine AllReadyH.cons (o := { dst := none, op := Go.Op.store 41 (Go.Operand.tmp 3) (Go.Operand.tmp 10), type := 0, pos := "squeeze.go:47", after := #[{ on := 7, ground := Go.Ground.data }, { on := 5, ground := Go.Ground.data }, { on := 3, ground := Go.Ground.chain }, { on := 0, ground := Go.Ground.phase }, { on := 1, ground := Go.Ground.phase }, { on := 2, ground := Go.Ground.phase }, { on := 3, ground := Go.Ground.phase }, { on := 4, ground := Go.Ground.phase }, { on := 5, ground := Go.Ground.phase }, { on := 6, ground := Go.Ground.textOnly Go.Departure.lateStores }, { on := 7, ground := Go.Ground.phase }], guard := none }) rfl (fun K hK => ?_) (AllReadyH.nil)
      rw [if_pos (by rfl)]
      have hRl := (R3).lt (Nat.zero_lt_succ _)
      have hHs := hHeld.size
      refine storeV (by rfl) (by rfl) (v := v) (by rfl) R3 hF ?_
      intro ws hg LQ RQ
      have hz8 := hg.size
      replace hHeld := grown_ext hHeld hg (by omega)
      have L3 := LQ
      have R3 := RQ
      clear LQ RQ hg
      refine hK.out _ _ hHeld (fun _ => ?_)
      clear hK K
      try simp only [Act.put]
      refine wpAnyH_take (i := 9) (oi := { dst := some 4, op := Go.Op.assign (Go.Operand.tmp 11), type := 4, pos := "squeeze.go:47", after := #[{ on := 6, ground := Go.Ground.data }, { on := 8, ground := Go.Ground.chain }, { on := 0, ground := Go.Ground.phase }, { on := 1, ground := Go.Ground.phase }, { on := 2, ground := Go.Ground.phase }, { on := 3, ground := Go.Ground.phase }, { on := 4, ground := Go.Ground.phase }, { on := 5, ground := Go.Ground.phase }, { on := 6, ground := Go.Ground.phase }, { on := 7, ground := Go.Ground.phase }, { on := 8, ground := Go.Ground.phase }], guard := none }) (v := ?v14) rfl (by kernel_rfl) (by kernel_rfl) (by kernel_rfl) (fun _ _ _ h => h) (Or.inl ⟨by rfl, ?hy14⟩) hHeld ?rest14
      case hy14 => (intro w hSw; (try dsimp only at hSw); go_simp; (first | done | with_reducible rfl))
      try simp only [Act.put, List.setIfInBounds_toArray, List.set_cons_zero, List.set_cons_succ]
      refine wpAnyH_done (by kernel_rfl) ?_ _
      go_wp2_with fail
      go_meet
      exact ⟨B3, rfl, rfl, L3, by omega, hHeld⟩
  case rest =>
    obtain ⟨B3, rfl, rfl, L3, hB3, hx⟩ := hcut
    have z1 := hx.size
    replace E := E.trans hx
    replace R2 := R2.ext hx
    clear L2
    go_wp2_with (first | (refine loadsV (B := B3) (by rfl) rfl rfl L3 ?_) | (have hRl := (R2).lt (Nat.zero_lt_succ _); refine storesV (B := B2) rfl rfl rfl (v := v) rfl R2 hF ?_; skip; intro w9 g L2 RQ; have z2 := g.size; replace E := grown_ext E g (by omega); replace L3 := L3.grown g (by omega); clear R2; have R2 := RQ; clear RQ hRl; clear g))
    exact bodyPost_ret (results_lay rfl rfl (ldV L2)) rfl ⟨rfl, E⟩

/-- Chars, and what the new Vec reads -/
theorem chars_s (A : Option Addr) (l : List Int) (n : Nat) (hn : n = l.length) (c : Nat) (w : World) (hl : n ≤ 1048576) (hs : Sl w 1 A n (i32s l)) : Calls Try.prog 44 #[.slice A n c] w fun e w' => ∃ B cb, e = .returned (.agg #[.int .i64 5, .slice none 0 0, .int .i64 0, .slice none 0 0, .slice none 0 0, .slice none 0 0, .slice B n cb, .slice none 0 0]) ∧ VecS w' (.agg #[.int .i64 5, .slice none 0 0, .int .i64 0, .slice none 0 0, .slice none 0 0, .slice none 0 0, .slice B n cb, .slice none 0 0]) (VD.chars l) (New w.heap.size) ∧ Ext w w' := by
  refine (vchars_own A l n hn c w hl hs).mono ?_
  rintro e w' ⟨B, cb, rfl, hown, hx⟩
  refine ⟨B, cb, rfl, VecS.mk ?_ (In.one (A := B) (n := n) (c := cb) (fun a ha => ?_) (.inr rfl) ⟨_, rfl⟩ (.inr rfl) (.inr rfl) (.inr rfl) (.inl rfl) (.inr rfl)), hx⟩
  · subst hn
    exact .inr (.inr (.inr (.inr (.inr (.inl ⟨l, B, cb, rfl, hl, rfl, Sl.own hown⟩)))))
  · obtain ⟨A', c', e', _, hA⟩ := own_form hown
    cases e'
    exact (hA a ha).1
theorem boxes_s (A : Option Addr) (cs : List Value) (n c : Nat) (h1 : ∀ u ∈ cs, u.oneCell' = true) (w : World) (hl : n ≤ 1048576) (hs : Sl w 9 A n cs) : Calls Try.prog 99 #[.slice A n c] w fun e w' => ∃ v, e = .returned v ∧ VecS w' v (VD.boxes cs) (New w.heap.size) ∧ Ext w w' := by
  have hlen := hs.1
  have hc := fun w hs => cloneArr A n c cs w hs h1 (by omega)
  have HS := hs
  have H1 := Lib.hid h1
  have HL := Lib.hid hlen
  clear hs h1 hlen
  have E := Ext.refl w
  go_enter Try.func99, Try.ntmps99
  go_wp2_with (refine allocsV rfl rfl ?_; intro B2 w2 bB2 cB2 x L2 R2; have z1 := x.size; replace E := E.trans x; replace HS := HS.ext x; clear x)
  refine (hc _ HS).mono ?_
  rintro e w3 ⟨v, rfl, hown, x⟩
  have z2 := x.size
  replace E := E.trans x
  replace HS := HS.ext x
  replace L2 := L2.ext x
  replace R2 := R2.ext x
  clear x
  clear HS
  have hof := own_form hown
  obtain ⟨B, cb, rfl, -, -⟩ := own_form hown
  have V1 : VecS w3 (.agg #[.int .i64 6, .slice none 0 0, .int .i64 0, .slice none 0 0, .slice none 0 0, .slice none 0 0, .slice none 0 0, .slice B n cb]) (VD.boxes cs) (New w2.heap.size) := VecS.mk (.inr (.inr (.inr (.inr (.inr (.inr ⟨n, cs, B, cb, rfl, hl, HL.out, H1.out, rfl, Sl.own hown⟩)))))) (In.one (A := B) (n := n) (c := cb) (fun a ha => by obtain ⟨A', c', e', _, hA⟩ := hof; cases e'; exact (hA a ha).1) (.inr rfl) ⟨_, rfl⟩ (.inr rfl) (.inr rfl) (.inr rfl) (.inr rfl) (.inl rfl))
  have hF := V1.is.flat
  clear hown hof
  go_wp2_with (have hRl := (R2).lt (Nat.zero_lt_succ _); refine storesV (B := B2) rfl rfl rfl (v := (.agg #[.int .i64 6, .slice none 0 0, .int .i64 0, .slice none 0 0, .slice none 0 0, .slice none 0 0, .slice none 0 0, .slice B n cb])) rfl R2 hF ?_; clear L2; intro w4 g L2 RQ; have z3 := g.size; replace E := grown_ext E g (by omega); replace V1 := V1.grown g (by dsimp only [New]; omega); clear R2; have R2 := RQ; clear RQ hRl; clear g)
  exact bodyPost_ret (results_lay rfl rfl (ldV L2)) rfl ⟨_, rfl, V1.mono (fun i _ h => by dsimp only [New] at *; omega), E⟩
end Go.Proofs.Ytidnikndjhfgaaa
