/- Contracts of squeeze: Squeeze of numbers. -/
import Derived.Test.YtdkgiklbmbkdaaaQk
import Derived.Test.YtdkgiklbmbkdaaaQf
namespace Go.Proofs.Ytdkgiklbmbkdaaa
open Go.RowKit Bv Fl
attribute [local go_sem ↓] Go.wp_at_zero Go.wp_at_succ
def SqPost (r : Nat) (v0 : Value) (K : Nat) (l : List Nat) (w : World) (e : Ending) (w' : World) : Prop :=
  ∃ v, e = .returned v ∧ (∀ S, NumS w v0 K l S → NumS w' v r l (fun i => S i ∨ New w.heap.size i)) ∧ Ext w w'
set_option maxHeartbeats 2000000
set_option maxRecDepth 100000 in
theorem squeeze_num (v : Value) (K : Nat) (l : List Nat) (w : World) (h : IsNum w v K l) : Calls Try.prog 37 #[v] w (SqPost (leastL l) v K l w) := by
  have hF := h.flat
  have cI := fun w h => into_num v K l (leastL l : Nat) w h
  have cL := fun w h => least_any v K l w h
  have hfit : fitsL l ((leastL l : Nat) : Int) = true := by rw [fits_leq (leastL_le l)]; simp
  rw [hfit, Int.toNat_natCast] at cI
  generalize leastL l = r at *
  have N0 := NumS.all h
  have HN := h
  clear h hfit
  go_enter Try.func37, Try.ntmps37
  go_wp2_with (first | (refine boxsV (v := v) rfl rfl rfl hF ?_; intro B1 w1 b1 c1 x1 L1 R1) | (refine allocsV rfl rfl ?_; intro B2 w2 b2 c2 x2 L2 R2))
  simp only [Act.put, List.setIfInBounds_toArray, List.set_cons_zero, List.set_cons_succ]
  replace L1 := L1.ext x2
  have e2 := x1.trans x2
  replace N0 := N0.ext e2
  go_upto_region 1 with fail
  go_cut [3, 4] (fun s3 s4 wx => ∃ B v2, s3 = .pointer (some ⟨B, 0, none⟩) ∧ s4 = .bool true ∧ Lay 8 wx B v2 ∧ Flat 8 v2 ∧ w2.heap.size ≤ B ∧ Only w v K l wx v2 r (fun i => w2.heap.size ≤ i ∧ i ≠ B) ∧ Ext w2 wx)
  case first =>
    refine wp_region_held_drew (S := (fun w' => Ext w2 w')) (by kernel_rfl) ((Ext.refl w2).drew) (fun hHeld => ?_)
    have hz0 : w2.heap.size ≤ w2.drew.heap.size := Nat.le_refl _
    replace N0 := N0.ext (Ext.refl w2).drew
    refine wpAnyH_take (i := 0) (oi := { dst := some 6, op := Go.Op.load 47 (Go.Operand.tmp 1), type := 47, pos := "squeeze.go:47", after := #[], guard := none }) (v := v) rfl (by kernel_rfl) (by kernel_rfl) (by kernel_rfl) (fun _ _ _ h => h) (yieldV (by rfl) rfl rfl fun w' hx => L1.ext hx) hHeld ?_
    try simp only [Act.put, List.setIfInBounds_toArray, List.set_cons_zero, List.set_cons_succ]
    refine wpAnyH_take (i := 1) (oi := { dst := some 7, op := Go.Op.load 47 (Go.Operand.tmp 1), type := 47, pos := "squeeze.go:47", after := #[], guard := none }) (v := v) rfl (by kernel_rfl) (by kernel_rfl) (by kernel_rfl) (fun _ _ _ h => h) (yieldV (by rfl) rfl rfl fun w' hx => L1.ext hx) hHeld ?_
    try simp only [Act.put, List.setIfInBounds_toArray, List.set_cons_zero, List.set_cons_succ]
    refine wpAnyH_ready (rs := [2, 7]) (by kernel_rfl) (by simp) ?_
    refine AllReadyH.cons (o := { dst := some 8, op := Go.Op.call { callee := Go.Callee.value (Go.Operand.func 44), args := #[Go.Operand.tmp 7], argTypes := #[47] }, type := 3, pos := "squeeze.go:47", after := #[{ on := 1, ground := Go.Ground.data }], guard := none }) rfl (fun K hK => ?_) (AllReadyH.cons (o := { dst := some 3, op := Go.Op.alloc 47, type := 0, pos := "squeeze.go:47", after := #[], guard := none }) rfl (fun K hK => ?_) (AllReadyH.nil))
    · go_simp
      refine (cL _ N0.is).mono ?_
      rintro e w3 ⟨rfl, hx⟩
      replace N0 := N0.ext hx
      have hz2 := hx.size
      replace hHeld := Ext.trans hHeld hx
      refine hK.out _ _ hHeld (fun _ => ?_)
      clear hK K hx
      try simp only [Act.put, List.setIfInBounds_toArray, List.set_cons_zero, List.set_cons_succ]
      refine wpAnyH_ready (rs := [3, 7]) (by kernel_rfl) (by simp) ?_
      refine AllReadyH.cons (o := { dst := some 9, op := Go.Op.call { callee := Go.Callee.value (Go.Operand.func 43), args := #[Go.Operand.tmp 6, Go.Operand.tmp 8], argTypes := #[47, 3] }, type := 88, pos := "squeeze.go:47", after := #[{ on := 0, ground := Go.Ground.data }, { on := 2, ground := Go.Ground.data }, { on := 2, ground := Go.Ground.chain }], guard := none }) rfl (fun K hK => ?_) (AllReadyH.cons (o := { dst := some 3, op := Go.Op.alloc 47, type := 0, pos := "squeeze.go:47", after := #[], guard := none }) rfl (fun K hK => ?_) (AllReadyH.nil))
      · go_simp
        have h0 := e2.trans hHeld
        refine (cI _ N0.is).mono ?_
        rintro e w4 ⟨v2, rfl, hq, -, hx⟩
        have N2 := Only.into h0 (hq rfl)
        have hF2 := (N2.is HN).flat
        clear hq h0
        replace N0 := N0.ext hx
        have hz3 := hx.size
        replace hHeld := Ext.trans hHeld hx
        refine hK.out _ _ hHeld (fun _ => ?_)
        clear hK K hx
        try simp only [Act.put, List.setIfInBounds_toArray, List.set_cons_zero, List.set_cons_succ]
        refine wpAnyH_take (i := 4) (oi := { dst := some 5, op := Go.Op.move (Go.Operand.tmp 9), type := 88, pos := "squeeze.go:47", after := #[{ on := 3, ground := Go.Ground.data }], guard := none }) (v := ?v3) rfl (by kernel_rfl) (by kernel_rfl) (by kernel_rfl) (fun _ _ _ h => h) (Or.inl ⟨by rfl, ?hy3⟩) hHeld ?rest3
        case hy3 => (intro w hSw; (try dsimp only at hSw); go_simp; (first | done | with_reducible rfl))
        try simp only [Act.put, List.setIfInBounds_toArray, List.set_cons_zero, List.set_cons_succ]
        refine wpAnyH_take (i := 5) (oi := { dst := some 10, op := Go.Op.extract (Go.Operand.tmp 5) 0, type := 47, pos := "squeeze.go:47", after := #[{ on := 4, ground := Go.Ground.data }], guard := none }) (v := ?v4) rfl (by kernel_rfl) (by kernel_rfl) (by kernel_rfl) (fun _ _ _ h => h) (Or.inl ⟨by rfl, ?hy4⟩) hHeld ?rest4
        case hy4 => (intro w hSw; (try dsimp only at hSw); go_simp; (first | done | with_reducible rfl))
        try simp only [Act.put, List.setIfInBounds_toArray, List.set_cons_zero, List.set_cons_succ]
        refine wpAnyH_take (i := 6) (oi := { dst := some 11, op := Go.Op.extract (Go.Operand.tmp 5) 1, type := 4, pos := "squeeze.go:47", after := #[{ on := 4, ground := Go.Ground.data }, { on := 8, ground := Go.Ground.gcOnly Go.Departure.lateStores }], guard := none }) (v := ?v5) rfl (by kernel_rfl) (by kernel_rfl) (by kernel_rfl) (fun _ _ _ h => h) (Or.inl ⟨by rfl, ?hy5⟩) hHeld ?rest5
        case hy5 => (intro w hSw; (try dsimp only at hSw); go_simp; (first | done | with_reducible rfl))
        try simp only [Act.put, List.setIfInBounds_toArray, List.set_cons_zero, List.set_cons_succ]
        refine wpAnyH_ready (rs := [7]) (by kernel_rfl) (by simp) ?_
        refine AllReadyH.cons (o := { dst := some 3, op := Go.Op.alloc 47, type := 0, pos := "squeeze.go:47", after := #[], guard := none }) rfl (fun K hK => ?_) (AllReadyH.nil)
        rw [if_pos (by rfl)]
        refine allocV rfl ?_
        intro B3 w5 hB3l hB3r hx L3 R3
        replace N0 := N0.ext hx
        replace N2 := N2.ext hx
        have hz7 := hx.size
        replace hHeld := Ext.trans hHeld hx
        refine hK.out _ _ hHeld (fun _ => ?_)
        clear hK K hx
        try simp only [Act.put, List.setIfInBounds_toArray, List.set_cons_zero, List.set_cons_succ]
        refine wpAnyH_ready (rs := [8]) (by kernel_rfl) (by simp) ?_
        refine AllReadyH.cons (o := { dst := none, op := Go.Op.store 47 (Go.Operand.tmp 3) (Go.Operand.tmp 10), type := 0, pos := "squeeze.go:47", after := #[{ on := 7, ground := Go.Ground.data }, { on := 5, ground := Go.Ground.data }, { on := 3, ground := Go.Ground.chain }, { on := 0, ground := Go.Ground.phase }, { on := 1, ground := Go.Ground.phase }, { on := 2, ground := Go.Ground.phase }, { on := 3, ground := Go.Ground.phase }, { on := 4, ground := Go.Ground.phase }, { on := 5, ground := Go.Ground.phase }, { on := 6, ground := Go.Ground.textOnly Go.Departure.lateStores }, { on := 7, ground := Go.Ground.phase }], guard := none }) rfl (fun K hK => ?_) (AllReadyH.nil)
        rw [if_pos (by rfl)]
        have hRl := (R3).lt (Nat.zero_lt_succ _)
        have hHs := hHeld.size
        refine storeV (by rfl) (by rfl) (v := v2) (by rfl) R3 hF2 ?_
        intro ws hg L9 R9
        replace N0 := N0.grown hg (by omega)
        replace N2 := N2.grown hg (by dsimp only [New]; omega) (by omega)
        have hz8 := hg.size
        replace hHeld := grown_ext hHeld hg (by omega)
        have L3 := L9
        have R3 := R9
        clear L9 R9 hg
        refine hK.out _ _ hHeld (fun _ => ?_)
        clear hK K
        try simp only [Act.put]
        refine wpAnyH_take (i := 9) (oi := { dst := some 4, op := Go.Op.assign (Go.Operand.tmp 11), type := 4, pos := "squeeze.go:47", after := #[{ on := 6, ground := Go.Ground.data }, { on := 8, ground := Go.Ground.chain }, { on := 0, ground := Go.Ground.phase }, { on := 1, ground := Go.Ground.phase }, { on := 2, ground := Go.Ground.phase }, { on := 3, ground := Go.Ground.phase }, { on := 4, ground := Go.Ground.phase }, { on := 5, ground := Go.Ground.phase }, { on := 6, ground := Go.Ground.phase }, { on := 7, ground := Go.Ground.phase }, { on := 8, ground := Go.Ground.phase }], guard := none }) (v := ?v6) rfl (by kernel_rfl) (by kernel_rfl) (by kernel_rfl) (fun _ _ _ h => h) (Or.inl ⟨by rfl, ?hy6⟩) hHeld ?rest6
        case hy6 => (intro w hSw; (try dsimp only at hSw); go_simp; (first | done | with_reducible rfl))
        try simp only [Act.put, List.setIfInBounds_toArray, List.set_cons_zero, List.set_cons_succ]
        refine wpAnyH_done (by kernel_rfl) ?_ _
        go_wp2_with fail
        go_meet
        exact ⟨B3, v2, rfl, rfl, L3, hF2, by omega, N2.mono (fun i hi h => by dsimp only [New] at *; omega), hHeld⟩
      · rw [if_pos (by rfl)]
        refine allocV rfl ?_
        intro B3 w5 hB3l hB3r hx L3 R3
        replace N0 := N0.ext hx
        have hz7 := hx.size
        replace hHeld := Ext.trans hHeld hx
        refine hK.out _ _ hHeld (fun _ => ?_)
        clear hK K hx
        try simp only [Act.put, List.setIfInBounds_toArray, List.set_cons_zero, List.set_cons_succ]
        refine wpAnyH_ready (rs := [3]) (by kernel_rfl) (by simp) ?_
        refine AllReadyH.cons (o := { dst := some 9, op := Go.Op.call { callee := Go.Callee.value (Go.Operand.func 43), args := #[Go.Operand.tmp 6, Go.Operand.tmp 8], argTypes := #[47, 3] }, type := 88, pos := "squeeze.go:47", after := #[{ on := 0, ground := Go.Ground.data }, { on := 2, ground := Go.Ground.data }, { on := 2, ground := Go.Ground.chain }], guard := none }) rfl (fun K hK => ?_) (AllReadyH.nil)
        go_simp
        have h0 := e2.trans hHeld
        refine (cI _ N0.is).mono ?_
        rintro e w4 ⟨v2, rfl, hq, -, hx⟩
        have N2 := Only.into h0 (hq rfl)
        have hF2 := (N2.is HN).flat
        clear hq h0
        replace N0 := N0.ext hx
        replace L3 := L3.ext hx
        replace R3 := R3.ext hx
        have hz3 := hx.size
        replace hHeld := Ext.trans hHeld hx
        refine hK.out _ _ hHeld (fun _ => ?_)
        clear hK K hx
        try simp only [Act.put, List.setIfInBounds_toArray, List.set_cons_zero, List.set_cons_succ]
        refine wpAnyH_take (i := 4) (oi := { dst := some 5, op := Go.Op.move (Go.Operand.tmp 9), type := 88, pos := "squeeze.go:47", after := #[{ on := 3, ground := Go.Ground.data }], guard := none }) (v := ?v7) rfl (by kernel_rfl) (by kernel_rfl) (by kernel_rfl) (fun _ _ _ h => h) (Or.inl ⟨by rfl, ?hy7⟩) hHeld ?rest7
        case hy7 => (intro w hSw; (try dsimp only at hSw); go_simp; (first | done | with_reducible rfl))
        try simp only [Act.put, List.setIfInBounds_toArray, List.set_cons_zero, List.set_cons_succ]
        refine wpAnyH_take (i := 5) (oi := { dst := some 10, op := Go.Op.extract (Go.Operand.tmp 5) 0, type := 47, pos := "squeeze.go:47", after := #[{ on := 4, ground := Go.Ground.data }], guard := none }) (v := ?v8) rfl (by kernel_rfl) (by kernel_rfl) (by kernel_rfl) (fun _ _ _ h => h) (Or.inl ⟨by rfl, ?hy8⟩) hHeld ?rest8
        case hy8 => (intro w hSw; (try dsimp only at hSw); go_simp; (first | done | with_reducible rfl))
        try simp only [Act.put, List.setIfInBounds_toArray, List.set_cons_zero, List.set_cons_succ]
        refine wpAnyH_take (i := 6) (oi := { dst := some 11, op := Go.Op.extract (Go.Operand.tmp 5) 1, type := 4, pos := "squeeze.go:47", after := #[{ on := 4, ground := Go.Ground.data }, { on := 8, ground := Go.Ground.gcOnly Go.Departure.lateStores }], guard := none }) (v := ?v9) rfl (by kernel_rfl) (by kernel_rfl) (by kernel_rfl) (fun _ _ _ h => h) (Or.inl ⟨by rfl, ?hy9⟩) hHeld ?rest9
        case hy9 => (intro w hSw; (try dsimp only at hSw); go_simp; (first | done | with_reducible rfl))
        try simp only [Act.put, List.setIfInBounds_toArray, List.set_cons_zero, List.set_cons_succ]
        refine wpAnyH_ready (rs := [8]) (by kernel_rfl) (by simp) ?_
        refine AllReadyH.cons (o := { dst := none, op := Go.Op.store 47 (Go.Operand.tmp 3) (Go.Operand.tmp 10), type := 0, pos := "squeeze.go:47", after := #[{ on := 7, ground := Go.Ground.data }, { on := 5, ground := Go.Ground.data }, { on := 3, ground := Go.Ground.chain }, { on := 0, ground := Go.Ground.phase }, { on := 1, ground := Go.Ground.phase }, { on := 2, ground := Go.Ground.phase }, { on := 3, ground := Go.Ground.phase }, { on := 4, ground := Go.Ground.phase }, { on := 5, ground := Go.Ground.phase }, { on := 6, ground := Go.Ground.textOnly Go.Departure.lateStores }, { on := 7, ground := Go.Ground.phase }], guard := none }) rfl (fun K hK => ?_) (AllReadyH.nil)
        rw [if_pos (by rfl)]
        have hRl := (R3).lt (Nat.zero_lt_succ _)
        have hHs := hHeld.size
        refine storeV (by rfl) (by rfl) (v := v2) (by rfl) R3 hF2 ?_
        intro ws hg L9 R9
        replace N0 := N0.grown hg (by omega)
        replace N2 := N2.grown hg (by dsimp only [New]; omega) (by omega)
        have hz8 := hg.size
        replace hHeld := grown_ext hHeld hg (by omega)
        have L3 := L9
        have R3 := R9
        clear L9 R9 hg
        refine hK.out _ _ hHeld (fun _ => ?_)
        clear hK K
        try simp only [Act.put]
        refine wpAnyH_take (i := 9) (oi := { dst := some 4, op := Go.Op.assign (Go.Operand.tmp 11), type := 4, pos := "squeeze.go:47", after := #[{ on := 6, ground := Go.Ground.data }, { on := 8, ground := Go.Ground.chain }, { on := 0, ground := Go.Ground.phase }, { on := 1, ground := Go.Ground.phase }, { on := 2, ground := Go.Ground.phase }, { on := 3, ground := Go.Ground.phase }, { on := 4, ground := Go.Ground.phase }, { on := 5, ground := Go.Ground.phase }, { on := 6, ground := Go.Ground.phase }, { on := 7, ground := Go.Ground.phase }, { on := 8, ground := Go.Ground.phase }], guard := none }) (v := ?v10) rfl (by kernel_rfl) (by kernel_rfl) (by kernel_rfl) (fun _ _ _ h => h) (Or.inl ⟨by rfl, ?hy10⟩) hHeld ?rest10
        case hy10 => (intro w hSw; (try dsimp only at hSw); go_simp; (first | done | with_reducible rfl))
        try simp only [Act.put, List.setIfInBounds_toArray, List.set_cons_zero, List.set_cons_succ]
        refine wpAnyH_done (by kernel_rfl) ?_ _
        go_wp2_with fail
        go_meet
        exact ⟨B3, v2, rfl, rfl, L3, hF2, by omega, N2.mono (fun i hi h => by dsimp only [New] at *; omega), hHeld⟩
    · rw [if_pos (by rfl)]
      refine allocV rfl ?_
      intro B3 w5 hB3l hB3r hx L3 R3
      replace N0 := N0.ext hx
      have hz7 := hx.size
      replace hHeld := Ext.trans hHeld hx
      refine hK.out _ _ hHeld (fun _ => ?_)
      clear hK K hx
      try simp only [Act.put, List.setIfInBounds_toArray, List.set_cons_zero, List.set_cons_succ]
      refine wpAnyH_ready (rs := [2]) (by kernel_rfl) (by simp) ?_
      refine AllReadyH.cons (o := { dst := some 8, op := Go.Op.call { callee := Go.Callee.value (Go.Operand.func 44), args := #[Go.Operand.tmp 7], argTypes := #[47] }, type := 3, pos := "squeeze.go:47", after := #[{ on := 1, ground := Go.Ground.data }], guard := none }) rfl (fun K hK => ?_) (AllReadyH.nil)
      go_simp
      refine (cL _ N0.is).mono ?_
      rintro e w3 ⟨rfl, hx⟩
      replace N0 := N0.ext hx
      replace L3 := L3.ext hx
      replace R3 := R3.ext hx
      have hz2 := hx.size
      replace hHeld := Ext.trans hHeld hx
      refine hK.out _ _ hHeld (fun _ => ?_)
      clear hK K hx
      try simp only [Act.put, List.setIfInBounds_toArray, List.set_cons_zero, List.set_cons_succ]
      refine wpAnyH_ready (rs := [3]) (by kernel_rfl) (by simp) ?_
      refine AllReadyH.cons (o := { dst := some 9, op := Go.Op.call { callee := Go.Callee.value (Go.Operand.func 43), args := #[Go.Operand.tmp 6, Go.Operand.tmp 8], argTypes := #[47, 3] }, type := 88, pos := "squeeze.go:47", after := #[{ on := 0, ground := Go.Ground.data }, { on := 2, ground := Go.Ground.data }, { on := 2, ground := Go.Ground.chain }], guard := none }) rfl (fun K hK => ?_) (AllReadyH.nil)
      go_simp
      have h0 := e2.trans hHeld
      refine (cI _ N0.is).mono ?_
      rintro e w4 ⟨v2, rfl, hq, -, hx⟩
      have N2 := Only.into h0 (hq rfl)
      have hF2 := (N2.is HN).flat
      clear hq h0
      replace N0 := N0.ext hx
      replace L3 := L3.ext hx
      replace R3 := R3.ext hx
      have hz3 := hx.size
      replace hHeld := Ext.trans hHeld hx
      refine hK.out _ _ hHeld (fun _ => ?_)
      clear hK K hx
      try simp only [Act.put, List.setIfInBounds_toArray, List.set_cons_zero, List.set_cons_succ]
      refine wpAnyH_take (i := 4) (oi := { dst := some 5, op := Go.Op.move (Go.Operand.tmp 9), type := 88, pos := "squeeze.go:47", after := #[{ on := 3, ground := Go.Ground.data }], guard := none }) (v := ?v11) rfl (by kernel_rfl) (by kernel_rfl) (by kernel_rfl) (fun _ _ _ h => h) (Or.inl ⟨by rfl, ?hy11⟩) hHeld ?rest11
      case hy11 => (intro w hSw; (try dsimp only at hSw); go_simp; (first | done | with_reducible rfl))
      try simp only [Act.put, List.setIfInBounds_toArray, List.set_cons_zero, List.set_cons_succ]
      refine wpAnyH_take (i := 5) (oi := { dst := some 10, op := Go.Op.extract (Go.Operand.tmp 5) 0, type := 47, pos := "squeeze.go:47", after := #[{ on := 4, ground := Go.Ground.data }], guard := none }) (v := ?v12) rfl (by kernel_rfl) (by kernel_rfl) (by kernel_rfl) (fun _ _ _ h => h) (Or.inl ⟨by rfl, ?hy12⟩) hHeld ?rest12
      case hy12 => (intro w hSw; (try dsimp only at hSw); go_simp; (first | done | with_reducible rfl))
      try simp only [Act.put, List.setIfInBounds_toArray, List.set_cons_zero, List.set_cons_succ]
      refine wpAnyH_take (i := 6) (oi := { dst := some 11, op := Go.Op.extract (Go.Operand.tmp 5) 1, type := 4, pos := "squeeze.go:47", after := #[{ on := 4, ground := Go.Ground.data }, { on := 8, ground := Go.Ground.gcOnly Go.Departure.lateStores }], guard := none }) (v := ?v13) rfl (by kernel_rfl) (by kernel_rfl) (by kernel_rfl) (fun _ _ _ h => h) (Or.inl ⟨by rfl, ?hy13⟩) hHeld ?rest13
      case hy13 => (intro w hSw; (try dsimp only at hSw); go_simp; (first | done | with_reducible rfl))
      try simp only [Act.put, List.setIfInBounds_toArray, List.set_cons_zero, List.set_cons_succ]
      refine wpAnyH_ready (rs := [8]) (by kernel_rfl) (by simp) ?_
      refine AllReadyH.cons (o := { dst := none, op := Go.Op.store 47 (Go.Operand.tmp 3) (Go.Operand.tmp 10), type := 0, pos := "squeeze.go:47", after := #[{ on := 7, ground := Go.Ground.data }, { on := 5, ground := Go.Ground.data }, { on := 3, ground := Go.Ground.chain }, { on := 0, ground := Go.Ground.phase }, { on := 1, ground := Go.Ground.phase }, { on := 2, ground := Go.Ground.phase }, { on := 3, ground := Go.Ground.phase }, { on := 4, ground := Go.Ground.phase }, { on := 5, ground := Go.Ground.phase }, { on := 6, ground := Go.Ground.textOnly Go.Departure.lateStores }, { on := 7, ground := Go.Ground.phase }], guard := none }) rfl (fun K hK => ?_) (AllReadyH.nil)
      rw [if_pos (by rfl)]
      have hRl := (R3).lt (Nat.zero_lt_succ _)
      have hHs := hHeld.size
      refine storeV (by rfl) (by rfl) (v := v2) (by rfl) R3 hF2 ?_
      intro ws hg L9 R9
      replace N0 := N0.grown hg (by omega)
      replace N2 := N2.grown hg (by dsimp only [New]; omega) (by omega)
      have hz8 := hg.size
      replace hHeld := grown_ext hHeld hg (by omega)
      have L3 := L9
      have R3 := R9
      clear L9 R9 hg
      refine hK.out _ _ hHeld (fun _ => ?_)
      clear hK K
      try simp only [Act.put]
      refine wpAnyH_take (i := 9) (oi := { dst := some 4, op := Go.Op.assign (Go.Operand.tmp 11), type := 4, pos := "squeeze.go:47", after := #[{ on := 6, ground := Go.Ground.data }, { on := 8, ground := Go.Ground.chain }, { on := 0, ground := Go.Ground.phase }, { on := 1, ground := Go.Ground.phase }, { on := 2, ground := Go.Ground.phase }, { on := 3, ground := Go.Ground.phase }, { on := 4, ground := Go.Ground.phase }, { on := 5, ground := Go.Ground.phase }, { on := 6, ground := Go.Ground.phase }, { on := 7, ground := Go.Ground.phase }, { on := 8, ground := Go.Ground.phase }], guard := none }) (v := ?v14) rfl (by kernel_rfl) (by kernel_rfl) (by kernel_rfl) (fun _ _ _ h => h) (Or.inl ⟨by rfl, ?hy14⟩) hHeld ?rest14
      case hy14 => (intro w hSw; (try dsimp only at hSw); go_simp; (first | done | with_reducible rfl))
      try simp only [Act.put, List.setIfInBounds_toArray, List.set_cons_zero, List.set_cons_succ]
      refine wpAnyH_done (by kernel_rfl) ?_ _
      go_wp2_with fail
      go_meet
      exact ⟨B3, v2, rfl, rfl, L3, hF2, by omega, N2.mono (fun i hi h => by dsimp only [New] at *; omega), hHeld⟩
  case rest =>
    obtain ⟨B3, v2, rfl, rfl, L3, hF2, hB3, N2, hx⟩ := hcut
    replace R2 := R2.ext hx
    have hz := hx.size
    go_wp2_with (first | (refine loadsV rfl rfl rfl L3 ?_) | (refine storesV rfl rfl rfl (v := v2) rfl R2 hF2 ?_; intro w9 g9 L9 R9))
    have e9 := grown_ext (e2.trans hx) g9 (by omega)
    have N9 := N2.grown g9 (by omega) (by omega)
    exact bodyPost_ret (results_lay rfl rfl (ldV L9)) rfl ⟨v2, rfl, N9.post (fun i _ h => by omega), e9⟩
end Go.Proofs.Ytdkgiklbmbkdaaa
