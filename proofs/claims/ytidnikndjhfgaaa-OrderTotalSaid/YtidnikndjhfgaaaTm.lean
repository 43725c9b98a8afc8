/- OrderCells. -/
import Derived.Test.YtidnikndjhfgaaaTk
import Derived.Test.YtidnikndjhfgaaaTe
import Derived.Test.YtidnikndjhfgaaaTl
namespace Go.Proofs.Ytidnikndjhfgaaa
open Go.ChangeShapes Go.WideShapes Go.RowKit Bv Fl
set_option maxHeartbeats 2000000
set_option maxRecDepth 100000
theorem flat_tail {c0 c1 c2 c3 c4 c5 c6 c7 c8 : Value} (h : Flat 9 (.agg #[c0, c1, c2, c3, c4, c5, c6, c7, c8])) : Flat 8 (.agg #[c1, c2, c3, c4, c5, c6, c7, c8]) := by
  obtain ⟨cs, e, _, h1⟩ := h
  cases e
  refine ⟨_, rfl, rfl, ?_⟩
  simpa using (by simpa using h1 : _ ∧ _).2
theorem OIS.mono {w : World} {A : Option Addr} {n : Nat} {L : List It} {X : List Int} {S S' : Nat → Prop} (h : OIS w A n L X S) (hS : ∀ i, i < w.heap.size → S i → S' i) : OIS w A n L X S' := ⟨h.lenL, h.len, h.lim, fun w2 hs hk => h.sl w2 hs fun i hi hs => hk i hi (hS i hi hs), h.below⟩
theorem ocells_main (sA : Option Addr) (ns sc : Nat) (iA : Option Addr) (m ic : Nat) (fl zc : Int) (w : World)
    (cg : ∀ w', Ext w w' → Calls Try.prog 14 #[(.agg #[.slice sA ns sc, .slice iA m ic, .int .i64 fl])] w' (GoodB m zc fl w')) (z Q i k : Nat) (down : Bool) (hz : 1 ≤ z) (hz2 : z ≤ 300) (hm : m ≤ 9223372036854775807) (hQ : m / z = Q) (X : List Int) (hX : m = X.length) (ct : zc = 0 → fl < 2 → ∀ w', Ext w w' → Calls Try.prog 15 #[(.agg #[.slice sA ns sc, .slice iA m ic, .int .i64 fl])] w' fun e w2 => ∃ tA tc L, e = .returned (.agg #[.slice sA ns sc, .slice tA m tc, .int .i64 fl]) ∧ OIS w2 tA m L X (New w'.heap.size) ∧ Ext w' w2)
    (co : zc = 0 → fl < 2 → ∀ w', Ext w w' → Calls Try.prog 16 #[(.agg #[.slice sA ns sc, .slice iA m ic, .int .i64 fl])] w' (OfA X w')) (h5 : ¬ Q ≤ i) (h6 : ¬ Q ≤ k) : Calls Try.prog 4 #[(.agg #[.slice sA ns sc, .slice iA m ic, .int .i64 fl]), .int .i64 (z : Int), .int .i64 (i : Int), .int .i64 (k : Int), .bool down] w fun e w' => e = .returned (.bool true) ∧ Ext w w' := by
  have hF := pl_flat sA ns sc iA m ic fl
  have E := Ext.refl w
  have hfit : ∀ x : Nat, x < Q → x * z + z ≤ m := fun x hx => by
    have h1 : (x + 1) * z ≤ Q * z := Nat.mul_le_mul_right _ hx
    have h2 : Q * z ≤ m := by rw [← hQ]; exact Nat.div_mul_le_self _ _
    rw [Nat.add_mul, Nat.one_mul] at h1
    omega
  have fi := hfit i (by omega)
  have fk := hfit k (by omega)
  have kc : ∀ v w', OV w' v X → Calls Try.prog 17 #[v, .int .i64 (z : Int), .int .i64 (i : Int), .int .i64 (k : Int)] w' fun e w2 => e = .returned (.int .i64 (cellZ X (i * z) (k * z) z)) ∧ Ext w' w2 := fun v w' hv => cells_any v X z i k _ _ w' hv (by omega) rfl rfl (by omega) (by omega)
  have kl : ∀ v w', OV w' v X → Calls Try.prog 19 #[v, .int .i64 (z : Int), .int .i64 (i : Int), .int .i64 (k : Int), .bool down] w' fun e w2 => e = .returned (.bool (lessZ X z i k down)) ∧ Ext w' w2 := fun v w' hv => less_any v X z i k down w' hv (by omega) (by omega) (by omega)
  have rc : ∀ A c L w', OI w' A m L X → Calls Try.prog 18 #[.slice A m c, .int .i64 (z : Int), .int .i64 (i : Int), .int .i64 (k : Int)] w' fun e w2 => e = .returned (.int .i64 (cellZ X (i * z) (k * z) z)) ∧ Ext w' w2 := fun A c L w' hv => rcells_any A m c L X z i k _ _ w' hv (by omega) rfl rfl (by omega) (by omega)
  have rl : ∀ A c L w', OI w' A m L X → Calls Try.prog 20 #[.slice A m c, .int .i64 (z : Int), .int .i64 (i : Int), .int .i64 (k : Int), .bool down] w' fun e w2 => e = .returned (.bool (lessZ X z i k down)) ∧ Ext w' w2 := fun A c L w' hv => rless_any A m c L X z i k down w' hv (by omega) (by omega) (by omega)
  clear hfit fi fk
  generalize cellZ X (i * z) (k * z) z = cz at *
  generalize lessZ X z i k down = lz at *
  clear hX
  have eQ : (m : Int).tdiv (z : Int) = (Q : Int) := by rw [Int.tdiv_eq_ediv_of_nonneg (by omega), ← hQ]; rfl
  have eQ2 : (m : Int) / (z : Int) = (Q : Int) := by rw [← hQ]; rfl
  have e18 : decide ((z : Int) < 1) = false := decide_eq_false (by omega)
  have e22 : decide ((300 : Int) < (z : Int)) = false := decide_eq_false (by omega)
  have e26 : decide ((i : Int) < 0) = false := decide_eq_false (by omega)
  have e30 : decide ((k : Int) < 0) = false := decide_eq_false (by omega)
  have hQm : Q ≤ m := by rw [← hQ]; exact Nat.div_le_self _ _
  have ez : ((z : Int) == 0) = false := by simp; omega
  clear hQ
  have e39 : decide (Q ≤ i) = false := decide_eq_false h5
  have e48 : decide (Q ≤ k) = false := decide_eq_false h6
  go_enter Try.func4, Try.ntmps4
  have TB5 : True := trivial
  go_wp2_with (first | (clear TB5; refine boxsP (v := (.agg #[.slice sA ns sc, .slice iA m ic, .int .i64 fl])) rfl rfl rfl hF ?_; intro B5 w5 bB5 cB5 XB5 LB5 RB5; have z1 := XB5.size; replace E := E.trans XB5; have cB5_1 := lay_cell LB5 (j := 1) rfl; clear RB5) | (refine loadsP (B := B5) (by rfl) rfl rfl LB5 ?_))
  refine (cg _ E).mono ?_
  rintro e w14 ⟨g, rfl, hg, x⟩
  cases g
  · have z2 := x.size
    replace E := E.trans x
    replace LB5 := LB5.ext x
    replace cB5_1 := cell_ext (x) cB5_1
    clear x
    go_wp2_with fail
    refine (oawake_any _).mono ?_
    rintro e w50 ⟨rfl, x⟩
    have z3 := x.size
    replace E := E.trans x
    replace LB5 := LB5.ext x
    replace cB5_1 := cell_ext (x) cB5_1
    clear x
    go_wp2_with fail
    go_ret
    exact ⟨rfl, E⟩
  · obtain ⟨hg1, hg2, hg3⟩ := hg rfl
    have ct' := ct hg2 hg3
    have co' := co hg2 hg3
    clear ct co hg hg2 hg3
    have z2 := x.size
    replace E := E.trans x
    replace LB5 := LB5.ext x
    replace cB5_1 := cell_ext (x) cB5_1
    clear x
    go_wp2_with fail
    apply joinK12 (F := fun (wJ3 : World) (B12 : Nat) (tA : Option Addr) (tc : Nat) (c0 : Value) (c1 : Value) (c2 : Value) (c3 : Value) (c4 : Value) (c5 : Value) (c6 : Value) (c7 : Value) (c8 : Value) => w14.heap.size ≤ wJ3.heap.size ∧ (w14.heap.size ≤ B12 ∧ B12 < wJ3.heap.size) ∧ Ext w wJ3 ∧ Lay 3 wJ3 B5 (.agg #[.slice sA ns sc, .slice iA m ic, .int .i64 fl]) ∧ Lay 8 wJ3 B12 (.agg #[c1, c2, c3, c4, c5, c6, c7, c8]) ∧ (∃ L, OIS wJ3 tA m L X (fun i => i ≠ B12)) ∧ OVS wJ3 (.agg #[c1, c2, c3, c4, c5, c6, c7, c8]) X (fun i => i ≠ B12))
    case h =>
      intro J
      try simp only [Act.put, List.setIfInBounds_toArray, List.set_cons_zero, List.set_cons_succ]
      have hq3 : w14.heap.size ≤ w14.drew.heap.size := Nat.le_refl _
      have z4 := (Ext.refl w14).drew.size
      replace E := E.trans (Ext.refl w14).drew
      replace LB5 := LB5.ext (Ext.refl w14).drew
      replace cB5_1 := cell_ext ((Ext.refl w14).drew) cB5_1
      refine wp_region_held_drew (S := (fun w' => Lay 3 w' B5 (.agg #[.slice sA ns sc, .slice iA m ic, .int .i64 fl]))) (by kernel_rfl) LB5 (fun hHeld => ?_)
      refine wpAnyH_take (i := 0) (oi := { dst := some 51, op := Go.Op.load 29 (Go.Operand.tmp 5), type := 29, pos := "law.go:54", after := #[], guard := none }) (v := (.agg #[.slice sA ns sc, .slice iA m ic, .int .i64 fl])) rfl (by kernel_rfl) (by kernel_rfl) (by kernel_rfl) (fun _ _ _ h => h) (yieldP (by rfl) rfl rfl fun w' hx => hx) hHeld ?_
      try simp only [Act.put, List.setIfInBounds_toArray, List.set_cons_zero, List.set_cons_succ]
      refine wpAnyH_take (i := 3) (oi := { dst := some 54, op := Go.Op.load 29 (Go.Operand.tmp 5), type := 29, pos := "law.go:54", after := #[], guard := none }) (v := (.agg #[.slice sA ns sc, .slice iA m ic, .int .i64 fl])) rfl (by kernel_rfl) (by kernel_rfl) (by kernel_rfl) (fun _ _ _ h => h) (yieldP (by rfl) rfl rfl fun w' hx => hx) hHeld ?_
      try simp only [Act.put, List.setIfInBounds_toArray, List.set_cons_zero, List.set_cons_succ]
      refine wpAnyH_ready (rs := [1, 6]) (by kernel_rfl) (by simp) ?_
      refine AllReadyH.cons (o := { dst := some 52, op := Go.Op.call { callee := Go.Callee.value (Go.Operand.func 15), args := #[Go.Operand.tmp 51], argTypes := #[29] }, type := 29, pos := "law.go:54", after := #[{ on := 0, ground := Go.Ground.data }], guard := none }) rfl (fun K hK => ?_) (AllReadyH.cons (o := { dst := some 12, op := Go.Op.alloc 41, type := 0, pos := "law.go:54", after := #[], guard := none }) rfl (fun K hK => ?_) (AllReadyH.nil))
      · go_simp
        refine (ct' _ E).mono ?_
        rintro e w52 ⟨tA, tc, L, rfl, hq, x⟩
        have HT := hq.now
        clear hq
        have z7 := x.size
        replace E := E.trans x
        replace LB5 := LB5.ext x
        replace cB5_1 := cell_ext (x) cB5_1
        clear x
        clear hHeld
        have hHeld := LB5
        refine hK.out _ _ hHeld (fun _ => ?_)
        clear hK K
        try simp only [Act.put, List.setIfInBounds_toArray, List.set_cons_zero, List.set_cons_succ]
        refine wpAnyH_take (i := 2) (oi := { dst := some 53, op := Go.Op.field 29 (Go.Operand.tmp 52) 1, type := 27, pos := "law.go:54", after := #[{ on := 1, ground := Go.Ground.data }], guard := none }) (v := .slice tA m tc) rfl (by kernel_rfl) (by kernel_rfl) (by kernel_rfl) (fun _ _ _ h => h) (Or.inl ⟨by rfl, ?hy8⟩) hHeld ?rest8
        case hy8 => (intro w hSw; (try dsimp only at hSw); go_simp; try (first | rfl | (simp [Sem.run]; done)); (first | done | with_reducible rfl))
        try simp only [Act.put, List.setIfInBounds_toArray, List.set_cons_zero, List.set_cons_succ]
        refine wpAnyH_ready (rs := [4, 6]) (by kernel_rfl) (by simp) ?_
        refine AllReadyH.cons (o := { dst := some 55, op := Go.Op.call { callee := Go.Callee.value (Go.Operand.func 16), args := #[Go.Operand.tmp 54], argTypes := #[29] }, type := 43, pos := "law.go:54", after := #[{ on := 3, ground := Go.Ground.data }, { on := 1, ground := Go.Ground.chain }], guard := none }) rfl (fun K hK => ?_) (AllReadyH.cons (o := { dst := some 12, op := Go.Op.alloc 41, type := 0, pos := "law.go:54", after := #[], guard := none }) rfl (fun K hK => ?_) (AllReadyH.nil))
        · go_simp
          refine (co' _ E).mono ?_
          rintro e w55 ⟨c0, c1, c2, c3, c4, c5, c6, c7, c8, rfl, hf, hq, x⟩
          have HV := hq.now
          have hf8 := flat_tail hf
          clear hq hf
          have z9 := x.size
          replace E := E.trans x
          replace LB5 := LB5.ext x
          replace cB5_1 := cell_ext (x) cB5_1
          replace HT := HT.ext x
          clear x
          clear hHeld
          have hHeld := LB5
          refine hK.out _ _ hHeld (fun _ => ?_)
          clear hK K
          try simp only [Act.put, List.setIfInBounds_toArray, List.set_cons_zero, List.set_cons_succ]
          refine wpAnyH_take (i := 5) (oi := { dst := some 56, op := Go.Op.field 43 (Go.Operand.tmp 55) 1, type := 41, pos := "law.go:54", after := #[{ on := 4, ground := Go.Ground.data }, { on := 7, ground := Go.Ground.gcOnly Go.Departure.lateStores }], guard := none }) (v := (.agg #[c1, c2, c3, c4, c5, c6, c7, c8])) rfl (by kernel_rfl) (by kernel_rfl) (by kernel_rfl) (fun _ _ _ h => h) (Or.inl ⟨by rfl, ?hy10⟩) hHeld ?rest10
          case hy10 => (intro w hSw; (try dsimp only at hSw); go_simp; try (first | rfl | (simp [Sem.run]; done)); (first | done | with_reducible rfl))
          try simp only [Act.put, List.setIfInBounds_toArray, List.set_cons_zero, List.set_cons_succ]
          refine wpAnyH_ready (rs := [6]) (by kernel_rfl) (by simp) ?_
          refine AllReadyH.cons (o := { dst := some 12, op := Go.Op.alloc 41, type := 0, pos := "law.go:54", after := #[], guard := none }) rfl (fun K hK => ?_) (AllReadyH.nil)
          rw [if_pos (by rfl)]
          refine allocV rfl ?_
          intro B12 w12 bB12 cB12 XB12 LB12 RB12
          have z11 := XB12.size
          replace E := E.trans XB12
          replace LB5 := LB5.ext XB12
          replace cB5_1 := cell_ext (XB12) cB5_1
          replace HT := HT.ext XB12
          replace HV := HV.ext XB12
          clear hHeld
          have hHeld := LB5
          refine hK.out _ _ hHeld (fun _ => ?_)
          clear hK K
          try simp only [Act.put, List.setIfInBounds_toArray, List.set_cons_zero, List.set_cons_succ]
          refine wpAnyH_take (i := 7) (oi := { dst := some 11, op := Go.Op.assign (Go.Operand.tmp 53), type := 27, pos := "law.go:54", after := #[{ on := 2, ground := Go.Ground.data }, { on := 4, ground := Go.Ground.chain }, { on := 0, ground := Go.Ground.phase }, { on := 1, ground := Go.Ground.phase }, { on := 2, ground := Go.Ground.phase }, { on := 3, ground := Go.Ground.textOnly Go.Departure.lateStores }, { on := 4, ground := Go.Ground.textOnly Go.Departure.lateStoresUnsure }, { on := 5, ground := Go.Ground.textOnly Go.Departure.lateStores }, { on := 6, ground := Go.Ground.phase }], guard := none }) (v := ?v12) rfl (by kernel_rfl) (by kernel_rfl) (by kernel_rfl) (fun _ _ _ h => h) (Or.inl ⟨by rfl, ?hy12⟩) hHeld ?rest12
          case hy12 => (intro w hSw; (try dsimp only at hSw); go_simp; (first | done | with_reducible rfl))
          try simp only [Act.put, List.setIfInBounds_toArray, List.set_cons_zero, List.set_cons_succ]
          refine wpAnyH_ready (rs := [8]) (by kernel_rfl) (by simp) ?_
          refine AllReadyH.cons (o := { dst := none, op := Go.Op.store 41 (Go.Operand.tmp 12) (Go.Operand.tmp 56), type := 0, pos := "law.go:54", after := #[{ on := 6, ground := Go.Ground.data }, { on := 5, ground := Go.Ground.data }, { on := 7, ground := Go.Ground.chain }, { on := 0, ground := Go.Ground.phase }, { on := 1, ground := Go.Ground.phase }, { on := 2, ground := Go.Ground.phase }, { on := 3, ground := Go.Ground.phase }, { on := 4, ground := Go.Ground.phase }, { on := 5, ground := Go.Ground.phase }, { on := 6, ground := Go.Ground.phase }, { on := 7, ground := Go.Ground.phase }], guard := none }) rfl (fun K hK => ?_) (AllReadyH.nil)
          rw [if_pos (by rfl)]
          have hRl := (RB12).lt (Nat.zero_lt_succ _)
          refine storeV (by rfl) (by rfl) (v := (.agg #[c1, c2, c3, c4, c5, c6, c7, c8])) (by rfl) RB12 hf8 ?_
          clear LB12
          intro s13 G13 LB12 RQ
          have z14 := G13.size
          replace E := grown_ext E G13 (by omega)
          replace LB5 := LB5.grown G13 (by omega)
          replace cB5_1 := cell_grown (G13) cB5_1 (by show B5 ≠ _; omega)
          replace HT := HT.grown G13 (by first | omega | (dsimp only [New]; omega))
          replace HV := HV.grown G13 (by first | omega | (dsimp only [New]; omega))
          clear RB12
          have RB12 := RQ
          clear RQ hRl G13
          clear hHeld
          have hHeld := LB5
          refine hK.out _ _ hHeld (fun _ => ?_)
          clear hK K
          try simp only [Act.put]
          refine wpAnyH_done (by kernel_rfl) ?_ _
          refine J s13 B12 tA tc c0 c1 c2 c3 c4 c5 c6 c7 c8 ?_
          exact ⟨by omega, ⟨by omega, by omega⟩, E, LB5, LB12, ⟨L, HT.mono (fun i hi h => by dsimp only [New] at h; omega)⟩, HV.mono (fun i hi h => by dsimp only [New] at h; omega)⟩
        · rw [if_pos (by rfl)]
          refine allocV rfl ?_
          intro B12 w12 bB12 cB12 XB12 LB12 RB12
          have z15 := XB12.size
          replace E := E.trans XB12
          replace LB5 := LB5.ext XB12
          replace cB5_1 := cell_ext (XB12) cB5_1
          replace HT := HT.ext XB12
          clear hHeld
          have hHeld := LB5
          refine hK.out _ _ hHeld (fun _ => ?_)
          clear hK K
          try simp only [Act.put, List.setIfInBounds_toArray, List.set_cons_zero, List.set_cons_succ]
          refine wpAnyH_ready (rs := [4]) (by kernel_rfl) (by simp) ?_
          refine AllReadyH.cons (o := { dst := some 55, op := Go.Op.call { callee := Go.Callee.value (Go.Operand.func 16), args := #[Go.Operand.tmp 54], argTypes := #[29] }, type := 43, pos := "law.go:54", after := #[{ on := 3, ground := Go.Ground.data }, { on := 1, ground := Go.Ground.chain }], guard := none }) rfl (fun K hK => ?_) (AllReadyH.nil)
          go_simp
          refine (co' _ E).mono ?_
          rintro e w55 ⟨c0, c1, c2, c3, c4, c5, c6, c7, c8, rfl, hf, hq, x⟩
          have HV := hq.now
          have hf8 := flat_tail hf
          clear hq hf
          have z16 := x.size
          replace E := E.trans x
          replace LB5 := LB5.ext x
          replace cB5_1 := cell_ext (x) cB5_1
          replace HT := HT.ext x
          replace LB12 := LB12.ext x
          replace RB12 := RB12.ext x
          clear x
          clear hHeld
          have hHeld := LB5
          refine hK.out _ _ hHeld (fun _ => ?_)
          clear hK K
          try simp only [Act.put, List.setIfInBounds_toArray, List.set_cons_zero, List.set_cons_succ]
          refine wpAnyH_take (i := 5) (oi := { dst := some 56, op := Go.Op.field 43 (Go.Operand.tmp 55) 1, type := 41, pos := "law.go:54", after := #[{ on := 4, ground := Go.Ground.data }, { on := 7, ground := Go.Ground.gcOnly Go.Departure.lateStores }], guard := none }) (v := (.agg #[c1, c2, c3, c4, c5, c6, c7, c8])) rfl (by kernel_rfl) (by kernel_rfl) (by kernel_rfl) (fun _ _ _ h => h) (Or.inl ⟨by rfl, ?hy17⟩) hHeld ?rest17
          case hy17 => (intro w hSw; (try dsimp only at hSw); go_simp; try (first | rfl | (simp [Sem.run]; done)); (first | done | with_reducible rfl))
          try simp only [Act.put, List.setIfInBounds_toArray, List.set_cons_zero, List.set_cons_succ]
          refine wpAnyH_take (i := 7) (oi := { dst := some 11, op := Go.Op.assign (Go.Operand.tmp 53), type := 27, pos := "law.go:54", after := #[{ on := 2, ground := Go.Ground.data }, { on := 4, ground := Go.Ground.chain }, { on := 0, ground := Go.Ground.phase }, { on := 1, ground := Go.Ground.phase }, { on := 2, ground := Go.Ground.phase }, { on := 3, ground := Go.Ground.textOnly Go.Departure.lateStores }, { on := 4, ground := Go.Ground.textOnly Go.Departure.lateStoresUnsure }, { on := 5, ground := Go.Ground.textOnly Go.Departure.lateStores }, { on := 6, ground := Go.Ground.phase }], guard := none }) (v := ?v18) rfl (by kernel_rfl) (by kernel_rfl) (by kernel_rfl) (fun _ _ _ h => h) (Or.inl ⟨by rfl, ?hy18⟩) hHeld ?rest18
          case hy18 => (intro w hSw; (try dsimp only at hSw); go_simp; (first | done | with_reducible rfl))
          try simp only [Act.put, List.setIfInBounds_toArray, List.set_cons_zero, List.set_cons_succ]
          refine wpAnyH_ready (rs := [8]) (by kernel_rfl) (by simp) ?_
          refine AllReadyH.cons (o := { dst := none, op := Go.Op.store 41 (Go.Operand.tmp 12) (Go.Operand.tmp 56), type := 0, pos := "law.go:54", after := #[{ on := 6, ground := Go.Ground.data }, { on := 5, ground := Go.Ground.data }, { on := 7, ground := Go.Ground.chain }, { on := 0, ground := Go.Ground.phase }, { on := 1, ground := Go.Ground.phase }, { on := 2, ground := Go.Ground.phase }, { on := 3, ground := Go.Ground.phase }, { on := 4, ground := Go.Ground.phase }, { on := 5, ground := Go.Ground.phase }, { on := 6, ground := Go.Ground.phase }, { on := 7, ground := Go.Ground.phase }], guard := none }) rfl (fun K hK => ?_) (AllReadyH.nil)
          rw [if_pos (by rfl)]
          have hRl := (RB12).lt (Nat.zero_lt_succ _)
          refine storeV (by rfl) (by rfl) (v := (.agg #[c1, c2, c3, c4, c5, c6, c7, c8])) (by rfl) RB12 hf8 ?_
          clear LB12
          intro s19 G19 LB12 RQ
          have z20 := G19.size
          replace E := grown_ext E G19 (by omega)
          replace LB5 := LB5.grown G19 (by omega)
          replace cB5_1 := cell_grown (G19) cB5_1 (by show B5 ≠ _; omega)
          replace HT := HT.grown G19 (by first | omega | (dsimp only [New]; omega))
          replace HV := HV.grown G19 (by first | omega | (dsimp only [New]; omega))
          clear RB12
          have RB12 := RQ
          clear RQ hRl G19
          clear hHeld
          have hHeld := LB5
          refine hK.out _ _ hHeld (fun _ => ?_)
          clear hK K
          try simp only [Act.put]
          refine wpAnyH_done (by kernel_rfl) ?_ _
          refine J s19 B12 tA tc c0 c1 c2 c3 c4 c5 c6 c7 c8 ?_
          exact ⟨by omega, ⟨by omega, by omega⟩, E, LB5, LB12, ⟨L, HT.mono (fun i hi h => by dsimp only [New] at h; omega)⟩, HV.mono (fun i hi h => by dsimp only [New] at h; omega)⟩
      · rw [if_pos (by rfl)]
        refine allocV rfl ?_
        intro B12 w12 bB12 cB12 XB12 LB12 RB12
        have z21 := XB12.size
        replace E := E.trans XB12
        replace LB5 := LB5.ext XB12
        replace cB5_1 := cell_ext (XB12) cB5_1
        clear hHeld
        have hHeld := LB5
        refine hK.out _ _ hHeld (fun _ => ?_)
        clear hK K
        try simp only [Act.put, List.setIfInBounds_toArray, List.set_cons_zero, List.set_cons_succ]
        refine wpAnyH_ready (rs := [1]) (by kernel_rfl) (by simp) ?_
        refine AllReadyH.cons (o := { dst := some 52, op := Go.Op.call { callee := Go.Callee.value (Go.Operand.func 15), args := #[Go.Operand.tmp 51], argTypes := #[29] }, type := 29, pos := "law.go:54", after := #[{ on := 0, ground := Go.Ground.data }], guard := none }) rfl (fun K hK => ?_) (AllReadyH.nil)
        go_simp
        refine (ct' _ E).mono ?_
        rintro e w52 ⟨tA, tc, L, rfl, hq, x⟩
        have HT := hq.now
        clear hq
        have z22 := x.size
        replace E := E.trans x
        replace LB5 := LB5.ext x
        replace cB5_1 := cell_ext (x) cB5_1
        replace LB12 := LB12.ext x
        replace RB12 := RB12.ext x
        clear x
        clear hHeld
        have hHeld := LB5
        refine hK.out _ _ hHeld (fun _ => ?_)
        clear hK K
        try simp only [Act.put, List.setIfInBounds_toArray, List.set_cons_zero, List.set_cons_succ]
        refine wpAnyH_take (i := 2) (oi := { dst := some 53, op := Go.Op.field 29 (Go.Operand.tmp 52) 1, type := 27, pos := "law.go:54", after := #[{ on := 1, ground := Go.Ground.data }], guard := none }) (v := .slice tA m tc) rfl (by kernel_rfl) (by kernel_rfl) (by kernel_rfl) (fun _ _ _ h => h) (Or.inl ⟨by rfl, ?hy23⟩) hHeld ?rest23
        case hy23 => (intro w hSw; (try dsimp only at hSw); go_simp; try (first | rfl | (simp [Sem.run]; done)); (first | done | with_reducible rfl))
        try simp only [Act.put, List.setIfInBounds_toArray, List.set_cons_zero, List.set_cons_succ]
        refine wpAnyH_ready (rs := [4]) (by kernel_rfl) (by simp) ?_
        refine AllReadyH.cons (o := { dst := some 55, op := Go.Op.call { callee := Go.Callee.value (Go.Operand.func 16), args := #[Go.Operand.tmp 54], argTypes := #[29] }, type := 43, pos := "law.go:54", after := #[{ on := 3, ground := Go.Ground.data }, { on := 1, ground := Go.Ground.chain }], guard := none }) rfl (fun K hK => ?_) (AllReadyH.nil)
        go_simp
        refine (co' _ E).mono ?_
        rintro e w55 ⟨c0, c1, c2, c3, c4, c5, c6, c7, c8, rfl, hf, hq, x⟩
        have HV := hq.now
        have hf8 := flat_tail hf
        clear hq hf
        have z24 := x.size
        replace E := E.trans x
        replace LB5 := LB5.ext x
        replace cB5_1 := cell_ext (x) cB5_1
        replace LB12 := LB12.ext x
        replace RB12 := RB12.ext x
        replace HT := HT.ext x
        clear x
        clear hHeld
        have hHeld := LB5
        refine hK.out _ _ hHeld (fun _ => ?_)
        clear hK K
        try simp only [Act.put, List.setIfInBounds_toArray, List.set_cons_zero, List.set_cons_succ]
        refine wpAnyH_take (i := 5) (oi := { dst := some 56, op := Go.Op.field 43 (Go.Operand.tmp 55) 1, type := 41, pos := "law.go:54", after := #[{ on := 4, ground := Go.Ground.data }, { on := 7, ground := Go.Ground.gcOnly Go.Departure.lateStores }], guard := none }) (v := (.agg #[c1, c2, c3, c4, c5, c6, c7, c8])) rfl (by kernel_rfl) (by kernel_rfl) (by kernel_rfl) (fun _ _ _ h => h) (Or.inl ⟨by rfl, ?hy25⟩) hHeld ?rest25
        case hy25 => (intro w hSw; (try dsimp only at hSw); go_simp; try (first | rfl | (simp [Sem.run]; done)); (first | done | with_reducible rfl))
        try simp only [Act.put, List.setIfInBounds_toArray, List.set_cons_zero, List.set_cons_succ]
        refine wpAnyH_take (i := 7) (oi := { dst := some 11, op := Go.Op.assign (Go.Operand.tmp 53), type := 27, pos := "law.go:54", after := #[{ on := 2, ground := Go.Ground.data }, { on := 4, ground := Go.Ground.chain }, { on := 0, ground := Go.Ground.phase }, { on := 1, ground := Go.Ground.phase }, { on := 2, ground := Go.Ground.phase }, { on := 3, ground := Go.Ground.textOnly Go.Departure.lateStores }, { on := 4, ground := Go.Ground.textOnly Go.Departure.lateStoresUnsure }, { on := 5, ground := Go.Ground.textOnly Go.Departure.lateStores }, { on := 6, ground := Go.Ground.phase }], guard := none }) (v := ?v26) rfl (by kernel_rfl) (by kernel_rfl) (by kernel_rfl) (fun _ _ _ h => h) (Or.inl ⟨by rfl, ?hy26⟩) hHeld ?rest26
        case hy26 => (intro w hSw; (try dsimp only at hSw); go_simp; (first | done | with_reducible rfl))
        try simp only [Act.put, List.setIfInBounds_toArray, List.set_cons_zero, List.set_cons_succ]
        refine wpAnyH_ready (rs := [8]) (by kernel_rfl) (by simp) ?_
        refine AllReadyH.cons (o := { dst := none, op := Go.Op.store 41 (Go.Operand.tmp 12) (Go.Operand.tmp 56), type := 0, pos := "law.go:54", after := #[{ on := 6, ground := Go.Ground.data }, { on := 5, ground := Go.Ground.data }, { on := 7, ground := Go.Ground.chain }, { on := 0, ground := Go.Ground.phase }, { on := 1, ground := Go.Ground.phase }, { on := 2, ground := Go.Ground.phase }, { on := 3, ground := Go.Ground.phase }, { on := 4, ground := Go.Ground.phase }, { on := 5, ground := Go.Ground.phase }, { on := 6, ground := Go.Ground.phase }, { on := 7, ground := Go.Ground.phase }], guard := none }) rfl (fun K hK => ?_) (AllReadyH.nil)
        rw [if_pos (by rfl)]
        have hRl := (RB12).lt (Nat.zero_lt_succ _)
        refine storeV (by rfl) (by rfl) (v := (.agg #[c1, c2, c3, c4, c5, c6, c7, c8])) (by rfl) RB12 hf8 ?_
        clear LB12
        intro s27 G27 LB12 RQ
        have z28 := G27.size
        replace E := grown_ext E G27 (by omega)
        replace LB5 := LB5.grown G27 (by omega)
        replace cB5_1 := cell_grown (G27) cB5_1 (by show B5 ≠ _; omega)
        replace HT := HT.grown G27 (by first | omega | (dsimp only [New]; omega))
        replace HV := HV.grown G27 (by first | omega | (dsimp only [New]; omega))
        clear RB12
        have RB12 := RQ
        clear RQ hRl G27
        clear hHeld
        have hHeld := LB5
        refine hK.out _ _ hHeld (fun _ => ?_)
        clear hK K
        try simp only [Act.put]
        refine wpAnyH_done (by kernel_rfl) ?_ _
        refine J s27 B12 tA tc c0 c1 c2 c3 c4 c5 c6 c7 c8 ?_
        exact ⟨by omega, ⟨by omega, by omega⟩, E, LB5, LB12, ⟨L, HT.mono (fun i hi h => by dsimp only [New] at h; omega)⟩, HV.mono (fun i hi h => by dsimp only [New] at h; omega)⟩
    case t =>
      intro wJ3 B12 tA tc c0 c1 c2 c3 c4 c5 c6 c7 c8 hJ
      clear E LB5 cB5_1
      obtain ⟨z29, ⟨bB12, cB12⟩, E, LB5, LB12, HT, HV⟩ := hJ
      try dsimp only
      obtain ⟨L, HT⟩ := HT
      go_wp2_with (refine loadsV (B := B12) (by rfl) rfl rfl LB12 ?_)
      refine (kc _ _ HV.is).mono ?_
      rintro e w61 ⟨rfl, x⟩
      have z30 := x.size
      replace E := E.trans x
      replace LB5 := LB5.ext x
      replace LB12 := LB12.ext x
      replace HT := HT.ext x
      replace HV := HV.ext x
      clear x
      go_wp2_with fail
      refine (rc tA tc _ _ HT.is).mono ?_
      rintro e w66 ⟨rfl, x⟩
      have z31 := x.size
      replace E := E.trans x
      replace LB5 := LB5.ext x
      replace LB12 := LB12.ext x
      replace HT := HT.ext x
      replace HV := HV.ext x
      clear x
      go_wp2_with (refine loadgV (B := B12) (by rfl) rfl rfl LB12 ?_)
      clear LB12
      refine (kl _ _ HV.is).mono ?_
      rintro e w74 ⟨rfl, x⟩
      have z32 := x.size
      replace E := E.trans x
      replace LB5 := LB5.ext x
      replace HT := HT.ext x
      replace HV := HV.ext x
      clear x
      go_wp2_with fail
      refine (rl tA tc _ _ HT.is).mono ?_
      rintro e w80 ⟨rfl, x⟩
      have z33 := x.size
      replace E := E.trans x
      replace LB5 := LB5.ext x
      replace HT := HT.ext x
      replace HV := HV.ext x
      clear x
      go_wp2_with fail
      refine (oawake_any _).mono ?_
      rintro e w84 ⟨rfl, x⟩
      have z34 := x.size
      replace E := E.trans x
      replace LB5 := LB5.ext x
      replace HT := HT.ext x
      replace HV := HV.ext x
      clear x
      go_wp2_with fail
      go_ret
      exact ⟨rfl, E⟩
end Go.Proofs.Ytidnikndjhfgaaa
