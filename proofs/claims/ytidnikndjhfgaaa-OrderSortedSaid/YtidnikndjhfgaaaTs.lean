/- OrderSorted. -/
import Derived.Test.YtidnikndjhfgaaaTr
namespace Go.Proofs.Ytidnikndjhfgaaa
open Go.ChangeShapes Go.WideShapes Go.RowKit Bv Fl
set_option maxHeartbeats 2000000
set_option maxRecDepth 100000
theorem joinK12 {A0 A1 A2 A3 A4 A5 A6 A7 A8 A9 A10 A11 : Type} {F KA : World → A0 → A1 → A2 → A3 → A4 → A5 → A6 → A7 → A8 → A9 → A10 → A11 → Prop} {G : Prop} (h : (∀ w a0 a1 a2 a3 a4 a5 a6 a7 a8 a9 a10 a11, F w a0 a1 a2 a3 a4 a5 a6 a7 a8 a9 a10 a11 → KA w a0 a1 a2 a3 a4 a5 a6 a7 a8 a9 a10 a11) → G) (t : ∀ w a0 a1 a2 a3 a4 a5 a6 a7 a8 a9 a10 a11, F w a0 a1 a2 a3 a4 a5 a6 a7 a8 a9 a10 a11 → KA w a0 a1 a2 a3 a4 a5 a6 a7 a8 a9 a10 a11) : G := h t
theorem osorted_b1 (sA : Option Addr) (ns sc : Nat) (iA : Option Addr) (m ic : Nat) (fl zc : Int) (A : Option Addr) (la ca : Nat) (down : Bool) (w : World)
    (cg : ∀ w', Ext w w' → Calls Try.prog 14 #[(.agg #[.slice sA ns sc, .slice iA m ic, .int .i64 fl])] w' (GoodB m zc fl w')) (size : Int) (h1 : size < 1) : Calls Try.prog 5 #[(.agg #[.slice sA ns sc, .slice iA m ic, .int .i64 fl]), .int .i64 size, .bool down, .slice A la ca] w fun e w' => e = .returned (.bool true) ∧ Ext w w' := by
  have hF := pl_flat sA ns sc iA m ic fl
  have E := Ext.refl w
  have e17 : decide (size < 1) = true := decide_eq_true h1
  go_enter Try.func5, Try.ntmps5
  have TB4 : True := trivial
  go_wp2_with (first | (clear TB4; refine boxsP (v := (.agg #[.slice sA ns sc, .slice iA m ic, .int .i64 fl])) rfl rfl rfl hF ?_; intro B4 w4 bB4 cB4 XB4 LB4 RB4; have z1 := XB4.size; replace E := E.trans XB4; clear RB4) | (refine loadsP (B := B4) (by rfl) rfl rfl LB4 ?_))
  refine (cg _ E).mono ?_
  rintro e w13 ⟨g, rfl, hg, x⟩
  cases g
  · have z2 := x.size
    replace E := E.trans x
    replace LB4 := LB4.ext x
    clear x
    go_wp2_with fail
    refine (oawake_any _).mono ?_
    rintro e w28 ⟨rfl, x⟩
    have z3 := x.size
    replace E := E.trans x
    replace LB4 := LB4.ext x
    clear x
    go_wp2_with fail
    go_ret
    exact ⟨rfl, E⟩
  · have z2 := x.size
    replace E := E.trans x
    replace LB4 := LB4.ext x
    clear x
    go_wp2_with fail
    refine (oawake_any _).mono ?_
    rintro e w28 ⟨rfl, x⟩
    have z3 := x.size
    replace E := E.trans x
    replace LB4 := LB4.ext x
    clear x
    go_wp2_with fail
    go_ret
    exact ⟨rfl, E⟩
theorem osorted_b2 (sA : Option Addr) (ns sc : Nat) (iA : Option Addr) (m ic : Nat) (fl zc : Int) (A : Option Addr) (la ca : Nat) (down : Bool) (w : World)
    (cg : ∀ w', Ext w w' → Calls Try.prog 14 #[(.agg #[.slice sA ns sc, .slice iA m ic, .int .i64 fl])] w' (GoodB m zc fl w')) (size : Int) (h1 : ¬ size < 1) (h2 : 300 < size) : Calls Try.prog 5 #[(.agg #[.slice sA ns sc, .slice iA m ic, .int .i64 fl]), .int .i64 size, .bool down, .slice A la ca] w fun e w' => e = .returned (.bool true) ∧ Ext w w' := by
  have hF := pl_flat sA ns sc iA m ic fl
  have E := Ext.refl w
  have e17 : decide (size < 1) = false := decide_eq_false h1
  have e21 : decide ((300 : Int) < size) = true := decide_eq_true h2
  go_enter Try.func5, Try.ntmps5
  have TB4 : True := trivial
  go_wp2_with (first | (clear TB4; refine boxsP (v := (.agg #[.slice sA ns sc, .slice iA m ic, .int .i64 fl])) rfl rfl rfl hF ?_; intro B4 w4 bB4 cB4 XB4 LB4 RB4; have z1 := XB4.size; replace E := E.trans XB4; clear RB4) | (refine loadsP (B := B4) (by rfl) rfl rfl LB4 ?_))
  refine (cg _ E).mono ?_
  rintro e w13 ⟨g, rfl, hg, x⟩
  cases g
  · have z2 := x.size
    replace E := E.trans x
    replace LB4 := LB4.ext x
    clear x
    go_wp2_with fail
    refine (oawake_any _).mono ?_
    rintro e w28 ⟨rfl, x⟩
    have z3 := x.size
    replace E := E.trans x
    replace LB4 := LB4.ext x
    clear x
    go_wp2_with fail
    go_ret
    exact ⟨rfl, E⟩
  · have z2 := x.size
    replace E := E.trans x
    replace LB4 := LB4.ext x
    clear x
    go_wp2_with fail
    refine (oawake_any _).mono ?_
    rintro e w28 ⟨rfl, x⟩
    have z3 := x.size
    replace E := E.trans x
    replace LB4 := LB4.ext x
    clear x
    go_wp2_with fail
    go_ret
    exact ⟨rfl, E⟩
theorem osorted_b3 (sA : Option Addr) (ns sc : Nat) (iA : Option Addr) (m ic : Nat) (fl zc : Int) (A : Option Addr) (la ca : Nat) (down : Bool) (w : World)
    (cg : ∀ w', Ext w w' → Calls Try.prog 14 #[(.agg #[.slice sA ns sc, .slice iA m ic, .int .i64 fl])] w' (GoodB m zc fl w')) (size : Int) (h1 : ¬ size < 1) (h2 : ¬ 300 < size) (h3 : 300 < (la : Int)) : Calls Try.prog 5 #[(.agg #[.slice sA ns sc, .slice iA m ic, .int .i64 fl]), .int .i64 size, .bool down, .slice A la ca] w fun e w' => e = .returned (.bool true) ∧ Ext w w' := by
  have hF := pl_flat sA ns sc iA m ic fl
  have E := Ext.refl w
  have e17 : decide (size < 1) = false := decide_eq_false h1
  have e21 : decide ((300 : Int) < size) = false := decide_eq_false h2
  have e26 : decide ((300 : Int) < (la : Int)) = true := decide_eq_true h3
  go_enter Try.func5, Try.ntmps5
  have TB4 : True := trivial
  go_wp2_with (first | (clear TB4; refine boxsP (v := (.agg #[.slice sA ns sc, .slice iA m ic, .int .i64 fl])) rfl rfl rfl hF ?_; intro B4 w4 bB4 cB4 XB4 LB4 RB4; have z1 := XB4.size; replace E := E.trans XB4; clear RB4) | (refine loadsP (B := B4) (by rfl) rfl rfl LB4 ?_))
  refine (cg _ E).mono ?_
  rintro e w13 ⟨g, rfl, hg, x⟩
  cases g
  · have z2 := x.size
    replace E := E.trans x
    replace LB4 := LB4.ext x
    clear x
    go_wp2_with fail
    refine (oawake_any _).mono ?_
    rintro e w28 ⟨rfl, x⟩
    have z3 := x.size
    replace E := E.trans x
    replace LB4 := LB4.ext x
    clear x
    go_wp2_with fail
    go_ret
    exact ⟨rfl, E⟩
  · have z2 := x.size
    replace E := E.trans x
    replace LB4 := LB4.ext x
    clear x
    go_wp2_with fail
    refine (oawake_any _).mono ?_
    rintro e w28 ⟨rfl, x⟩
    have z3 := x.size
    replace E := E.trans x
    replace LB4 := LB4.ext x
    clear x
    go_wp2_with fail
    go_ret
    exact ⟨rfl, E⟩
theorem flat_tail' {c0 c1 c2 c3 c4 c5 c6 c7 c8 : Value} (h : Flat 9 (.agg #[c0, c1, c2, c3, c4, c5, c6, c7, c8])) : Flat 8 (.agg #[c1, c2, c3, c4, c5, c6, c7, c8]) := by
  obtain ⟨cs, e, _, h1⟩ := h
  cases e
  refine ⟨_, rfl, rfl, ?_⟩
  simpa using (by simpa using h1 : _ ∧ _).2
theorem OIS.mono' {w : World} {A : Option Addr} {n : Nat} {L : List It} {X : List Int} {S S' : Nat → Prop} (h : OIS w A n L X S) (hS : ∀ i, i < w.heap.size → S i → S' i) : OIS w A n L X S' := ⟨h.lenL, h.len, h.lim, fun w2 hs hk => h.sl w2 hs fun i hi hs => hk i hi (hS i hi hs), h.below⟩
theorem osorted_main (sA : Option Addr) (ns sc : Nat) (iA : Option Addr) (m ic : Nat) (fl zc : Int) (A : Option Addr) (la ca : Nat) (down : Bool) (w : World)
    (cg : ∀ w', Ext w w' → Calls Try.prog 14 #[(.agg #[.slice sA ns sc, .slice iA m ic, .int .i64 fl])] w' (GoodB m zc fl w'))  (X GL : List Int) (a : List Int) (z n : Nat) (b : Bool) (hz : 1 ≤ z) (hz2 : z ≤ 300) (h3 : la ≤ 300) (hs : Sl w 1 A la (i64s a)) (ct : zc = 0 → fl < 2 → ∀ w', Ext w w' → Calls Try.prog 15 #[(.agg #[.slice sA ns sc, .slice iA m ic, .int .i64 fl])] w' fun e w2 => ∃ tA tc L, e = .returned (.agg #[.slice sA ns sc, .slice tA m tc, .int .i64 fl]) ∧ OIS w2 tA m L X (New w'.heap.size) ∧ Ext w' w2)
    (co : zc = 0 → fl < 2 → ∀ w', Ext w w' → Calls Try.prog 16 #[(.agg #[.slice sA ns sc, .slice iA m ic, .int .i64 fl])] w' (OfA X w'))
    (kr : m ≤ 300 → ∀ B c L w', OI w' B m L X → Calls Try.prog 21 #[.slice B m c, .int .i64 (z : Int), .bool down] w' (GradeP GL n w'))
    (kg : ∀ v B c w', OV w' v X → Sl w' 1 B n (i64s GL) → Calls Try.prog 22 #[v, .int .i64 (z : Int), .slice B n c, .bool down] w' fun e w2 => e = .returned (.bool true) ∧ Ext w' w2)
    (ks : ∀ v w', OV w' v X → Sl w' 1 A la (i64s a) → Calls Try.prog 22 #[v, .int .i64 (z : Int), .slice A la ca, .bool down] w' fun e w2 => e = .returned (.bool b) ∧ Ext w' w2)
    (ki : ∀ B c w', Sl w' 1 A la (i64s a) → Sl w' 1 B n (i64s GL) → Calls Try.prog 23 #[.slice A la ca, .slice B n c] w' fun e w2 => e = .returned (.bool b) ∧ Ext w' w2)
    (kz : ∀ v w', OV w' v X → Calls Try.prog 22 #[v, .int .i64 0, .slice none 0 0, .bool down] w' fun e w2 => e = .returned (.bool false) ∧ Ext w' w2)  : Calls Try.prog 5 #[(.agg #[.slice sA ns sc, .slice iA m ic, .int .i64 fl]), .int .i64 (z : Int), .bool down, .slice A la ca] w fun e w' => e = .returned (.bool true) ∧ Ext w w' := by
  have hF := pl_flat sA ns sc iA m ic fl
  have E := Ext.refl w
  have e17 : decide ((z : Int) < 1) = false := decide_eq_false (by omega)
  have e21 : decide ((300 : Int) < (z : Int)) = false := decide_eq_false (by omega)
  have e26 : decide ((300 : Int) < (la : Int)) = false := decide_eq_false (by omega)
  have HS := Lib.hid hs
  clear hs
  go_enter Try.func5, Try.ntmps5
  have TB4 : True := trivial
  go_wp2_with (first | (clear TB4; refine boxsP (v := (.agg #[.slice sA ns sc, .slice iA m ic, .int .i64 fl])) rfl rfl rfl hF ?_; intro B4 w4 bB4 cB4 XB4 LB4 RB4; have z1 := XB4.size; replace E := E.trans XB4; clear RB4) | (refine loadsP (B := B4) (by rfl) rfl rfl LB4 ?_))
  refine (cg _ E).mono ?_
  rintro e w13 ⟨g, rfl, hg, x⟩
  cases g
  · have z2 := x.size
    replace E := E.trans x
    replace LB4 := LB4.ext x
    clear x
    go_wp2_with fail
    refine (oawake_any _).mono ?_
    rintro e w28 ⟨rfl, x⟩
    have z3 := x.size
    replace E := E.trans x
    replace LB4 := LB4.ext x
    clear x
    go_wp2_with fail
    go_ret
    exact ⟨rfl, E⟩
  · obtain ⟨hg1, hg2, hg3⟩ := hg rfl
    have ct' := ct hg2 hg3
    have co' := co hg2 hg3
    have kr' := kr hg1
    clear ct co kr hg hg2 hg3
    have z2 := x.size
    replace E := E.trans x
    replace LB4 := LB4.ext x
    clear x
    go_wp2_with fail
    apply joinK12 (F := fun (wJ3 : World) (B10 : Nat) (tA : Option Addr) (tc : Nat) (c0 : Value) (c1 : Value) (c2 : Value) (c3 : Value) (c4 : Value) (c5 : Value) (c6 : Value) (c7 : Value) (c8 : Value) => w13.heap.size ≤ wJ3.heap.size ∧ (w13.heap.size ≤ B10 ∧ B10 < wJ3.heap.size) ∧ Ext w wJ3 ∧ Lay 3 wJ3 B4 (.agg #[.slice sA ns sc, .slice iA m ic, .int .i64 fl]) ∧ Lay 8 wJ3 B10 (.agg #[c1, c2, c3, c4, c5, c6, c7, c8]) ∧ (∃ L, OIS wJ3 tA m L X (fun i => i ≠ B10)) ∧ OVS wJ3 (.agg #[c1, c2, c3, c4, c5, c6, c7, c8]) X (fun i => i ≠ B10))
    case h =>
      intro J
      try simp only [Act.put, List.setIfInBounds_toArray, List.set_cons_zero, List.set_cons_succ]
      have hq3 : w13.heap.size ≤ w13.drew.heap.size := Nat.le_refl _
      have z4 := (Ext.refl w13).drew.size
      replace E := E.trans (Ext.refl w13).drew
      replace LB4 := LB4.ext (Ext.refl w13).drew
      refine wp_region_held_drew (S := (fun w' => Lay 3 w' B4 (.agg #[.slice sA ns sc, .slice iA m ic, .int .i64 fl]))) (by kernel_rfl) LB4 (fun hHeld => ?_)
      refine wpAnyH_take (i := 0) (oi := { dst := some 29, op := Go.Op.load 29 (Go.Operand.tmp 4), type := 29, pos := "law.go:63", after := #[], guard := none }) (v := (.agg #[.slice sA ns sc, .slice iA m ic, .int .i64 fl])) rfl (by kernel_rfl) (by kernel_rfl) (by kernel_rfl) (fun _ _ _ h => h) (yieldP (by rfl) rfl rfl fun w' hx => hx) hHeld ?_
      try simp only [Act.put, List.setIfInBounds_toArray, List.set_cons_zero, List.set_cons_succ]
      refine wpAnyH_take (i := 3) (oi := { dst := some 32, op := Go.Op.load 29 (Go.Operand.tmp 4), type := 29, pos := "law.go:63", after := #[], guard := none }) (v := (.agg #[.slice sA ns sc, .slice iA m ic, .int .i64 fl])) rfl (by kernel_rfl) (by kernel_rfl) (by kernel_rfl) (fun _ _ _ h => h) (yieldP (by rfl) rfl rfl fun w' hx => hx) hHeld ?_
      try simp only [Act.put, List.setIfInBounds_toArray, List.set_cons_zero, List.set_cons_succ]
      refine wpAnyH_ready (rs := [1, 6]) (by kernel_rfl) (by simp) ?_
      refine AllReadyH.cons (o := { dst := some 30, op := Go.Op.call { callee := Go.Callee.value (Go.Operand.func 15), args := #[Go.Operand.tmp 29], argTypes := #[29] }, type := 29, pos := "law.go:63", after := #[{ on := 0, ground := Go.Ground.data }], guard := none }) rfl (fun K hK => ?_) (AllReadyH.cons (o := { dst := some 10, op := Go.Op.alloc 41, type := 0, pos := "law.go:63", after := #[], guard := none }) rfl (fun K hK => ?_) (AllReadyH.nil))
      · go_simp
        refine (ct' _ E).mono ?_
        rintro e w30 ⟨tA, tc, L, rfl, hq, x⟩
        have HT := hq.now
        clear hq
        have z7 := x.size
        replace E := E.trans x
        replace LB4 := LB4.ext x
        clear x
        clear hHeld
        have hHeld := LB4
        refine hK.out _ _ hHeld (fun _ => ?_)
        clear hK K
        try simp only [Act.put, List.setIfInBounds_toArray, List.set_cons_zero, List.set_cons_succ]
        refine wpAnyH_take (i := 2) (oi := { dst := some 31, op := Go.Op.field 29 (Go.Operand.tmp 30) 1, type := 27, pos := "law.go:63", after := #[{ on := 1, ground := Go.Ground.data }], guard := none }) (v := .slice tA m tc) rfl (by kernel_rfl) (by kernel_rfl) (by kernel_rfl) (fun _ _ _ h => h) (Or.inl ⟨by rfl, ?hy8⟩) hHeld ?rest8
        case hy8 => (intro w hSw; (try dsimp only at hSw); go_simp; try (first | rfl | (simp [Sem.run]; done)); (first | done | with_reducible rfl))
        try simp only [Act.put, List.setIfInBounds_toArray, List.set_cons_zero, List.set_cons_succ]
        refine wpAnyH_ready (rs := [4, 6]) (by kernel_rfl) (by simp) ?_
        refine AllReadyH.cons (o := { dst := some 33, op := Go.Op.call { callee := Go.Callee.value (Go.Operand.func 16), args := #[Go.Operand.tmp 32], argTypes := #[29] }, type := 43, pos := "law.go:63", after := #[{ on := 3, ground := Go.Ground.data }, { on := 1, ground := Go.Ground.chain }], guard := none }) rfl (fun K hK => ?_) (AllReadyH.cons (o := { dst := some 10, op := Go.Op.alloc 41, type := 0, pos := "law.go:63", after := #[], guard := none }) rfl (fun K hK => ?_) (AllReadyH.nil))
        · go_simp
          refine (co' _ E).mono ?_
          rintro e w33 ⟨c0, c1, c2, c3, c4, c5, c6, c7, c8, rfl, hf, hq, x⟩
          have HV := hq.now
          have hf8 := flat_tail' hf
          clear hq hf
          have z9 := x.size
          replace E := E.trans x
          replace LB4 := LB4.ext x
          replace HT := HT.ext x
          clear x
          clear hHeld
          have hHeld := LB4
          refine hK.out _ _ hHeld (fun _ => ?_)
          clear hK K
          try simp only [Act.put, List.setIfInBounds_toArray, List.set_cons_zero, List.set_cons_succ]
          refine wpAnyH_take (i := 5) (oi := { dst := some 34, op := Go.Op.field 43 (Go.Operand.tmp 33) 1, type := 41, pos := "law.go:63", after := #[{ on := 4, ground := Go.Ground.data }, { on := 7, ground := Go.Ground.gcOnly Go.Departure.lateStores }], guard := none }) (v := (.agg #[c1, c2, c3, c4, c5, c6, c7, c8])) rfl (by kernel_rfl) (by kernel_rfl) (by kernel_rfl) (fun _ _ _ h => h) (Or.inl ⟨by rfl, ?hy10⟩) hHeld ?rest10
          case hy10 => (intro w hSw; (try dsimp only at hSw); go_simp; try (first | rfl | (simp [Sem.run]; done)); (first | done | with_reducible rfl))
          try simp only [Act.put, List.setIfInBounds_toArray, List.set_cons_zero, List.set_cons_succ]
          refine wpAnyH_ready (rs := [6]) (by kernel_rfl) (by simp) ?_
          refine AllReadyH.cons (o := { dst := some 10, op := Go.Op.alloc 41, type := 0, pos := "law.go:63", after := #[], guard := none }) rfl (fun K hK => ?_) (AllReadyH.nil)
          rw [if_pos (by rfl)]
          refine allocV rfl ?_
          intro B10 w10 bB10 cB10 XB10 LB10 RB10
          have z11 := XB10.size
          replace E := E.trans XB10
          replace LB4 := LB4.ext XB10
          replace HT := HT.ext XB10
          replace HV := HV.ext XB10
          clear hHeld
          have hHeld := LB4
          refine hK.out _ _ hHeld (fun _ => ?_)
          clear hK K
          try simp only [Act.put, List.setIfInBounds_toArray, List.set_cons_zero, List.set_cons_succ]
          refine wpAnyH_take (i := 7) (oi := { dst := some 9, op := Go.Op.assign (Go.Operand.tmp 31), type := 27, pos := "law.go:63", after := #[{ on := 2, ground := Go.Ground.data }, { on := 4, ground := Go.Ground.chain }, { on := 0, ground := Go.Ground.phase }, { on := 1, ground := Go.Ground.phase }, { on := 2, ground := Go.Ground.phase }, { on := 3, ground := Go.Ground.textOnly Go.Departure.lateStores }, { on := 4, ground := Go.Ground.textOnly Go.Departure.lateStoresUnsure }, { on := 5, ground := Go.Ground.textOnly Go.Departure.lateStores }, { on := 6, ground := Go.Ground.phase }], guard := none }) (v := ?v12) rfl (by kernel_rfl) (by kernel_rfl) (by kernel_rfl) (fun _ _ _ h => h) (Or.inl ⟨by rfl, ?hy12⟩) hHeld ?rest12
          case hy12 => (intro w hSw; (try dsimp only at hSw); go_simp; (first | done | with_reducible rfl))
          try simp only [Act.put, List.setIfInBounds_toArray, List.set_cons_zero, List.set_cons_succ]
          refine wpAnyH_ready (rs := [8]) (by kernel_rfl) (by simp) ?_
          refine AllReadyH.cons (o := { dst := none, op := Go.Op.store 41 (Go.Operand.tmp 10) (Go.Operand.tmp 34), type := 0, pos := "law.go:63", after := #[{ on := 6, ground := Go.Ground.data }, { on := 5, ground := Go.Ground.data }, { on := 7, ground := Go.Ground.chain }, { on := 0, ground := Go.Ground.phase }, { on := 1, ground := Go.Ground.phase }, { on := 2, ground := Go.Ground.phase }, { on := 3, ground := Go.Ground.phase }, { on := 4, ground := Go.Ground.phase }, { on := 5, ground := Go.Ground.phase }, { on := 6, ground := Go.Ground.phase }, { on := 7, ground := Go.Ground.phase }], guard := none }) rfl (fun K hK => ?_) (AllReadyH.nil)
          rw [if_pos (by rfl)]
          have hRl := (RB10).lt (Nat.zero_lt_succ _)
          refine storeV (by rfl) (by rfl) (v := (.agg #[c1, c2, c3, c4, c5, c6, c7, c8])) (by rfl) RB10 hf8 ?_
          clear LB10
          intro s13 G13 LB10 RQ
          have z14 := G13.size
          replace E := grown_ext E G13 (by omega)
          replace LB4 := LB4.grown G13 (by omega)
          replace HT := HT.grown G13 (by first | omega | (dsimp only [New]; omega))
          replace HV := HV.grown G13 (by first | omega | (dsimp only [New]; omega))
          clear RB10
          have RB10 := RQ
          clear RQ hRl G13
          clear hHeld
          have hHeld := LB4
          refine hK.out _ _ hHeld (fun _ => ?_)
          clear hK K
          try simp only [Act.put]
          refine wpAnyH_done (by kernel_rfl) ?_ _
          refine J s13 B10 tA tc c0 c1 c2 c3 c4 c5 c6 c7 c8 ?_
          exact ⟨by omega, ⟨by omega, by omega⟩, E, LB4, LB10, ⟨L, HT.mono' (fun i hi h => by dsimp only [New] at h; omega)⟩, HV.mono (fun i hi h => by dsimp only [New] at h; omega)⟩
        · rw [if_pos (by rfl)]
          refine allocV rfl ?_
          intro B10 w10 bB10 cB10 XB10 LB10 RB10
          have z15 := XB10.size
          replace E := E.trans XB10
          replace LB4 := LB4.ext XB10
          replace HT := HT.ext XB10
          clear hHeld
          have hHeld := LB4
          refine hK.out _ _ hHeld (fun _ => ?_)
          clear hK K
          try simp only [Act.put, List.setIfInBounds_toArray, List.set_cons_zero, List.set_cons_succ]
          refine wpAnyH_ready (rs := [4]) (by kernel_rfl) (by simp) ?_
          refine AllReadyH.cons (o := { dst := some 33, op := Go.Op.call { callee := Go.Callee.value (Go.Operand.func 16), args := #[Go.Operand.tmp 32], argTypes := #[29] }, type := 43, pos := "law.go:63", after := #[{ on := 3, ground := Go.Ground.data }, { on := 1, ground := Go.Ground.chain }], guard := none }) rfl (fun K hK => ?_) (AllReadyH.nil)
          go_simp
          refine (co' _ E).mono ?_
          rintro e w33 ⟨c0, c1, c2, c3, c4, c5, c6, c7, c8, rfl, hf, hq, x⟩
          have HV := hq.now
          have hf8 := flat_tail' hf
          clear hq hf
          have z16 := x.size
          replace E := E.trans x
          replace LB4 := LB4.ext x
          replace HT := HT.ext x
          replace LB10 := LB10.ext x
          replace RB10 := RB10.ext x
          clear x
          clear hHeld
          have hHeld := LB4
          refine hK.out _ _ hHeld (fun _ => ?_)
          clear hK K
          try simp only [Act.put, List.setIfInBounds_toArray, List.set_cons_zero, List.set_cons_succ]
          refine wpAnyH_take (i := 5) (oi := { dst := some 34, op := Go.Op.field 43 (Go.Operand.tmp 33) 1, type := 41, pos := "law.go:63", after := #[{ on := 4, ground := Go.Ground.data }, { on := 7, ground := Go.Ground.gcOnly Go.Departure.lateStores }], guard := none }) (v := (.agg #[c1, c2, c3, c4, c5, c6, c7, c8])) rfl (by kernel_rfl) (by kernel_rfl) (by kernel_rfl) (fun _ _ _ h => h) (Or.inl ⟨by rfl, ?hy17⟩) hHeld ?rest17
          case hy17 => (intro w hSw; (try dsimp only at hSw); go_simp; try (first | rfl | (simp [Sem.run]; done)); (first | done | with_reducible rfl))
          try simp only [Act.put, List.setIfInBounds_toArray, List.set_cons_zero, List.set_cons_succ]
          refine wpAnyH_take (i := 7) (oi := { dst := some 9, op := Go.Op.assign (Go.Operand.tmp 31), type := 27, pos := "law.go:63", after := #[{ on := 2, ground := Go.Ground.data }, { on := 4, ground := Go.Ground.chain }, { on := 0, ground := Go.Ground.phase }, { on := 1, ground := Go.Ground.phase }, { on := 2, ground := Go.Ground.phase }, { on := 3, ground := Go.Ground.textOnly Go.Departure.lateStores }, { on := 4, ground := Go.Ground.textOnly Go.Departure.lateStoresUnsure }, { on := 5, ground := Go.Ground.textOnly Go.Departure.lateStores }, { on := 6, ground := Go.Ground.phase }], guard := none }) (v := ?v18) rfl (by kernel_rfl) (by kernel_rfl) (by kernel_rfl) (fun _ _ _ h => h) (Or.inl ⟨by rfl, ?hy18⟩) hHeld ?rest18
          case hy18 => (intro w hSw; (try dsimp only at hSw); go_simp; (first | done | with_reducible rfl))
          try simp only [Act.put, List.setIfInBounds_toArray, List.set_cons_zero, List.set_cons_succ]
          refine wpAnyH_ready (rs := [8]) (by kernel_rfl) (by simp) ?_
          refine AllReadyH.cons (o := { dst := none, op := Go.Op.store 41 (Go.Operand.tmp 10) (Go.Operand.tmp 34), type := 0, pos := "law.go:63", after := #[{ on := 6, ground := Go.Ground.data }, { on := 5, ground := Go.Ground.data }, { on := 7, ground := Go.Ground.chain }, { on := 0, ground := Go.Ground.phase }, { on := 1, ground := Go.Ground.phase }, { on := 2, ground := Go.Ground.phase }, { on := 3, ground := Go.Ground.phase }, { on := 4, ground := Go.Ground.phase }, { on := 5, ground := Go.Ground.phase }, { on := 6, ground := Go.Ground.phase }, { on := 7, ground := Go.Ground.phase }], guard := none }) rfl (fun K hK => ?_) (AllReadyH.nil)
          rw [if_pos (by rfl)]
          have hRl := (RB10).lt (Nat.zero_lt_succ _)
          refine storeV (by rfl) (by rfl) (v := (.agg #[c1, c2, c3, c4, c5, c6, c7, c8])) (by rfl) RB10 hf8 ?_
          clear LB10
          intro s19 G19 LB10 RQ
          have z20 := G19.size
          replace E := grown_ext E G19 (by omega)
          replace LB4 := LB4.grown G19 (by omega)
          replace HT := HT.grown G19 (by first | omega | (dsimp only [New]; omega))
          replace HV := HV.grown G19 (by first | omega | (dsimp only [New]; omega))
          clear RB10
          have RB10 := RQ
          clear RQ hRl G19
          clear hHeld
          have hHeld := LB4
          refine hK.out _ _ hHeld (fun _ => ?_)
          clear hK K
          try simp only [Act.put]
          refine wpAnyH_done (by kernel_rfl) ?_ _
          refine J s19 B10 tA tc c0 c1 c2 c3 c4 c5 c6 c7 c8 ?_
          exact ⟨by omega, ⟨by omega, by omega⟩, E, LB4, LB10, ⟨L, HT.mono' (fun i hi h => by dsimp only [New] at h; omega)⟩, HV.mono (fun i hi h => by dsimp only [New] at h; omega)⟩
      · rw [if_pos (by rfl)]
        refine allocV rfl ?_
        intro B10 w10 bB10 cB10 XB10 LB10 RB10
        have z21 := XB10.size
        replace E := E.trans XB10
        replace LB4 := LB4.ext XB10
        clear hHeld
        have hHeld := LB4
        refine hK.out _ _ hHeld (fun _ => ?_)
        clear hK K
        try simp only [Act.put, List.setIfInBounds_toArray, List.set_cons_zero, List.set_cons_succ]
        refine wpAnyH_ready (rs := [1]) (by kernel_rfl) (by simp) ?_
        refine AllReadyH.cons (o := { dst := some 30, op := Go.Op.call { callee := Go.Callee.value (Go.Operand.func 15), args := #[Go.Operand.tmp 29], argTypes := #[29] }, type := 29, pos := "law.go:63", after := #[{ on := 0, ground := Go.Ground.data }], guard := none }) rfl (fun K hK => ?_) (AllReadyH.nil)
        go_simp
        refine (ct' _ E).mono ?_
        rintro e w30 ⟨tA, tc, L, rfl, hq, x⟩
        have HT := hq.now
        clear hq
        have z22 := x.size
        replace E := E.trans x
        replace LB4 := LB4.ext x
        replace LB10 := LB10.ext x
        replace RB10 := RB10.ext x
        clear x
        clear hHeld
        have hHeld := LB4
        refine hK.out _ _ hHeld (fun _ => ?_)
        clear hK K
        try simp only [Act.put, List.setIfInBounds_toArray, List.set_cons_zero, List.set_cons_succ]
        refine wpAnyH_take (i := 2) (oi := { dst := some 31, op := Go.Op.field 29 (Go.Operand.tmp 30) 1, type := 27, pos := "law.go:63", after := #[{ on := 1, ground := Go.Ground.data }], guard := none }) (v := .slice tA m tc) rfl (by kernel_rfl) (by kernel_rfl) (by kernel_rfl) (fun _ _ _ h => h) (Or.inl ⟨by rfl, ?hy23⟩) hHeld ?rest23
        case hy23 => (intro w hSw; (try dsimp only at hSw); go_simp; try (first | rfl | (simp [Sem.run]; done)); (first | done | with_reducible rfl))
        try simp only [Act.put, List.setIfInBounds_toArray, List.set_cons_zero, List.set_cons_succ]
        refine wpAnyH_ready (rs := [4]) (by kernel_rfl) (by simp) ?_
        refine AllReadyH.cons (o := { dst := some 33, op := Go.Op.call { callee := Go.Callee.value (Go.Operand.func 16), args := #[Go.Operand.tmp 32], argTypes := #[29] }, type := 43, pos := "law.go:63", after := #[{ on := 3, ground := Go.Ground.data }, { on := 1, ground := Go.Ground.chain }], guard := none }) rfl (fun K hK => ?_) (AllReadyH.nil)
        go_simp
        refine (co' _ E).mono ?_
        rintro e w33 ⟨c0, c1, c2, c3, c4, c5, c6, c7, c8, rfl, hf, hq, x⟩
        have HV := hq.now
        have hf8 := flat_tail' hf
        clear hq hf
        have z24 := x.size
        replace E := E.trans x
        replace LB4 := LB4.ext x
        replace LB10 := LB10.ext x
        replace RB10 := RB10.ext x
        replace HT := HT.ext x
        clear x
        clear hHeld
        have hHeld := LB4
        refine hK.out _ _ hHeld (fun _ => ?_)
        clear hK K
        try simp only [Act.put, List.setIfInBounds_toArray, List.set_cons_zero, List.set_cons_succ]
        refine wpAnyH_take (i := 5) (oi := { dst := some 34, op := Go.Op.field 43 (Go.Operand.tmp 33) 1, type := 41, pos := "law.go:63", after := #[{ on := 4, ground := Go.Ground.data }, { on := 7, ground := Go.Ground.gcOnly Go.Departure.lateStores }], guard := none }) (v := (.agg #[c1, c2, c3, c4, c5, c6, c7, c8])) rfl (by kernel_rfl) (by kernel_rfl) (by kernel_rfl) (fun _ _ _ h => h) (Or.inl ⟨by rfl, ?hy25⟩) hHeld ?rest25
        case hy25 => (intro w hSw; (try dsimp only at hSw); go_simp; try (first | rfl | (simp [Sem.run]; done)); (first | done | with_reducible rfl))
        try simp only [Act.put, List.setIfInBounds_toArray, List.set_cons_zero, List.set_cons_succ]
        refine wpAnyH_take (i := 7) (oi := { dst := some 9, op := Go.Op.assign (Go.Operand.tmp 31), type := 27, pos := "law.go:63", after := #[{ on := 2, ground := Go.Ground.data }, { on := 4, ground := Go.Ground.chain }, { on := 0, ground := Go.Ground.phase }, { on := 1, ground := Go.Ground.phase }, { on := 2, ground := Go.Ground.phase }, { on := 3, ground := Go.Ground.textOnly Go.Departure.lateStores }, { on := 4, ground := Go.Ground.textOnly Go.Departure.lateStoresUnsure }, { on := 5, ground := Go.Ground.textOnly Go.Departure.lateStores }, { on := 6, ground := Go.Ground.phase }], guard := none }) (v := ?v26) rfl (by kernel_rfl) (by kernel_rfl) (by kernel_rfl) (fun _ _ _ h => h) (Or.inl ⟨by rfl, ?hy26⟩) hHeld ?rest26
        case hy26 => (intro w hSw; (try dsimp only at hSw); go_simp; (first | done | with_reducible rfl))
        try simp only [Act.put, List.setIfInBounds_toArray, List.set_cons_zero, List.set_cons_succ]
        refine wpAnyH_ready (rs := [8]) (by kernel_rfl) (by simp) ?_
        refine AllReadyH.cons (o := { dst := none, op := Go.Op.store 41 (Go.Operand.tmp 10) (Go.Operand.tmp 34), type := 0, pos := "law.go:63", after := #[{ on := 6, ground := Go.Ground.data }, { on := 5, ground := Go.Ground.data }, { on := 7, ground := Go.Ground.chain }, { on := 0, ground := Go.Ground.phase }, { on := 1, ground := Go.Ground.phase }, { on := 2, ground := Go.Ground.phase }, { on := 3, ground := Go.Ground.phase }, { on := 4, ground := Go.Ground.phase }, { on := 5, ground := Go.Ground.phase }, { on := 6, ground := Go.Ground.phase }, { on := 7, ground := Go.Ground.phase }], guard := none }) rfl (fun K hK => ?_) (AllReadyH.nil)
        rw [if_pos (by rfl)]
        have hRl := (RB10).lt (Nat.zero_lt_succ _)
        refine storeV (by rfl) (by rfl) (v := (.agg #[c1, c2, c3, c4, c5, c6, c7, c8])) (by rfl) RB10 hf8 ?_
        clear LB10
        intro s27 G27 LB10 RQ
        have z28 := G27.size
        replace E := grown_ext E G27 (by omega)
        replace LB4 := LB4.grown G27 (by omega)
        replace HT := HT.grown G27 (by first | omega | (dsimp only [New]; omega))
        replace HV := HV.grown G27 (by first | omega | (dsimp only [New]; omega))
        clear RB10
        have RB10 := RQ
        clear RQ hRl G27
        clear hHeld
        have hHeld := LB4
        refine hK.out _ _ hHeld (fun _ => ?_)
        clear hK K
        try simp only [Act.put]
        refine wpAnyH_done (by kernel_rfl) ?_ _
        refine J s27 B10 tA tc c0 c1 c2 c3 c4 c5 c6 c7 c8 ?_
        exact ⟨by omega, ⟨by omega, by omega⟩, E, LB4, LB10, ⟨L, HT.mono' (fun i hi h => by dsimp only [New] at h; omega)⟩, HV.mono (fun i hi h => by dsimp only [New] at h; omega)⟩
    case t =>
      intro wJ3 B10 tA tc c0 c1 c2 c3 c4 c5 c6 c7 c8 hJ
      clear E LB4
      obtain ⟨z29, ⟨bB10, cB10⟩, E, LB4, LB10, HT, HV⟩ := hJ
      try dsimp only
      obtain ⟨L, HT⟩ := HT
      go_wp2_with fail
      refine (kr' tA tc _ _ HT.is).mono ?_
      rintro e w38 ⟨B, cB, rfl, hq, x⟩
      have HGL := hq
      clear hq
      have z30 := x.size
      replace E := E.trans x
      replace LB4 := LB4.ext x
      replace LB10 := LB10.ext x
      replace HT := HT.ext x
      replace HV := HV.ext x
      clear x
      go_wp2_with (refine loadsV (B := B10) (by rfl) rfl rfl LB10 ?_)
      refine (kg _ B cB _ HV.is HGL.is).mono ?_
      rintro e w43 ⟨rfl, x⟩
      have z31 := x.size
      replace E := E.trans x
      replace LB4 := LB4.ext x
      replace LB10 := LB10.ext x
      replace HT := HT.ext x
      replace HV := HV.ext x
      replace HGL := HGL.ext x
      clear x
      go_wp2_with (refine loadgV (B := B10) (by rfl) rfl rfl LB10 ?_)
      refine (ks _ _ HV.is (HS.out.ext E)).mono ?_
      rintro e w49 ⟨rfl, x⟩
      have z32 := x.size
      replace E := E.trans x
      replace LB4 := LB4.ext x
      replace LB10 := LB10.ext x
      replace HT := HT.ext x
      replace HV := HV.ext x
      replace HGL := HGL.ext x
      clear x
      go_wp2_with fail
      refine (ki B cB _ (HS.out.ext E) HGL.is).mono ?_
      rintro e w52 ⟨rfl, x⟩
      have z33 := x.size
      replace E := E.trans x
      replace LB4 := LB4.ext x
      replace LB10 := LB10.ext x
      replace HT := HT.ext x
      replace HV := HV.ext x
      replace HGL := HGL.ext x
      clear x
      go_wp2_with (refine loadgV (B := B10) (by rfl) rfl rfl LB10 ?_)
      clear LB10
      refine (kz _ _ HV.is).mono ?_
      rintro e w58 ⟨rfl, x⟩
      have z34 := x.size
      replace E := E.trans x
      replace LB4 := LB4.ext x
      replace HT := HT.ext x
      replace HV := HV.ext x
      replace HGL := HGL.ext x
      clear x
      go_wp2_with fail
      refine (oawake_any _).mono ?_
      rintro e w62 ⟨rfl, x⟩
      have z35 := x.size
      replace E := E.trans x
      replace LB4 := LB4.ext x
      replace HT := HT.ext x
      replace HV := HV.ext x
      replace HGL := HGL.ext x
      clear x
      go_wp2_with fail
      go_ret
      exact ⟨rfl, E⟩
end Go.Proofs.Ytidnikndjhfgaaa
