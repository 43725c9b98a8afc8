/- OrderTotal. -/
import Derived.Test.YtidnikndjhfgaaaTk
import Derived.Test.YtidnikndjhfgaaaTe
namespace Go.Proofs.Ytidnikndjhfgaaa
open Go.ChangeShapes Go.WideShapes Go.RowKit Bv Fl
set_option maxHeartbeats 2000000
set_option maxRecDepth 100000
theorem ototal_b1 (sA : Option Addr) (ns sc : Nat) (iA : Option Addr) (m ic : Nat) (fl zc : Int) (w : World)
    (cg : ∀ w', Ext w w' → Calls Try.prog 14 #[(.agg #[.slice sA ns sc, .slice iA m ic, .int .i64 fl])] w' (GoodB m zc fl w')) (i j k : Int) (down : Bool) (h1 : i < 0) : Calls Try.prog 6 #[(.agg #[.slice sA ns sc, .slice iA m ic, .int .i64 fl]), .int .i64 i, .int .i64 j, .int .i64 k, .bool down] w fun e w' => e = .returned (.bool true) ∧ Ext w w' := by
  have hF := pl_flat sA ns sc iA m ic fl
  have E := Ext.refl w
  have e20 : decide (i < 0) = true := decide_eq_true h1
  clear h1
  go_enter Try.func6, Try.ntmps6
  have TB5 : True := trivial
  go_wp2_with (first | (clear TB5; refine boxsP (v := (.agg #[.slice sA ns sc, .slice iA m ic, .int .i64 fl])) rfl rfl rfl hF ?_; intro B5 w5 bB5 cB5 XB5 LB5 RB5; have z1 := XB5.size; replace E := E.trans XB5; have cB5_1 := lay_cell LB5 (j := 1) rfl; clear RB5) | (refine loadsP (B := B5) (by rfl) rfl rfl LB5 ?_))
  refine (cg _ E).mono ?_
  rintro e w16 ⟨g, rfl, hg, x⟩
  cases g
  · have z2 := x.size
    replace E := E.trans x
    replace LB5 := LB5.ext x
    replace cB5_1 := cell_ext (x) cB5_1
    clear x
    go_wp2_with fail
    refine (oawake_any _).mono ?_
    rintro e w51 ⟨rfl, x⟩
    have z3 := x.size
    replace E := E.trans x
    replace LB5 := LB5.ext x
    replace cB5_1 := cell_ext (x) cB5_1
    clear x
    go_wp2_with fail
    go_ret
    exact ⟨rfl, E⟩
  · have z2 := x.size
    replace E := E.trans x
    replace LB5 := LB5.ext x
    replace cB5_1 := cell_ext (x) cB5_1
    clear x
    go_wp2_with fail
    refine (oawake_any _).mono ?_
    rintro e w51 ⟨rfl, x⟩
    have z3 := x.size
    replace E := E.trans x
    replace LB5 := LB5.ext x
    replace cB5_1 := cell_ext (x) cB5_1
    clear x
    go_wp2_with fail
    go_ret
    exact ⟨rfl, E⟩
theorem ototal_b2 (sA : Option Addr) (ns sc : Nat) (iA : Option Addr) (m ic : Nat) (fl zc : Int) (w : World)
    (cg : ∀ w', Ext w w' → Calls Try.prog 14 #[(.agg #[.slice sA ns sc, .slice iA m ic, .int .i64 fl])] w' (GoodB m zc fl w')) (i j k : Int) (down : Bool) (h1 : ¬ (i < 0)) (h2 : j < 0) : Calls Try.prog 6 #[(.agg #[.slice sA ns sc, .slice iA m ic, .int .i64 fl]), .int .i64 i, .int .i64 j, .int .i64 k, .bool down] w fun e w' => e = .returned (.bool true) ∧ Ext w w' := by
  have hF := pl_flat sA ns sc iA m ic fl
  have E := Ext.refl w
  have e20 : decide (i < 0) = false := decide_eq_false h1
  have e24 : decide (j < 0) = true := decide_eq_true h2
  clear h1 h2
  go_enter Try.func6, Try.ntmps6
  have TB5 : True := trivial
  go_wp2_with (first | (clear TB5; refine boxsP (v := (.agg #[.slice sA ns sc, .slice iA m ic, .int .i64 fl])) rfl rfl rfl hF ?_; intro B5 w5 bB5 cB5 XB5 LB5 RB5; have z1 := XB5.size; replace E := E.trans XB5; have cB5_1 := lay_cell LB5 (j := 1) rfl; clear RB5) | (refine loadsP (B := B5) (by rfl) rfl rfl LB5 ?_))
  refine (cg _ E).mono ?_
  rintro e w16 ⟨g, rfl, hg, x⟩
  cases g
  · have z2 := x.size
    replace E := E.trans x
    replace LB5 := LB5.ext x
    replace cB5_1 := cell_ext (x) cB5_1
    clear x
    go_wp2_with fail
    refine (oawake_any _).mono ?_
    rintro e w51 ⟨rfl, x⟩
    have z3 := x.size
    replace E := E.trans x
    replace LB5 := LB5.ext x
    replace cB5_1 := cell_ext (x) cB5_1
    clear x
    go_wp2_with fail
    go_ret
    exact ⟨rfl, E⟩
  · have z2 := x.size
    replace E := E.trans x
    replace LB5 := LB5.ext x
    replace cB5_1 := cell_ext (x) cB5_1
    clear x
    go_wp2_with fail
    refine (oawake_any _).mono ?_
    rintro e w51 ⟨rfl, x⟩
    have z3 := x.size
    replace E := E.trans x
    replace LB5 := LB5.ext x
    replace cB5_1 := cell_ext (x) cB5_1
    clear x
    go_wp2_with fail
    go_ret
    exact ⟨rfl, E⟩
theorem ototal_b3 (sA : Option Addr) (ns sc : Nat) (iA : Option Addr) (m ic : Nat) (fl zc : Int) (w : World)
    (cg : ∀ w', Ext w w' → Calls Try.prog 14 #[(.agg #[.slice sA ns sc, .slice iA m ic, .int .i64 fl])] w' (GoodB m zc fl w')) (i j k : Int) (down : Bool) (h1 : ¬ (i < 0)) (h2 : ¬ (j < 0)) (h3 : k < 0) : Calls Try.prog 6 #[(.agg #[.slice sA ns sc, .slice iA m ic, .int .i64 fl]), .int .i64 i, .int .i64 j, .int .i64 k, .bool down] w fun e w' => e = .returned (.bool true) ∧ Ext w w' := by
  have hF := pl_flat sA ns sc iA m ic fl
  have E := Ext.refl w
  have e20 : decide (i < 0) = false := decide_eq_false h1
  have e24 : decide (j < 0) = false := decide_eq_false h2
  have e28 : decide (k < 0) = true := decide_eq_true h3
  clear h1 h2 h3
  go_enter Try.func6, Try.ntmps6
  have TB5 : True := trivial
  go_wp2_with (first | (clear TB5; refine boxsP (v := (.agg #[.slice sA ns sc, .slice iA m ic, .int .i64 fl])) rfl rfl rfl hF ?_; intro B5 w5 bB5 cB5 XB5 LB5 RB5; have z1 := XB5.size; replace E := E.trans XB5; have cB5_1 := lay_cell LB5 (j := 1) rfl; clear RB5) | (refine loadsP (B := B5) (by rfl) rfl rfl LB5 ?_))
  refine (cg _ E).mono ?_
  rintro e w16 ⟨g, rfl, hg, x⟩
  cases g
  · have z2 := x.size
    replace E := E.trans x
    replace LB5 := LB5.ext x
    replace cB5_1 := cell_ext (x) cB5_1
    clear x
    go_wp2_with fail
    refine (oawake_any _).mono ?_
    rintro e w51 ⟨rfl, x⟩
    have z3 := x.size
    replace E := E.trans x
    replace LB5 := LB5.ext x
    replace cB5_1 := cell_ext (x) cB5_1
    clear x
    go_wp2_with fail
    go_ret
    exact ⟨rfl, E⟩
  · have z2 := x.size
    replace E := E.trans x
    replace LB5 := LB5.ext x
    replace cB5_1 := cell_ext (x) cB5_1
    clear x
    go_wp2_with fail
    refine (oawake_any _).mono ?_
    rintro e w51 ⟨rfl, x⟩
    have z3 := x.size
    replace E := E.trans x
    replace LB5 := LB5.ext x
    replace cB5_1 := cell_ext (x) cB5_1
    clear x
    go_wp2_with fail
    go_ret
    exact ⟨rfl, E⟩
theorem ototal_b4 (sA : Option Addr) (ns sc : Nat) (iA : Option Addr) (m ic : Nat) (fl zc : Int) (w : World)
    (cg : ∀ w', Ext w w' → Calls Try.prog 14 #[(.agg #[.slice sA ns sc, .slice iA m ic, .int .i64 fl])] w' (GoodB m zc fl w')) (i j k : Int) (down : Bool) (h1 : ¬ (i < 0)) (h2 : ¬ (j < 0)) (h3 : ¬ (k < 0)) (h4 : (m : Int) ≤ i) : Calls Try.prog 6 #[(.agg #[.slice sA ns sc, .slice iA m ic, .int .i64 fl]), .int .i64 i, .int .i64 j, .int .i64 k, .bool down] w fun e w' => e = .returned (.bool true) ∧ Ext w w' := by
  have hF := pl_flat sA ns sc iA m ic fl
  have E := Ext.refl w
  have e20 : decide (i < 0) = false := decide_eq_false h1
  have e24 : decide (j < 0) = false := decide_eq_false h2
  have e28 : decide (k < 0) = false := decide_eq_false h3
  have e35 : decide ((m : Int) ≤ i) = true := decide_eq_true h4
  clear h1 h2 h3 h4
  go_enter Try.func6, Try.ntmps6
  have TB5 : True := trivial
  go_wp2_with (first | (clear TB5; refine boxsP (v := (.agg #[.slice sA ns sc, .slice iA m ic, .int .i64 fl])) rfl rfl rfl hF ?_; intro B5 w5 bB5 cB5 XB5 LB5 RB5; have z1 := XB5.size; replace E := E.trans XB5; have cB5_1 := lay_cell LB5 (j := 1) rfl; clear RB5) | (refine loadsP (B := B5) (by rfl) rfl rfl LB5 ?_))
  refine (cg _ E).mono ?_
  rintro e w16 ⟨g, rfl, hg, x⟩
  cases g
  · have z2 := x.size
    replace E := E.trans x
    replace LB5 := LB5.ext x
    replace cB5_1 := cell_ext (x) cB5_1
    clear x
    go_wp2_with fail
    refine (oawake_any _).mono ?_
    rintro e w51 ⟨rfl, x⟩
    have z3 := x.size
    replace E := E.trans x
    replace LB5 := LB5.ext x
    replace cB5_1 := cell_ext (x) cB5_1
    clear x
    go_wp2_with fail
    go_ret
    exact ⟨rfl, E⟩
  · have z2 := x.size
    replace E := E.trans x
    replace LB5 := LB5.ext x
    replace cB5_1 := cell_ext (x) cB5_1
    clear x
    go_wp2_with fail
    refine (oawake_any _).mono ?_
    rintro e w51 ⟨rfl, x⟩
    have z3 := x.size
    replace E := E.trans x
    replace LB5 := LB5.ext x
    replace cB5_1 := cell_ext (x) cB5_1
    clear x
    go_wp2_with fail
    go_ret
    exact ⟨rfl, E⟩
theorem ototal_b5 (sA : Option Addr) (ns sc : Nat) (iA : Option Addr) (m ic : Nat) (fl zc : Int) (w : World)
    (cg : ∀ w', Ext w w' → Calls Try.prog 14 #[(.agg #[.slice sA ns sc, .slice iA m ic, .int .i64 fl])] w' (GoodB m zc fl w')) (i j k : Int) (down : Bool) (h1 : ¬ (i < 0)) (h2 : ¬ (j < 0)) (h3 : ¬ (k < 0)) (h4 : ¬ ((m : Int) ≤ i)) (h5 : (m : Int) ≤ j) : Calls Try.prog 6 #[(.agg #[.slice sA ns sc, .slice iA m ic, .int .i64 fl]), .int .i64 i, .int .i64 j, .int .i64 k, .bool down] w fun e w' => e = .returned (.bool true) ∧ Ext w w' := by
  have hF := pl_flat sA ns sc iA m ic fl
  have E := Ext.refl w
  have e20 : decide (i < 0) = false := decide_eq_false h1
  have e24 : decide (j < 0) = false := decide_eq_false h2
  have e28 : decide (k < 0) = false := decide_eq_false h3
  have e35 : decide ((m : Int) ≤ i) = false := decide_eq_false h4
  have e42 : decide ((m : Int) ≤ j) = true := decide_eq_true h5
  clear h1 h2 h3 h4 h5
  go_enter Try.func6, Try.ntmps6
  have TB5 : True := trivial
  go_wp2_with (first | (clear TB5; refine boxsP (v := (.agg #[.slice sA ns sc, .slice iA m ic, .int .i64 fl])) rfl rfl rfl hF ?_; intro B5 w5 bB5 cB5 XB5 LB5 RB5; have z1 := XB5.size; replace E := E.trans XB5; have cB5_1 := lay_cell LB5 (j := 1) rfl; clear RB5) | (refine loadsP (B := B5) (by rfl) rfl rfl LB5 ?_))
  refine (cg _ E).mono ?_
  rintro e w16 ⟨g, rfl, hg, x⟩
  cases g
  · have z2 := x.size
    replace E := E.trans x
    replace LB5 := LB5.ext x
    replace cB5_1 := cell_ext (x) cB5_1
    clear x
    go_wp2_with fail
    refine (oawake_any _).mono ?_
    rintro e w51 ⟨rfl, x⟩
    have z3 := x.size
    replace E := E.trans x
    replace LB5 := LB5.ext x
    replace cB5_1 := cell_ext (x) cB5_1
    clear x
    go_wp2_with fail
    go_ret
    exact ⟨rfl, E⟩
  · have z2 := x.size
    replace E := E.trans x
    replace LB5 := LB5.ext x
    replace cB5_1 := cell_ext (x) cB5_1
    clear x
    go_wp2_with fail
    refine (oawake_any _).mono ?_
    rintro e w51 ⟨rfl, x⟩
    have z3 := x.size
    replace E := E.trans x
    replace LB5 := LB5.ext x
    replace cB5_1 := cell_ext (x) cB5_1
    clear x
    go_wp2_with fail
    go_ret
    exact ⟨rfl, E⟩
theorem ototal_b6 (sA : Option Addr) (ns sc : Nat) (iA : Option Addr) (m ic : Nat) (fl zc : Int) (w : World)
    (cg : ∀ w', Ext w w' → Calls Try.prog 14 #[(.agg #[.slice sA ns sc, .slice iA m ic, .int .i64 fl])] w' (GoodB m zc fl w')) (i j k : Int) (down : Bool) (h1 : ¬ (i < 0)) (h2 : ¬ (j < 0)) (h3 : ¬ (k < 0)) (h4 : ¬ ((m : Int) ≤ i)) (h5 : ¬ ((m : Int) ≤ j)) (h6 : (m : Int) ≤ k) : Calls Try.prog 6 #[(.agg #[.slice sA ns sc, .slice iA m ic, .int .i64 fl]), .int .i64 i, .int .i64 j, .int .i64 k, .bool down] w fun e w' => e = .returned (.bool true) ∧ Ext w w' := by
  have hF := pl_flat sA ns sc iA m ic fl
  have E := Ext.refl w
  have e20 : decide (i < 0) = false := decide_eq_false h1
  have e24 : decide (j < 0) = false := decide_eq_false h2
  have e28 : decide (k < 0) = false := decide_eq_false h3
  have e35 : decide ((m : Int) ≤ i) = false := decide_eq_false h4
  have e42 : decide ((m : Int) ≤ j) = false := decide_eq_false h5
  have e49 : decide ((m : Int) ≤ k) = true := decide_eq_true h6
  clear h1 h2 h3 h4 h5 h6
  go_enter Try.func6, Try.ntmps6
  have TB5 : True := trivial
  go_wp2_with (first | (clear TB5; refine boxsP (v := (.agg #[.slice sA ns sc, .slice iA m ic, .int .i64 fl])) rfl rfl rfl hF ?_; intro B5 w5 bB5 cB5 XB5 LB5 RB5; have z1 := XB5.size; replace E := E.trans XB5; have cB5_1 := lay_cell LB5 (j := 1) rfl; clear RB5) | (refine loadsP (B := B5) (by rfl) rfl rfl LB5 ?_))
  refine (cg _ E).mono ?_
  rintro e w16 ⟨g, rfl, hg, x⟩
  cases g
  · have z2 := x.size
    replace E := E.trans x
    replace LB5 := LB5.ext x
    replace cB5_1 := cell_ext (x) cB5_1
    clear x
    go_wp2_with fail
    refine (oawake_any _).mono ?_
    rintro e w51 ⟨rfl, x⟩
    have z3 := x.size
    replace E := E.trans x
    replace LB5 := LB5.ext x
    replace cB5_1 := cell_ext (x) cB5_1
    clear x
    go_wp2_with fail
    go_ret
    exact ⟨rfl, E⟩
  · have z2 := x.size
    replace E := E.trans x
    replace LB5 := LB5.ext x
    replace cB5_1 := cell_ext (x) cB5_1
    clear x
    go_wp2_with fail
    refine (oawake_any _).mono ?_
    rintro e w51 ⟨rfl, x⟩
    have z3 := x.size
    replace E := E.trans x
    replace LB5 := LB5.ext x
    replace cB5_1 := cell_ext (x) cB5_1
    clear x
    go_wp2_with fail
    go_ret
    exact ⟨rfl, E⟩
theorem field9 (c0 c1 c2 c3 c4 c5 c6 c7 c8 : Value) (w : World) : Sem.run Try.prog (Instr.field 43 (Value.agg #[c0, c1, c2, c3, c4, c5, c6, c7, c8]) 1) w = .ok (.agg #[c1, c2, c3, c4, c5, c6, c7, c8]) w := by rfl
theorem flat_tailV {c0 c1 c2 c3 c4 c5 c6 c7 c8 : Value} (h : Flat 9 (.agg #[c0, c1, c2, c3, c4, c5, c6, c7, c8])) : Flat 8 (.agg #[c1, c2, c3, c4, c5, c6, c7, c8]) := by
  obtain ⟨cs, e, _, h1⟩ := h
  cases e
  refine ⟨_, rfl, rfl, ?_⟩
  simpa using (by simpa using h1 : _ ∧ _).2
theorem ototal_m1 (sA : Option Addr) (ns sc : Nat) (iA : Option Addr) (m ic : Nat) (fl zc : Int) (w : World)
    (cg : ∀ w', Ext w w' → Calls Try.prog 14 #[(.agg #[.slice sA ns sc, .slice iA m ic, .int .i64 fl])] w' (GoodB m zc fl w')) (i j k : Int) (down : Bool) (X : List Int) (co : zc = 0 → fl < 2 → ∀ w', Ext w w' → Calls Try.prog 16 #[(.agg #[.slice sA ns sc, .slice iA m ic, .int .i64 fl])] w' (OfA X w')) (h1 : ¬ (i < 0)) (h2 : ¬ (j < 0)) (h3 : ¬ (k < 0)) (h4 : ¬ ((m : Int) ≤ i)) (h5 : ¬ ((m : Int) ≤ j)) (h6 : ¬ ((m : Int) ≤ k)) (b : Bool) (c : Bool) (cz : Int) (hc1 : -1 ≤ cz) (hc2 : cz ≤ 1) (e79 : (i != j) = true)
    (kla : ∀ v w', OV w' v X → Calls Try.prog 19 #[v, .int .i64 1, .int .i64 i, .int .i64 j, .bool down] w' fun e w2 => e = .returned (.bool false) ∧ Ext w' w2) (klb : ∀ v w', OV w' v X → Calls Try.prog 19 #[v, .int .i64 1, .int .i64 j, .int .i64 k, .bool down] w' fun e w2 => e = .returned (.bool b) ∧ Ext w' w2) (klc : ∀ v w', OV w' v X → Calls Try.prog 19 #[v, .int .i64 1, .int .i64 i, .int .i64 k, .bool down] w' fun e w2 => e = .returned (.bool c) ∧ Ext w' w2) (kld : ∀ v w', OV w' v X → Calls Try.prog 19 #[v, .int .i64 1, .int .i64 j, .int .i64 i, .bool down] w' fun e w2 => e = .returned (.bool true) ∧ Ext w' w2) (kca : ∀ v w', OV w' v X → Calls Try.prog 17 #[v, .int .i64 1, .int .i64 i, .int .i64 j] w' fun e w2 => e = .returned (.int .i64 (-cz)) ∧ Ext w' w2) (kcb : ∀ v w', OV w' v X → Calls Try.prog 17 #[v, .int .i64 1, .int .i64 j, .int .i64 i] w' fun e w2 => e = .returned (.int .i64 (cz)) ∧ Ext w' w2)  : Calls Try.prog 6 #[(.agg #[.slice sA ns sc, .slice iA m ic, .int .i64 fl]), .int .i64 i, .int .i64 j, .int .i64 k, .bool down] w fun e w' => e = .returned (.bool true) ∧ Ext w w' := by
  have hF := pl_flat sA ns sc iA m ic fl
  have E := Ext.refl w
  have e20 : decide (i < 0) = false := decide_eq_false h1
  have e24 : decide (j < 0) = false := decide_eq_false h2
  have e28 : decide (k < 0) = false := decide_eq_false h3
  have e35 : decide ((m : Int) ≤ i) = false := decide_eq_false h4
  have e42 : decide ((m : Int) ≤ j) = false := decide_eq_false h5
  have e49 : decide ((m : Int) ≤ k) = false := decide_eq_false h6
  clear h1 h2 h3 h4 h5 h6
  go_enter Try.func6, Try.ntmps6
  have TB5 : True := trivial
  go_wp2_with (first | (clear TB5; refine boxsP (v := (.agg #[.slice sA ns sc, .slice iA m ic, .int .i64 fl])) rfl rfl rfl hF ?_; intro B5 w5 bB5 cB5 XB5 LB5 RB5; have z1 := XB5.size; replace E := E.trans XB5; have cB5_1 := lay_cell LB5 (j := 1) rfl; clear RB5) | (refine loadsP (B := B5) (by rfl) rfl rfl LB5 ?_))
  refine (cg _ E).mono ?_
  rintro e w16 ⟨g, rfl, hg, x⟩
  cases g
  · have z2 := x.size
    replace E := E.trans x
    replace LB5 := LB5.ext x
    replace cB5_1 := cell_ext (x) cB5_1
    clear x
    go_wp2_with fail
    refine (oawake_any _).mono ?_
    rintro e w51 ⟨rfl, x⟩
    have z3 := x.size
    replace E := E.trans x
    replace LB5 := LB5.ext x
    replace cB5_1 := cell_ext (x) cB5_1
    clear x
    go_wp2_with fail
    go_ret
    exact ⟨rfl, E⟩
  · obtain ⟨hg1, hg2, hg3⟩ := hg rfl
    have co' := co hg2 hg3
    clear co hg hg2 hg3
    have z2 := x.size
    replace E := E.trans x
    replace LB5 := LB5.ext x
    replace cB5_1 := cell_ext (x) cB5_1
    clear x
    go_wp2_with (refine loadsP (B := B5) (by rfl) rfl rfl LB5 ?_)
    refine (co' _ E).mono ?_
    rintro e w53 ⟨c0, c1, c2, c3, c4, c5, c6, c7, c8, rfl, hf, hq, x⟩
    have HV := hq.now
    have hf8 := flat_tailV hf
    clear hq hf
    have z3 := x.size
    replace E := E.trans x
    replace LB5 := LB5.ext x
    replace cB5_1 := cell_ext (x) cB5_1
    clear x
    have TF54 : True := trivial
    have TB11 : True := trivial
    have TG5 : True := trivial
    go_wp2_with (first | (clear TF54; rw [field9]; simp only [Result.andThen_ok, Oper.upon_value]) | (clear TB11; refine allocsV rfl rfl ?_; intro B11 w11 bB11 cB11 XB11 LB11 RB11; have z4 := XB11.size; replace E := E.trans XB11; replace LB5 := LB5.ext XB11; replace cB5_1 := cell_ext (XB11) cB5_1; replace HV := HV.ext XB11) | (clear TG5; have hRl := (RB11).lt (Nat.zero_lt_succ _); refine storesV (B := B11) rfl rfl rfl (v := (.agg #[c1, c2, c3, c4, c5, c6, c7, c8])) rfl RB11 hf8 ?_; clear LB11; intro s5 G5 LB11 RQ; have z6 := G5.size; replace E := grown_ext E G5 (by omega); replace LB5 := LB5.grown G5 (by omega); replace cB5_1 := cell_grown (G5) cB5_1 (by show B5 ≠ _; omega); replace HV := HV.grown G5 (by first | omega | (dsimp only [New]; omega)); clear RB11; have RB11 := RQ; clear RQ hRl; clear RB11))
    try simp only [Act.put, List.setIfInBounds_toArray, List.set_cons_zero, List.set_cons_succ]
    have hq7 : s5.heap.size ≤ s5.drew.heap.size := Nat.le_refl _
    have z8 := (Ext.refl s5).drew.size
    replace E := E.trans (Ext.refl s5).drew
    replace LB5 := LB5.ext (Ext.refl s5).drew
    replace cB5_1 := cell_ext ((Ext.refl s5).drew) cB5_1
    replace HV := HV.ext (Ext.refl s5).drew
    replace LB11 := LB11.ext (Ext.refl s5).drew
    refine wp_region_held_drew (S := (fun w' => Lay 8 w' B11 (.agg #[c1, c2, c3, c4, c5, c6, c7, c8]))) (by kernel_rfl) LB11 (fun hHeld => ?_)
    refine wpAnyH_take (i := 0) (oi := { dst := some 55, op := Go.Op.load 41 (Go.Operand.tmp 11), type := 41, pos := "law.go:91", after := #[], guard := none }) (v := (.agg #[c1, c2, c3, c4, c5, c6, c7, c8])) rfl (by kernel_rfl) (by kernel_rfl) (by kernel_rfl) (fun _ _ _ h => h) (yieldV (by rfl) rfl rfl fun w' hx => hx) hHeld ?_
    try simp only [Act.put, List.setIfInBounds_toArray, List.set_cons_zero, List.set_cons_succ]
    refine wpAnyH_take (i := 1) (oi := { dst := some 56, op := Go.Op.move (Go.Operand.tmp 1), type := 3, pos := "law.go:91", after := #[], guard := none }) (v := ?v10) rfl (by kernel_rfl) (by kernel_rfl) (by kernel_rfl) (fun _ _ _ h => h) (Or.inl ⟨by rfl, ?hy10⟩) hHeld ?rest10
    case hy10 => (intro w hSw; (try dsimp only at hSw); go_simp; (first | done | with_reducible rfl))
    try simp only [Act.put, List.setIfInBounds_toArray, List.set_cons_zero, List.set_cons_succ]
    refine wpAnyH_take (i := 2) (oi := { dst := some 57, op := Go.Op.move (Go.Operand.tmp 2), type := 3, pos := "law.go:91", after := #[], guard := none }) (v := ?v11) rfl (by kernel_rfl) (by kernel_rfl) (by kernel_rfl) (fun _ _ _ h => h) (Or.inl ⟨by rfl, ?hy11⟩) hHeld ?rest11
    case hy11 => (intro w hSw; (try dsimp only at hSw); go_simp; (first | done | with_reducible rfl))
    try simp only [Act.put, List.setIfInBounds_toArray, List.set_cons_zero, List.set_cons_succ]
    refine wpAnyH_take (i := 3) (oi := { dst := some 58, op := Go.Op.move (Go.Operand.tmp 4), type := 4, pos := "law.go:91", after := #[], guard := none }) (v := ?v12) rfl (by kernel_rfl) (by kernel_rfl) (by kernel_rfl) (fun _ _ _ h => h) (Or.inl ⟨by rfl, ?hy12⟩) hHeld ?rest12
    case hy12 => (intro w hSw; (try dsimp only at hSw); go_simp; (first | done | with_reducible rfl))
    try simp only [Act.put, List.setIfInBounds_toArray, List.set_cons_zero, List.set_cons_succ]
    refine wpAnyH_take (i := 5) (oi := { dst := some 60, op := Go.Op.load 41 (Go.Operand.tmp 11), type := 41, pos := "law.go:91", after := #[], guard := none }) (v := (.agg #[c1, c2, c3, c4, c5, c6, c7, c8])) rfl (by kernel_rfl) (by kernel_rfl) (by kernel_rfl) (fun _ _ _ h => h) (yieldV (by rfl) rfl rfl fun w' hx => hx) hHeld ?_
    try simp only [Act.put, List.setIfInBounds_toArray, List.set_cons_zero, List.set_cons_succ]
    refine wpAnyH_take (i := 6) (oi := { dst := some 61, op := Go.Op.move (Go.Operand.tmp 2), type := 3, pos := "law.go:91", after := #[], guard := none }) (v := ?v14) rfl (by kernel_rfl) (by kernel_rfl) (by kernel_rfl) (fun _ _ _ h => h) (Or.inl ⟨by rfl, ?hy14⟩) hHeld ?rest14
    case hy14 => (intro w hSw; (try dsimp only at hSw); go_simp; (first | done | with_reducible rfl))
    try simp only [Act.put, List.setIfInBounds_toArray, List.set_cons_zero, List.set_cons_succ]
    refine wpAnyH_take (i := 7) (oi := { dst := some 62, op := Go.Op.move (Go.Operand.tmp 3), type := 3, pos := "law.go:91", after := #[], guard := none }) (v := ?v15) rfl (by kernel_rfl) (by kernel_rfl) (by kernel_rfl) (fun _ _ _ h => h) (Or.inl ⟨by rfl, ?hy15⟩) hHeld ?rest15
    case hy15 => (intro w hSw; (try dsimp only at hSw); go_simp; (first | done | with_reducible rfl))
    try simp only [Act.put, List.setIfInBounds_toArray, List.set_cons_zero, List.set_cons_succ]
    refine wpAnyH_take (i := 8) (oi := { dst := some 63, op := Go.Op.move (Go.Operand.tmp 4), type := 4, pos := "law.go:91", after := #[], guard := none }) (v := ?v16) rfl (by kernel_rfl) (by kernel_rfl) (by kernel_rfl) (fun _ _ _ h => h) (Or.inl ⟨by rfl, ?hy16⟩) hHeld ?rest16
    case hy16 => (intro w hSw; (try dsimp only at hSw); go_simp; (first | done | with_reducible rfl))
    try simp only [Act.put, List.setIfInBounds_toArray, List.set_cons_zero, List.set_cons_succ]
    refine wpAnyH_take (i := 10) (oi := { dst := some 65, op := Go.Op.load 41 (Go.Operand.tmp 11), type := 41, pos := "law.go:91", after := #[], guard := none }) (v := (.agg #[c1, c2, c3, c4, c5, c6, c7, c8])) rfl (by kernel_rfl) (by kernel_rfl) (by kernel_rfl) (fun _ _ _ h => h) (yieldV (by rfl) rfl rfl fun w' hx => hx) hHeld ?_
    try simp only [Act.put, List.setIfInBounds_toArray, List.set_cons_zero, List.set_cons_succ]
    refine wpAnyH_take (i := 11) (oi := { dst := some 66, op := Go.Op.move (Go.Operand.tmp 1), type := 3, pos := "law.go:91", after := #[], guard := none }) (v := ?v18) rfl (by kernel_rfl) (by kernel_rfl) (by kernel_rfl) (fun _ _ _ h => h) (Or.inl ⟨by rfl, ?hy18⟩) hHeld ?rest18
    case hy18 => (intro w hSw; (try dsimp only at hSw); go_simp; (first | done | with_reducible rfl))
    try simp only [Act.put, List.setIfInBounds_toArray, List.set_cons_zero, List.set_cons_succ]
    refine wpAnyH_take (i := 12) (oi := { dst := some 67, op := Go.Op.move (Go.Operand.tmp 3), type := 3, pos := "law.go:91", after := #[], guard := none }) (v := ?v19) rfl (by kernel_rfl) (by kernel_rfl) (by kernel_rfl) (fun _ _ _ h => h) (Or.inl ⟨by rfl, ?hy19⟩) hHeld ?rest19
    case hy19 => (intro w hSw; (try dsimp only at hSw); go_simp; (first | done | with_reducible rfl))
    try simp only [Act.put, List.setIfInBounds_toArray, List.set_cons_zero, List.set_cons_succ]
    refine wpAnyH_take (i := 13) (oi := { dst := some 68, op := Go.Op.move (Go.Operand.tmp 4), type := 4, pos := "law.go:91", after := #[], guard := none }) (v := ?v20) rfl (by kernel_rfl) (by kernel_rfl) (by kernel_rfl) (fun _ _ _ h => h) (Or.inl ⟨by rfl, ?hy20⟩) hHeld ?rest20
    case hy20 => (intro w hSw; (try dsimp only at hSw); go_simp; (first | done | with_reducible rfl))
    try simp only [Act.put, List.setIfInBounds_toArray, List.set_cons_zero, List.set_cons_succ]
    refine wpAnyH_ready (rs := [4]) (by kernel_rfl) (by simp) ?_
    refine AllReadyH.cons (o := { dst := some 59, op := Go.Op.call { callee := Go.Callee.value (Go.Operand.func 19), args := #[Go.Operand.tmp 55, Go.Operand.const (Go.Value.int Go.IntKind.i64 1), Go.Operand.tmp 56, Go.Operand.tmp 57, Go.Operand.tmp 58], argTypes := #[41, 3, 3, 3, 4] }, type := 4, pos := "law.go:91", after := #[{ on := 0, ground := Go.Ground.data }, { on := 1, ground := Go.Ground.data }, { on := 2, ground := Go.Ground.data }, { on := 3, ground := Go.Ground.data }], guard := none }) rfl (fun K hK => ?_) (AllReadyH.nil)
    go_simp
    refine (kla _ _ HV.is).mono ?_
    rintro e w59 ⟨rfl, x⟩
    have z21 := x.size
    replace E := E.trans x
    replace LB5 := LB5.ext x
    replace cB5_1 := cell_ext (x) cB5_1
    replace HV := HV.ext x
    replace LB11 := LB11.ext x
    clear x
    clear hHeld
    have hHeld := LB11
    refine hK.out _ _ hHeld (fun _ => ?_)
    clear hK K
    try simp only [Act.put, List.setIfInBounds_toArray, List.set_cons_zero, List.set_cons_succ]
    refine wpAnyH_ready (rs := [9]) (by kernel_rfl) (by simp) ?_
    refine AllReadyH.cons (o := { dst := some 64, op := Go.Op.call { callee := Go.Callee.value (Go.Operand.func 19), args := #[Go.Operand.tmp 60, Go.Operand.const (Go.Value.int Go.IntKind.i64 1), Go.Operand.tmp 61, Go.Operand.tmp 62, Go.Operand.tmp 63], argTypes := #[41, 3, 3, 3, 4] }, type := 4, pos := "law.go:91", after := #[{ on := 5, ground := Go.Ground.data }, { on := 6, ground := Go.Ground.data }, { on := 7, ground := Go.Ground.data }, { on := 8, ground := Go.Ground.data }, { on := 4, ground := Go.Ground.chain }], guard := none }) rfl (fun K hK => ?_) (AllReadyH.nil)
    go_simp
    refine (klb _ _ HV.is).mono ?_
    rintro e w64 ⟨rfl, x⟩
    have z22 := x.size
    replace E := E.trans x
    replace LB5 := LB5.ext x
    replace cB5_1 := cell_ext (x) cB5_1
    replace HV := HV.ext x
    replace LB11 := LB11.ext x
    clear x
    clear hHeld
    have hHeld := LB11
    refine hK.out _ _ hHeld (fun _ => ?_)
    clear hK K
    try simp only [Act.put, List.setIfInBounds_toArray, List.set_cons_zero, List.set_cons_succ]
    refine wpAnyH_ready (rs := [14]) (by kernel_rfl) (by simp) ?_
    refine AllReadyH.cons (o := { dst := some 69, op := Go.Op.call { callee := Go.Callee.value (Go.Operand.func 19), args := #[Go.Operand.tmp 65, Go.Operand.const (Go.Value.int Go.IntKind.i64 1), Go.Operand.tmp 66, Go.Operand.tmp 67, Go.Operand.tmp 68], argTypes := #[41, 3, 3, 3, 4] }, type := 4, pos := "law.go:91", after := #[{ on := 10, ground := Go.Ground.data }, { on := 11, ground := Go.Ground.data }, { on := 12, ground := Go.Ground.data }, { on := 13, ground := Go.Ground.data }, { on := 9, ground := Go.Ground.chain }], guard := none }) rfl (fun K hK => ?_) (AllReadyH.nil)
    go_simp
    refine (klc _ _ HV.is).mono ?_
    rintro e w69 ⟨rfl, x⟩
    have z23 := x.size
    replace E := E.trans x
    replace LB5 := LB5.ext x
    replace cB5_1 := cell_ext (x) cB5_1
    replace HV := HV.ext x
    replace LB11 := LB11.ext x
    clear x
    clear hHeld
    have hHeld := LB11
    refine hK.out _ _ hHeld (fun _ => ?_)
    clear hK K
    try simp only [Act.put, List.setIfInBounds_toArray, List.set_cons_zero, List.set_cons_succ]
    refine wpAnyH_take (i := 15) (oi := { dst := some 12, op := Go.Op.assign (Go.Operand.tmp 59), type := 4, pos := "law.go:91", after := #[{ on := 4, ground := Go.Ground.data }, { on := 14, ground := Go.Ground.chain }, { on := 0, ground := Go.Ground.phase }, { on := 1, ground := Go.Ground.phase }, { on := 2, ground := Go.Ground.phase }, { on := 3, ground := Go.Ground.phase }, { on := 4, ground := Go.Ground.phase }, { on := 5, ground := Go.Ground.textOnly Go.Departure.lateStores }, { on := 6, ground := Go.Ground.textOnly Go.Departure.lateStores }, { on := 7, ground := Go.Ground.textOnly Go.Departure.lateStores }, { on := 8, ground := Go.Ground.textOnly Go.Departure.lateStores }, { on := 9, ground := Go.Ground.textOnly Go.Departure.lateStoresUnsure }, { on := 10, ground := Go.Ground.textOnly Go.Departure.lateStores }, { on := 11, ground := Go.Ground.textOnly Go.Departure.lateStores }, { on := 12, ground := Go.Ground.textOnly Go.Departure.lateStores }, { on := 13, ground := Go.Ground.textOnly Go.Departure.lateStores }, { on := 14, ground := Go.Ground.textOnly Go.Departure.lateStoresUnsure }], guard := none }) (v := ?v24) rfl (by kernel_rfl) (by kernel_rfl) (by kernel_rfl) (fun _ _ _ h => h) (Or.inl ⟨by rfl, ?hy24⟩) hHeld ?rest24
    case hy24 => (intro w hSw; (try dsimp only at hSw); go_simp; (first | done | with_reducible rfl))
    try simp only [Act.put, List.setIfInBounds_toArray, List.set_cons_zero, List.set_cons_succ]
    refine wpAnyH_take (i := 16) (oi := { dst := some 13, op := Go.Op.assign (Go.Operand.tmp 64), type := 4, pos := "law.go:91", after := #[{ on := 9, ground := Go.Ground.data }, { on := 15, ground := Go.Ground.chain }, { on := 0, ground := Go.Ground.phase }, { on := 1, ground := Go.Ground.phase }, { on := 2, ground := Go.Ground.phase }, { on := 3, ground := Go.Ground.phase }, { on := 4, ground := Go.Ground.phase }, { on := 5, ground := Go.Ground.phase }, { on := 6, ground := Go.Ground.phase }, { on := 7, ground := Go.Ground.phase }, { on := 8, ground := Go.Ground.phase }, { on := 9, ground := Go.Ground.phase }, { on := 10, ground := Go.Ground.textOnly Go.Departure.lateStores }, { on := 11, ground := Go.Ground.textOnly Go.Departure.lateStores }, { on := 12, ground := Go.Ground.textOnly Go.Departure.lateStores }, { on := 13, ground := Go.Ground.textOnly Go.Departure.lateStores }, { on := 14, ground := Go.Ground.textOnly Go.Departure.lateStoresUnsure }, { on := 15, ground := Go.Ground.phase }], guard := none }) (v := ?v25) rfl (by kernel_rfl) (by kernel_rfl) (by kernel_rfl) (fun _ _ _ h => h) (Or.inl ⟨by rfl, ?hy25⟩) hHeld ?rest25
    case hy25 => (intro w hSw; (try dsimp only at hSw); go_simp; (first | done | with_reducible rfl))
    try simp only [Act.put, List.setIfInBounds_toArray, List.set_cons_zero, List.set_cons_succ]
    refine wpAnyH_take (i := 17) (oi := { dst := some 14, op := Go.Op.assign (Go.Operand.tmp 69), type := 4, pos := "law.go:91", after := #[{ on := 14, ground := Go.Ground.data }, { on := 16, ground := Go.Ground.chain }, { on := 0, ground := Go.Ground.phase }, { on := 1, ground := Go.Ground.phase }, { on := 2, ground := Go.Ground.phase }, { on := 3, ground := Go.Ground.phase }, { on := 4, ground := Go.Ground.phase }, { on := 5, ground := Go.Ground.phase }, { on := 6, ground := Go.Ground.phase }, { on := 7, ground := Go.Ground.phase }, { on := 8, ground := Go.Ground.phase }, { on := 9, ground := Go.Ground.phase }, { on := 10, ground := Go.Ground.phase }, { on := 11, ground := Go.Ground.phase }, { on := 12, ground := Go.Ground.phase }, { on := 13, ground := Go.Ground.phase }, { on := 14, ground := Go.Ground.phase }, { on := 15, ground := Go.Ground.phase }, { on := 16, ground := Go.Ground.phase }], guard := none }) (v := ?v26) rfl (by kernel_rfl) (by kernel_rfl) (by kernel_rfl) (fun _ _ _ h => h) (Or.inl ⟨by rfl, ?hy26⟩) hHeld ?rest26
    case hy26 => (intro w hSw; (try dsimp only at hSw); go_simp; (first | done | with_reducible rfl))
    try simp only [Act.put, List.setIfInBounds_toArray, List.set_cons_zero, List.set_cons_succ]
    refine wpAnyH_done (by kernel_rfl) ?_ _
    go_wp2_with fail
    try simp only [Act.put, List.setIfInBounds_toArray, List.set_cons_zero, List.set_cons_succ]
    have hq27 : w69.heap.size ≤ w69.drew.heap.size := Nat.le_refl _
    have z28 := (Ext.refl w69).drew.size
    replace E := E.trans (Ext.refl w69).drew
    replace LB5 := LB5.ext (Ext.refl w69).drew
    replace cB5_1 := cell_ext ((Ext.refl w69).drew) cB5_1
    replace HV := HV.ext (Ext.refl w69).drew
    replace LB11 := LB11.ext (Ext.refl w69).drew
    refine wp_region_held_drew (S := (fun w' => Lay 8 w' B11 (.agg #[c1, c2, c3, c4, c5, c6, c7, c8]))) (by kernel_rfl) LB11 (fun hHeld => ?_)
    refine wpAnyH_take (i := 0) (oi := { dst := some 70, op := Go.Op.move (Go.Operand.tmp 12), type := 4, pos := "law.go:92", after := #[], guard := none }) (v := ?v29) rfl (by kernel_rfl) (by kernel_rfl) (by kernel_rfl) (fun _ _ _ h => h) (Or.inl ⟨by rfl, ?hy29⟩) hHeld ?rest29
    case hy29 => (intro w hSw; (try dsimp only at hSw); go_simp; (first | done | with_reducible rfl))
    try simp only [Act.put, List.setIfInBounds_toArray, List.set_cons_zero, List.set_cons_succ]
    refine wpAnyH_take (i := 1) (oi := { dst := some 71, op := Go.Op.load 41 (Go.Operand.tmp 11), type := 41, pos := "law.go:92", after := #[], guard := none }) (v := (.agg #[c1, c2, c3, c4, c5, c6, c7, c8])) rfl (by kernel_rfl) (by kernel_rfl) (by kernel_rfl) (fun _ _ _ h => h) (yieldV (by rfl) rfl rfl fun w' hx => hx) hHeld ?_
    try simp only [Act.put, List.setIfInBounds_toArray, List.set_cons_zero, List.set_cons_succ]
    refine wpAnyH_take (i := 2) (oi := { dst := some 72, op := Go.Op.move (Go.Operand.tmp 2), type := 3, pos := "law.go:92", after := #[], guard := none }) (v := ?v31) rfl (by kernel_rfl) (by kernel_rfl) (by kernel_rfl) (fun _ _ _ h => h) (Or.inl ⟨by rfl, ?hy31⟩) hHeld ?rest31
    case hy31 => (intro w hSw; (try dsimp only at hSw); go_simp; (first | done | with_reducible rfl))
    try simp only [Act.put, List.setIfInBounds_toArray, List.set_cons_zero, List.set_cons_succ]
    refine wpAnyH_take (i := 3) (oi := { dst := some 73, op := Go.Op.move (Go.Operand.tmp 1), type := 3, pos := "law.go:92", after := #[], guard := none }) (v := ?v32) rfl (by kernel_rfl) (by kernel_rfl) (by kernel_rfl) (fun _ _ _ h => h) (Or.inl ⟨by rfl, ?hy32⟩) hHeld ?rest32
    case hy32 => (intro w hSw; (try dsimp only at hSw); go_simp; (first | done | with_reducible rfl))
    try simp only [Act.put, List.setIfInBounds_toArray, List.set_cons_zero, List.set_cons_succ]
    refine wpAnyH_take (i := 4) (oi := { dst := some 74, op := Go.Op.move (Go.Operand.tmp 4), type := 4, pos := "law.go:92", after := #[], guard := none }) (v := ?v33) rfl (by kernel_rfl) (by kernel_rfl) (by kernel_rfl) (fun _ _ _ h => h) (Or.inl ⟨by rfl, ?hy33⟩) hHeld ?rest33
    case hy33 => (intro w hSw; (try dsimp only at hSw); go_simp; (first | done | with_reducible rfl))
    try simp only [Act.put, List.setIfInBounds_toArray, List.set_cons_zero, List.set_cons_succ]
    refine wpAnyH_take (i := 7) (oi := { dst := some 77, op := Go.Op.move (Go.Operand.tmp 1), type := 3, pos := "law.go:92", after := #[], guard := none }) (v := ?v34) rfl (by kernel_rfl) (by kernel_rfl) (by kernel_rfl) (fun _ _ _ h => h) (Or.inl ⟨by rfl, ?hy34⟩) hHeld ?rest34
    case hy34 => (intro w hSw; (try dsimp only at hSw); go_simp; (first | done | with_reducible rfl))
    try simp only [Act.put, List.setIfInBounds_toArray, List.set_cons_zero, List.set_cons_succ]
    refine wpAnyH_take (i := 8) (oi := { dst := some 78, op := Go.Op.move (Go.Operand.tmp 2), type := 3, pos := "law.go:92", after := #[], guard := none }) (v := ?v35) rfl (by kernel_rfl) (by kernel_rfl) (by kernel_rfl) (fun _ _ _ h => h) (Or.inl ⟨by rfl, ?hy35⟩) hHeld ?rest35
    case hy35 => (intro w hSw; (try dsimp only at hSw); go_simp; (first | done | with_reducible rfl))
    try simp only [Act.put, List.setIfInBounds_toArray, List.set_cons_zero, List.set_cons_succ]
    refine wpAnyH_take (i := 9) (oi := { dst := some 79, op := Go.Op.binOp Go.BinOp.neq 3 (Go.Operand.tmp 77) (Go.Operand.tmp 78) 3, type := 4, pos := "law.go:92", after := #[{ on := 7, ground := Go.Ground.data }, { on := 8, ground := Go.Ground.data }], guard := none }) (v := ?v36) rfl (by kernel_rfl) (by kernel_rfl) (by kernel_rfl) (fun _ _ _ h => h) (Or.inl ⟨by rfl, ?hy36⟩) hHeld ?rest36
    case hy36 => (intro w hSw; (try dsimp only at hSw); go_simp; (first | done | with_reducible rfl))
    try simp only [Act.put, List.setIfInBounds_toArray, List.set_cons_zero, List.set_cons_succ]
    refine wpAnyH_ready (rs := [5]) (by kernel_rfl) (by simp) ?_
    refine AllReadyH.cons (o := { dst := some 75, op := Go.Op.call { callee := Go.Callee.value (Go.Operand.func 19), args := #[Go.Operand.tmp 71, Go.Operand.const (Go.Value.int Go.IntKind.i64 1), Go.Operand.tmp 72, Go.Operand.tmp 73, Go.Operand.tmp 74], argTypes := #[41, 3, 3, 3, 4] }, type := 4, pos := "law.go:92", after := #[{ on := 1, ground := Go.Ground.data }, { on := 2, ground := Go.Ground.data }, { on := 3, ground := Go.Ground.data }, { on := 4, ground := Go.Ground.data }], guard := none }) rfl (fun K hK => ?_) (AllReadyH.nil)
    go_simp
    refine (kld _ _ HV.is).mono ?_
    rintro e w75 ⟨rfl, x⟩
    have z37 := x.size
    replace E := E.trans x
    replace LB5 := LB5.ext x
    replace cB5_1 := cell_ext (x) cB5_1
    replace HV := HV.ext x
    replace LB11 := LB11.ext x
    clear x
    clear hHeld
    have hHeld := LB11
    refine hK.out _ _ hHeld (fun _ => ?_)
    clear hK K
    try simp only [Act.put, List.setIfInBounds_toArray, List.set_cons_zero, List.set_cons_succ]
    refine wpAnyH_take (i := 6) (oi := { dst := some 76, op := Go.Op.binOp Go.BinOp.neq 4 (Go.Operand.tmp 70) (Go.Operand.tmp 75) 4, type := 4, pos := "law.go:92", after := #[{ on := 0, ground := Go.Ground.data }, { on := 5, ground := Go.Ground.data }], guard := none }) (v := ?v38) rfl (by kernel_rfl) (by kernel_rfl) (by kernel_rfl) (fun _ _ _ h => h) (Or.inl ⟨by rfl, ?hy38⟩) hHeld ?rest38
    case hy38 => (intro w hSw; (try dsimp only at hSw); go_simp; (first | done | with_reducible rfl))
    try simp only [Act.put, List.setIfInBounds_toArray, List.set_cons_zero, List.set_cons_succ]
    refine wpAnyH_take (i := 10) (oi := { dst := some 80, op := Go.Op.binOp Go.BinOp.eql 4 (Go.Operand.tmp 76) (Go.Operand.tmp 79) 4, type := 4, pos := "law.go:92", after := #[{ on := 6, ground := Go.Ground.data }, { on := 9, ground := Go.Ground.data }], guard := none }) (v := ?v39) rfl (by kernel_rfl) (by kernel_rfl) (by kernel_rfl) (fun _ _ _ h => h) (Or.inl ⟨by rfl, ?hy39⟩) hHeld ?rest39
    case hy39 => (intro w hSw; (try dsimp only at hSw); go_simp; (first | done | with_reducible rfl))
    try simp only [Act.put, List.setIfInBounds_toArray, List.set_cons_zero, List.set_cons_succ]
    refine wpAnyH_take (i := 11) (oi := { dst := some 81, op := Go.Op.move (Go.Operand.tmp 80), type := 4, pos := "law.go:92", after := #[{ on := 10, ground := Go.Ground.data }, { on := 5, ground := Go.Ground.chain }], guard := none }) (v := ?v40) rfl (by kernel_rfl) (by kernel_rfl) (by kernel_rfl) (fun _ _ _ h => h) (Or.inl ⟨by rfl, ?hy40⟩) hHeld ?rest40
    case hy40 => (intro w hSw; (try dsimp only at hSw); go_simp; (first | done | with_reducible rfl))
    try simp only [Act.put, List.setIfInBounds_toArray, List.set_cons_zero, List.set_cons_succ]
    refine wpAnyH_take (i := 12) (oi := { dst := some 82, op := Go.Op.move (Go.Operand.tmp 12), type := 4, pos := "law.go:92", after := #[{ on := 11, ground := Go.Ground.guard }], guard := some (11, true) }) (v := ?v41) rfl (by kernel_rfl) (by kernel_rfl) (by kernel_rfl) (fun _ _ _ h => h) (Or.inl ⟨by rfl, ?hy41⟩) hHeld ?rest41
    case hy41 => (intro w hSw; (try dsimp only at hSw); go_simp; (first | done | with_reducible rfl))
    try simp only [Act.put, List.setIfInBounds_toArray, List.set_cons_zero, List.set_cons_succ]
    refine wpAnyH_take (i := 13) (oi := { dst := some 83, op := Go.Op.unOp Go.UnOp.not 4 (Go.Operand.tmp 82), type := 4, pos := "law.go:92", after := #[{ on := 12, ground := Go.Ground.data }, { on := 11, ground := Go.Ground.guard }], guard := some (11, true) }) (v := ?v42) rfl (by kernel_rfl) (by kernel_rfl) (by kernel_rfl) (fun _ _ _ h => h) (Or.inl ⟨by rfl, ?hy42⟩) hHeld ?rest42
    case hy42 => (intro w hSw; (try dsimp only at hSw); go_simp; (first | done | with_reducible rfl))
    try simp only [Act.put, List.setIfInBounds_toArray, List.set_cons_zero, List.set_cons_succ]
    refine wpAnyH_take (i := 14) (oi := { dst := some 84, op := Go.Op.move (Go.Operand.tmp 83), type := 4, pos := "law.go:92", after := #[{ on := 13, ground := Go.Ground.data }, { on := 11, ground := Go.Ground.chain }, { on := 11, ground := Go.Ground.guard }], guard := some (11, true) }) (v := ?v43) rfl (by kernel_rfl) (by kernel_rfl) (by kernel_rfl) (fun _ _ _ h => h) (Or.inl ⟨by rfl, ?hy43⟩) hHeld ?rest43
    case hy43 => (intro w hSw; (try dsimp only at hSw); go_simp; (first | done | with_reducible rfl))
    try simp only [Act.put, List.setIfInBounds_toArray, List.set_cons_zero, List.set_cons_succ]
    refine wpAnyH_take (i := 15) (oi := { dst := some 85, op := Go.Op.move (Go.Operand.tmp 13), type := 4, pos := "law.go:92", after := #[{ on := 14, ground := Go.Ground.guard }], guard := some (14, false) }) (v := undef) rfl (by kernel_rfl) (by kernel_rfl) (by kernel_rfl) (fun _ _ _ h => h) (Or.inr ⟨by rfl, rfl⟩) hHeld ?_
    try simp only [Act.put, List.setIfInBounds_toArray, List.set_cons_zero, List.set_cons_succ]
    refine wpAnyH_take (i := 16) (oi := { dst := some 86, op := Go.Op.unOp Go.UnOp.not 4 (Go.Operand.tmp 85), type := 4, pos := "law.go:92", after := #[{ on := 15, ground := Go.Ground.data }, { on := 14, ground := Go.Ground.guard }], guard := some (14, false) }) (v := undef) rfl (by kernel_rfl) (by kernel_rfl) (by kernel_rfl) (fun _ _ _ h => h) (Or.inr ⟨by rfl, rfl⟩) hHeld ?_
    try simp only [Act.put, List.setIfInBounds_toArray, List.set_cons_zero, List.set_cons_succ]
    refine wpAnyH_take (i := 17) (oi := { dst := some 87, op := Go.Op.pick (Go.Operand.tmp 84) (Go.Operand.const (Go.Value.bool true)) (Go.Operand.tmp 86), type := 4, pos := "law.go:92", after := #[{ on := 14, ground := Go.Ground.data }, { on := 16, ground := Go.Ground.data }, { on := 11, ground := Go.Ground.guard }], guard := some (11, true) }) (v := ?v46) rfl (by kernel_rfl) (by kernel_rfl) (by kernel_rfl) (fun _ _ _ h => h) (Or.inl ⟨by rfl, ?hy46⟩) hHeld ?rest46
    case hy46 => (intro w hSw; (try dsimp only at hSw); go_simp; (first | done | with_reducible rfl))
    try simp only [Act.put, List.setIfInBounds_toArray, List.set_cons_zero, List.set_cons_succ]
    refine wpAnyH_take (i := 18) (oi := { dst := some 88, op := Go.Op.move (Go.Operand.tmp 87), type := 4, pos := "law.go:92", after := #[{ on := 17, ground := Go.Ground.data }, { on := 14, ground := Go.Ground.chain }, { on := 11, ground := Go.Ground.guard }], guard := some (11, true) }) (v := ?v47) rfl (by kernel_rfl) (by kernel_rfl) (by kernel_rfl) (fun _ _ _ h => h) (Or.inl ⟨by rfl, ?hy47⟩) hHeld ?rest47
    case hy47 => (intro w hSw; (try dsimp only at hSw); go_simp; (first | done | with_reducible rfl))
    try simp only [Act.put, List.setIfInBounds_toArray, List.set_cons_zero, List.set_cons_succ]
    refine wpAnyH_take (i := 19) (oi := { dst := some 89, op := Go.Op.move (Go.Operand.tmp 14), type := 4, pos := "law.go:92", after := #[{ on := 18, ground := Go.Ground.guard }], guard := some (18, false) }) (v := undef) rfl (by kernel_rfl) (by kernel_rfl) (by kernel_rfl) (fun _ _ _ h => h) (Or.inr ⟨by rfl, rfl⟩) hHeld ?_
    try simp only [Act.put, List.setIfInBounds_toArray, List.set_cons_zero, List.set_cons_succ]
    refine wpAnyH_take (i := 20) (oi := { dst := some 90, op := Go.Op.pick (Go.Operand.tmp 88) (Go.Operand.const (Go.Value.bool true)) (Go.Operand.tmp 89), type := 4, pos := "law.go:92", after := #[{ on := 18, ground := Go.Ground.data }, { on := 19, ground := Go.Ground.data }, { on := 11, ground := Go.Ground.guard }], guard := some (11, true) }) (v := ?v49) rfl (by kernel_rfl) (by kernel_rfl) (by kernel_rfl) (fun _ _ _ h => h) (Or.inl ⟨by rfl, ?hy49⟩) hHeld ?rest49
    case hy49 => (intro w hSw; (try dsimp only at hSw); go_simp; (first | done | with_reducible rfl))
    try simp only [Act.put, List.setIfInBounds_toArray, List.set_cons_zero, List.set_cons_succ]
    refine wpAnyH_take (i := 21) (oi := { dst := some 91, op := Go.Op.pick (Go.Operand.tmp 81) (Go.Operand.tmp 90) (Go.Operand.const (Go.Value.bool false)), type := 4, pos := "law.go:92", after := #[{ on := 11, ground := Go.Ground.data }, { on := 20, ground := Go.Ground.data }], guard := none }) (v := ?v50) rfl (by kernel_rfl) (by kernel_rfl) (by kernel_rfl) (fun _ _ _ h => h) (Or.inl ⟨by rfl, ?hy50⟩) hHeld ?rest50
    case hy50 => (intro w hSw; (try dsimp only at hSw); go_simp; (first | done | with_reducible rfl))
    try simp only [Act.put, List.setIfInBounds_toArray, List.set_cons_zero, List.set_cons_succ]
    refine wpAnyH_take (i := 22) (oi := { dst := some 92, op := Go.Op.move (Go.Operand.tmp 91), type := 4, pos := "law.go:92", after := #[{ on := 21, ground := Go.Ground.data }, { on := 18, ground := Go.Ground.chain }], guard := none }) (v := ?v51) rfl (by kernel_rfl) (by kernel_rfl) (by kernel_rfl) (fun _ _ _ h => h) (Or.inl ⟨by rfl, ?hy51⟩) hHeld ?rest51
    case hy51 => (intro w hSw; (try dsimp only at hSw); go_simp; (first | done | with_reducible rfl))
    try simp only [Act.put, List.setIfInBounds_toArray, List.set_cons_zero, List.set_cons_succ]
    refine wpAnyH_take (i := 23) (oi := { dst := some 93, op := Go.Op.load 41 (Go.Operand.tmp 11), type := 41, pos := "law.go:92", after := #[{ on := 22, ground := Go.Ground.guard }], guard := some (22, true) }) (v := (.agg #[c1, c2, c3, c4, c5, c6, c7, c8])) rfl (by kernel_rfl) (by kernel_rfl) (by kernel_rfl) (fun _ _ _ h => h) (yieldV (by rfl) rfl rfl fun w' hx => hx) hHeld ?_
    try simp only [Act.put, List.setIfInBounds_toArray, List.set_cons_zero, List.set_cons_succ]
    refine wpAnyH_take (i := 24) (oi := { dst := some 94, op := Go.Op.move (Go.Operand.tmp 1), type := 3, pos := "law.go:92", after := #[{ on := 22, ground := Go.Ground.guard }], guard := some (22, true) }) (v := ?v53) rfl (by kernel_rfl) (by kernel_rfl) (by kernel_rfl) (fun _ _ _ h => h) (Or.inl ⟨by rfl, ?hy53⟩) hHeld ?rest53
    case hy53 => (intro w hSw; (try dsimp only at hSw); go_simp; (first | done | with_reducible rfl))
    try simp only [Act.put, List.setIfInBounds_toArray, List.set_cons_zero, List.set_cons_succ]
    refine wpAnyH_take (i := 25) (oi := { dst := some 95, op := Go.Op.move (Go.Operand.tmp 2), type := 3, pos := "law.go:92", after := #[{ on := 22, ground := Go.Ground.guard }], guard := some (22, true) }) (v := ?v54) rfl (by kernel_rfl) (by kernel_rfl) (by kernel_rfl) (fun _ _ _ h => h) (Or.inl ⟨by rfl, ?hy54⟩) hHeld ?rest54
    case hy54 => (intro w hSw; (try dsimp only at hSw); go_simp; (first | done | with_reducible rfl))
    try simp only [Act.put, List.setIfInBounds_toArray, List.set_cons_zero, List.set_cons_succ]
    refine wpAnyH_take (i := 27) (oi := { dst := some 97, op := Go.Op.load 41 (Go.Operand.tmp 11), type := 41, pos := "law.go:92", after := #[{ on := 22, ground := Go.Ground.guard }], guard := some (22, true) }) (v := (.agg #[c1, c2, c3, c4, c5, c6, c7, c8])) rfl (by kernel_rfl) (by kernel_rfl) (by kernel_rfl) (fun _ _ _ h => h) (yieldV (by rfl) rfl rfl fun w' hx => hx) hHeld ?_
    try simp only [Act.put, List.setIfInBounds_toArray, List.set_cons_zero, List.set_cons_succ]
    refine wpAnyH_take (i := 28) (oi := { dst := some 98, op := Go.Op.move (Go.Operand.tmp 2), type := 3, pos := "law.go:92", after := #[{ on := 22, ground := Go.Ground.guard }], guard := some (22, true) }) (v := ?v56) rfl (by kernel_rfl) (by kernel_rfl) (by kernel_rfl) (fun _ _ _ h => h) (Or.inl ⟨by rfl, ?hy56⟩) hHeld ?rest56
    case hy56 => (intro w hSw; (try dsimp only at hSw); go_simp; (first | done | with_reducible rfl))
    try simp only [Act.put, List.setIfInBounds_toArray, List.set_cons_zero, List.set_cons_succ]
    refine wpAnyH_take (i := 29) (oi := { dst := some 99, op := Go.Op.move (Go.Operand.tmp 1), type := 3, pos := "law.go:92", after := #[{ on := 22, ground := Go.Ground.guard }], guard := some (22, true) }) (v := ?v57) rfl (by kernel_rfl) (by kernel_rfl) (by kernel_rfl) (fun _ _ _ h => h) (Or.inl ⟨by rfl, ?hy57⟩) hHeld ?rest57
    case hy57 => (intro w hSw; (try dsimp only at hSw); go_simp; (first | done | with_reducible rfl))
    try simp only [Act.put, List.setIfInBounds_toArray, List.set_cons_zero, List.set_cons_succ]
    refine wpAnyH_ready (rs := [26]) (by kernel_rfl) (by simp) ?_
    refine AllReadyH.cons (o := { dst := some 96, op := Go.Op.call { callee := Go.Callee.value (Go.Operand.func 17), args := #[Go.Operand.tmp 93, Go.Operand.const (Go.Value.int Go.IntKind.i64 1), Go.Operand.tmp 94, Go.Operand.tmp 95], argTypes := #[41, 3, 3, 3] }, type := 3, pos := "law.go:92", after := #[{ on := 23, ground := Go.Ground.data }, { on := 24, ground := Go.Ground.data }, { on := 25, ground := Go.Ground.data }, { on := 22, ground := Go.Ground.chain }, { on := 22, ground := Go.Ground.guard }], guard := some (22, true) }) rfl (fun K hK => ?_) (AllReadyH.nil)
    go_simp
    refine (kca _ _ HV.is).mono ?_
    rintro e w96 ⟨rfl, x⟩
    have z58 := x.size
    replace E := E.trans x
    replace LB5 := LB5.ext x
    replace cB5_1 := cell_ext (x) cB5_1
    replace HV := HV.ext x
    replace LB11 := LB11.ext x
    clear x
    clear hHeld
    have hHeld := LB11
    refine hK.out _ _ hHeld (fun _ => ?_)
    clear hK K
    try simp only [Act.put, List.setIfInBounds_toArray, List.set_cons_zero, List.set_cons_succ]
    refine wpAnyH_ready (rs := [30]) (by kernel_rfl) (by simp) ?_
    refine AllReadyH.cons (o := { dst := some 100, op := Go.Op.call { callee := Go.Callee.value (Go.Operand.func 17), args := #[Go.Operand.tmp 97, Go.Operand.const (Go.Value.int Go.IntKind.i64 1), Go.Operand.tmp 98, Go.Operand.tmp 99], argTypes := #[41, 3, 3, 3] }, type := 3, pos := "law.go:92", after := #[{ on := 27, ground := Go.Ground.data }, { on := 28, ground := Go.Ground.data }, { on := 29, ground := Go.Ground.data }, { on := 26, ground := Go.Ground.chain }, { on := 22, ground := Go.Ground.guard }], guard := some (22, true) }) rfl (fun K hK => ?_) (AllReadyH.nil)
    go_simp
    refine (kcb _ _ HV.is).mono ?_
    rintro e w100 ⟨rfl, x⟩
    have z59 := x.size
    replace E := E.trans x
    replace LB5 := LB5.ext x
    replace cB5_1 := cell_ext (x) cB5_1
    replace HV := HV.ext x
    replace LB11 := LB11.ext x
    clear x
    clear hHeld
    have hHeld := LB11
    refine hK.out _ _ hHeld (fun _ => ?_)
    clear hK K
    try simp only [Act.put, List.setIfInBounds_toArray, List.set_cons_zero, List.set_cons_succ]
    refine wpAnyH_take (i := 31) (oi := { dst := some 101, op := Go.Op.unOp Go.UnOp.neg 3 (Go.Operand.tmp 100), type := 3, pos := "law.go:92", after := #[{ on := 30, ground := Go.Ground.data }, { on := 22, ground := Go.Ground.guard }], guard := some (22, true) }) (v := ?v60) rfl (by kernel_rfl) (by kernel_rfl) (by kernel_rfl) (fun _ _ _ h => h) (Or.inl ⟨by rfl, ?hy60⟩) hHeld ?rest60
    case hy60 => (intro w hSw; (try dsimp only at hSw); go_simp; (first | done | with_reducible rfl))
    try simp only [Act.put, List.setIfInBounds_toArray, List.set_cons_zero, List.set_cons_succ]
    refine wpAnyH_take (i := 32) (oi := { dst := some 102, op := Go.Op.binOp Go.BinOp.eql 3 (Go.Operand.tmp 96) (Go.Operand.tmp 101) 3, type := 4, pos := "law.go:92", after := #[{ on := 26, ground := Go.Ground.data }, { on := 31, ground := Go.Ground.data }, { on := 22, ground := Go.Ground.guard }], guard := some (22, true) }) (v := ?v61) rfl (by kernel_rfl) (by kernel_rfl) (by kernel_rfl) (fun _ _ _ h => h) (Or.inl ⟨by rfl, ?hy61⟩) hHeld ?rest61
    case hy61 => (intro w hSw; (try dsimp only at hSw); go_simp; (first | done | with_reducible rfl))
    try simp only [Act.put, List.setIfInBounds_toArray, List.set_cons_zero, List.set_cons_succ]
    refine wpAnyH_take (i := 33) (oi := { dst := some 103, op := Go.Op.pick (Go.Operand.tmp 92) (Go.Operand.tmp 102) (Go.Operand.const (Go.Value.bool false)), type := 4, pos := "law.go:92", after := #[{ on := 22, ground := Go.Ground.data }, { on := 32, ground := Go.Ground.data }], guard := none }) (v := ?v62) rfl (by kernel_rfl) (by kernel_rfl) (by kernel_rfl) (fun _ _ _ h => h) (Or.inl ⟨by rfl, ?hy62⟩) hHeld ?rest62
    case hy62 => (intro w hSw; (try dsimp only at hSw); go_simp; (first | done | with_reducible rfl))
    try simp only [Act.put, List.setIfInBounds_toArray, List.set_cons_zero, List.set_cons_succ]
    refine wpAnyH_take (i := 34) (oi := { dst := some 104, op := Go.Op.move (Go.Operand.tmp 103), type := 4, pos := "law.go:92", after := #[{ on := 33, ground := Go.Ground.data }, { on := 30, ground := Go.Ground.chain }], guard := none }) (v := ?v63) rfl (by kernel_rfl) (by kernel_rfl) (by kernel_rfl) (fun _ _ _ h => h) (Or.inl ⟨by rfl, ?hy63⟩) hHeld ?rest63
    case hy63 => (intro w hSw; (try dsimp only at hSw); go_simp; (first | done | with_reducible rfl))
    try simp only [Act.put, List.setIfInBounds_toArray, List.set_cons_zero, List.set_cons_succ]
    refine wpAnyH_ready (rs := [35]) (by kernel_rfl) (by simp) ?_
    refine AllReadyH.cons (o := { dst := some 105, op := Go.Op.call { callee := Go.Callee.value (Go.Operand.func 11), args := #[], argTypes := #[] }, type := 4, pos := "law.go:92", after := #[{ on := 34, ground := Go.Ground.chain }, { on := 34, ground := Go.Ground.guard }], guard := some (34, true) }) rfl (fun K hK => ?_) (AllReadyH.nil)
    go_simp
    rw [if_pos (by rw [IntKind.wrap_i64]; omega)]
    refine (oawake_any _).mono ?_
    rintro e w105 ⟨rfl, x⟩
    have z64 := x.size
    replace E := E.trans x
    replace LB5 := LB5.ext x
    replace cB5_1 := cell_ext (x) cB5_1
    replace HV := HV.ext x
    replace LB11 := LB11.ext x
    clear x
    clear hHeld
    have hHeld := LB11
    refine hK.out _ _ hHeld (fun _ => ?_)
    clear hK K
    try simp only [Act.put, List.setIfInBounds_toArray, List.set_cons_zero, List.set_cons_succ]
    refine wpAnyH_take (i := 36) (oi := { dst := some 106, op := Go.Op.pick (Go.Operand.tmp 104) (Go.Operand.tmp 105) (Go.Operand.const (Go.Value.bool false)), type := 4, pos := "law.go:92", after := #[{ on := 34, ground := Go.Ground.data }, { on := 35, ground := Go.Ground.data }], guard := none }) (v := ?v65) rfl (by kernel_rfl) (by kernel_rfl) (by kernel_rfl) (fun _ _ _ h => h) (Or.inl ⟨by rfl, ?hy65⟩) hHeld ?rest65
    case hy65 => (intro w hSw; (try dsimp only at hSw); go_simp; (first | done | with_reducible rfl))
    try simp only [Act.put, List.setIfInBounds_toArray, List.set_cons_zero, List.set_cons_succ]
    refine wpAnyH_take (i := 37) (oi := { dst := some 10, op := Go.Op.assign (Go.Operand.tmp 106), type := 4, pos := "law.go:92", after := #[{ on := 36, ground := Go.Ground.data }, { on := 35, ground := Go.Ground.chain }, { on := 0, ground := Go.Ground.phase }, { on := 1, ground := Go.Ground.phase }, { on := 2, ground := Go.Ground.phase }, { on := 3, ground := Go.Ground.phase }, { on := 4, ground := Go.Ground.phase }, { on := 5, ground := Go.Ground.phase }, { on := 6, ground := Go.Ground.phase }, { on := 7, ground := Go.Ground.phase }, { on := 8, ground := Go.Ground.phase }, { on := 9, ground := Go.Ground.phase }, { on := 10, ground := Go.Ground.phase }, { on := 11, ground := Go.Ground.phase }, { on := 12, ground := Go.Ground.phase }, { on := 13, ground := Go.Ground.phase }, { on := 14, ground := Go.Ground.phase }, { on := 15, ground := Go.Ground.phase }, { on := 16, ground := Go.Ground.phase }, { on := 17, ground := Go.Ground.phase }, { on := 18, ground := Go.Ground.phase }, { on := 19, ground := Go.Ground.phase }, { on := 20, ground := Go.Ground.phase }, { on := 21, ground := Go.Ground.phase }, { on := 22, ground := Go.Ground.phase }, { on := 23, ground := Go.Ground.phase }, { on := 24, ground := Go.Ground.phase }, { on := 25, ground := Go.Ground.phase }, { on := 26, ground := Go.Ground.phase }, { on := 27, ground := Go.Ground.phase }, { on := 28, ground := Go.Ground.phase }, { on := 29, ground := Go.Ground.phase }, { on := 30, ground := Go.Ground.phase }, { on := 31, ground := Go.Ground.phase }, { on := 32, ground := Go.Ground.phase }, { on := 33, ground := Go.Ground.phase }, { on := 34, ground := Go.Ground.phase }, { on := 35, ground := Go.Ground.phase }, { on := 36, ground := Go.Ground.phase }], guard := none }) (v := ?v66) rfl (by kernel_rfl) (by kernel_rfl) (by kernel_rfl) (fun _ _ _ h => h) (Or.inl ⟨by rfl, ?hy66⟩) hHeld ?rest66
    case hy66 => (intro w hSw; (try dsimp only at hSw); go_simp; (first | done | with_reducible rfl))
    try simp only [Act.put, List.setIfInBounds_toArray, List.set_cons_zero, List.set_cons_succ]
    refine wpAnyH_done (by kernel_rfl) ?_ _
    go_wp2_with fail
    go_ret
    have e102 : (-cz == IntKind.i64.wrap (-cz)) = true := by rw [IntKind.wrap_i64]; simp; omega
    exact ⟨by show Ending.returned (.bool (-cz == IntKind.i64.wrap (-cz))) = _; rw [e102], E⟩
theorem ototal_m2 (sA : Option Addr) (ns sc : Nat) (iA : Option Addr) (m ic : Nat) (fl zc : Int) (w : World)
    (cg : ∀ w', Ext w w' → Calls Try.prog 14 #[(.agg #[.slice sA ns sc, .slice iA m ic, .int .i64 fl])] w' (GoodB m zc fl w')) (i j k : Int) (down : Bool) (X : List Int) (co : zc = 0 → fl < 2 → ∀ w', Ext w w' → Calls Try.prog 16 #[(.agg #[.slice sA ns sc, .slice iA m ic, .int .i64 fl])] w' (OfA X w')) (h1 : ¬ (i < 0)) (h2 : ¬ (j < 0)) (h3 : ¬ (k < 0)) (h4 : ¬ ((m : Int) ≤ i)) (h5 : ¬ ((m : Int) ≤ j)) (h6 : ¬ ((m : Int) ≤ k)) (b : Bool) (c : Bool) (cz : Int) (hc1 : -1 ≤ cz) (hc2 : cz ≤ 1) (e79 : (i != j) = false)
    (kla : ∀ v w', OV w' v X → Calls Try.prog 19 #[v, .int .i64 1, .int .i64 i, .int .i64 j, .bool down] w' fun e w2 => e = .returned (.bool false) ∧ Ext w' w2) (klb : ∀ v w', OV w' v X → Calls Try.prog 19 #[v, .int .i64 1, .int .i64 j, .int .i64 k, .bool down] w' fun e w2 => e = .returned (.bool b) ∧ Ext w' w2) (klc : ∀ v w', OV w' v X → Calls Try.prog 19 #[v, .int .i64 1, .int .i64 i, .int .i64 k, .bool down] w' fun e w2 => e = .returned (.bool c) ∧ Ext w' w2) (kld : ∀ v w', OV w' v X → Calls Try.prog 19 #[v, .int .i64 1, .int .i64 j, .int .i64 i, .bool down] w' fun e w2 => e = .returned (.bool false) ∧ Ext w' w2) (kca : ∀ v w', OV w' v X → Calls Try.prog 17 #[v, .int .i64 1, .int .i64 i, .int .i64 j] w' fun e w2 => e = .returned (.int .i64 (-cz)) ∧ Ext w' w2) (kcb : ∀ v w', OV w' v X → Calls Try.prog 17 #[v, .int .i64 1, .int .i64 j, .int .i64 i] w' fun e w2 => e = .returned (.int .i64 (cz)) ∧ Ext w' w2)  : Calls Try.prog 6 #[(.agg #[.slice sA ns sc, .slice iA m ic, .int .i64 fl]), .int .i64 i, .int .i64 j, .int .i64 k, .bool down] w fun e w' => e = .returned (.bool true) ∧ Ext w w' := by
  have hF := pl_flat sA ns sc iA m ic fl
  have E := Ext.refl w
  have e20 : decide (i < 0) = false := decide_eq_false h1
  have e24 : decide (j < 0) = false := decide_eq_false h2
  have e28 : decide (k < 0) = false := decide_eq_false h3
  have e35 : decide ((m : Int) ≤ i) = false := decide_eq_false h4
  have e42 : decide ((m : Int) ≤ j) = false := decide_eq_false h5
  have e49 : decide ((m : Int) ≤ k) = false := decide_eq_false h6
  clear h1 h2 h3 h4 h5 h6
  go_enter Try.func6, Try.ntmps6
  have TB5 : True := trivial
  go_wp2_with (first | (clear TB5; refine boxsP (v := (.agg #[.slice sA ns sc, .slice iA m ic, .int .i64 fl])) rfl rfl rfl hF ?_; intro B5 w5 bB5 cB5 XB5 LB5 RB5; have z1 := XB5.size; replace E := E.trans XB5; have cB5_1 := lay_cell LB5 (j := 1) rfl; clear RB5) | (refine loadsP (B := B5) (by rfl) rfl rfl LB5 ?_))
  refine (cg _ E).mono ?_
  rintro e w16 ⟨g, rfl, hg, x⟩
  cases g
  · have z2 := x.size
    replace E := E.trans x
    replace LB5 := LB5.ext x
    replace cB5_1 := cell_ext (x) cB5_1
    clear x
    go_wp2_with fail
    refine (oawake_any _).mono ?_
    rintro e w51 ⟨rfl, x⟩
    have z3 := x.size
    replace E := E.trans x
    replace LB5 := LB5.ext x
    replace cB5_1 := cell_ext (x) cB5_1
    clear x
    go_wp2_with fail
    go_ret
    exact ⟨rfl, E⟩
  · obtain ⟨hg1, hg2, hg3⟩ := hg rfl
    have co' := co hg2 hg3
    clear co hg hg2 hg3
    have z2 := x.size
    replace E := E.trans x
    replace LB5 := LB5.ext x
    replace cB5_1 := cell_ext (x) cB5_1
    clear x
    go_wp2_with (refine loadsP (B := B5) (by rfl) rfl rfl LB5 ?_)
    refine (co' _ E).mono ?_
    rintro e w53 ⟨c0, c1, c2, c3, c4, c5, c6, c7, c8, rfl, hf, hq, x⟩
    have HV := hq.now
    have hf8 := flat_tailV hf
    clear hq hf
    have z3 := x.size
    replace E := E.trans x
    replace LB5 := LB5.ext x
    replace cB5_1 := cell_ext (x) cB5_1
    clear x
    have TF54 : True := trivial
    have TB11 : True := trivial
    have TG5 : True := trivial
    go_wp2_with (first | (clear TF54; rw [field9]; simp only [Result.andThen_ok, Oper.upon_value]) | (clear TB11; refine allocsV rfl rfl ?_; intro B11 w11 bB11 cB11 XB11 LB11 RB11; have z4 := XB11.size; replace E := E.trans XB11; replace LB5 := LB5.ext XB11; replace cB5_1 := cell_ext (XB11) cB5_1; replace HV := HV.ext XB11) | (clear TG5; have hRl := (RB11).lt (Nat.zero_lt_succ _); refine storesV (B := B11) rfl rfl rfl (v := (.agg #[c1, c2, c3, c4, c5, c6, c7, c8])) rfl RB11 hf8 ?_; clear LB11; intro s5 G5 LB11 RQ; have z6 := G5.size; replace E := grown_ext E G5 (by omega); replace LB5 := LB5.grown G5 (by omega); replace cB5_1 := cell_grown (G5) cB5_1 (by show B5 ≠ _; omega); replace HV := HV.grown G5 (by first | omega | (dsimp only [New]; omega)); clear RB11; have RB11 := RQ; clear RQ hRl; clear RB11))
    try simp only [Act.put, List.setIfInBounds_toArray, List.set_cons_zero, List.set_cons_succ]
    have hq7 : s5.heap.size ≤ s5.drew.heap.size := Nat.le_refl _
    have z8 := (Ext.refl s5).drew.size
    replace E := E.trans (Ext.refl s5).drew
    replace LB5 := LB5.ext (Ext.refl s5).drew
    replace cB5_1 := cell_ext ((Ext.refl s5).drew) cB5_1
    replace HV := HV.ext (Ext.refl s5).drew
    replace LB11 := LB11.ext (Ext.refl s5).drew
    refine wp_region_held_drew (S := (fun w' => Lay 8 w' B11 (.agg #[c1, c2, c3, c4, c5, c6, c7, c8]))) (by kernel_rfl) LB11 (fun hHeld => ?_)
    refine wpAnyH_take (i := 0) (oi := { dst := some 55, op := Go.Op.load 41 (Go.Operand.tmp 11), type := 41, pos := "law.go:91", after := #[], guard := none }) (v := (.agg #[c1, c2, c3, c4, c5, c6, c7, c8])) rfl (by kernel_rfl) (by kernel_rfl) (by kernel_rfl) (fun _ _ _ h => h) (yieldV (by rfl) rfl rfl fun w' hx => hx) hHeld ?_
    try simp only [Act.put, List.setIfInBounds_toArray, List.set_cons_zero, List.set_cons_succ]
    refine wpAnyH_take (i := 1) (oi := { dst := some 56, op := Go.Op.move (Go.Operand.tmp 1), type := 3, pos := "law.go:91", after := #[], guard := none }) (v := ?v10) rfl (by kernel_rfl) (by kernel_rfl) (by kernel_rfl) (fun _ _ _ h => h) (Or.inl ⟨by rfl, ?hy10⟩) hHeld ?rest10
    case hy10 => (intro w hSw; (try dsimp only at hSw); go_simp; (first | done | with_reducible rfl))
    try simp only [Act.put, List.setIfInBounds_toArray, List.set_cons_zero, List.set_cons_succ]
    refine wpAnyH_take (i := 2) (oi := { dst := some 57, op := Go.Op.move (Go.Operand.tmp 2), type := 3, pos := "law.go:91", after := #[], guard := none }) (v := ?v11) rfl (by kernel_rfl) (by kernel_rfl) (by kernel_rfl) (fun _ _ _ h => h) (Or.inl ⟨by rfl, ?hy11⟩) hHeld ?rest11
    case hy11 => (intro w hSw; (try dsimp only at hSw); go_simp; (first | done | with_reducible rfl))
    try simp only [Act.put, List.setIfInBounds_toArray, List.set_cons_zero, List.set_cons_succ]
    refine wpAnyH_take (i := 3) (oi := { dst := some 58, op := Go.Op.move (Go.Operand.tmp 4), type := 4, pos := "law.go:91", after := #[], guard := none }) (v := ?v12) rfl (by kernel_rfl) (by kernel_rfl) (by kernel_rfl) (fun _ _ _ h => h) (Or.inl ⟨by rfl, ?hy12⟩) hHeld ?rest12
    case hy12 => (intro w hSw; (try dsimp only at hSw); go_simp; (first | done | with_reducible rfl))
    try simp only [Act.put, List.setIfInBounds_toArray, List.set_cons_zero, List.set_cons_succ]
    refine wpAnyH_take (i := 5) (oi := { dst := some 60, op := Go.Op.load 41 (Go.Operand.tmp 11), type := 41, pos := "law.go:91", after := #[], guard := none }) (v := (.agg #[c1, c2, c3, c4, c5, c6, c7, c8])) rfl (by kernel_rfl) (by kernel_rfl) (by kernel_rfl) (fun _ _ _ h => h) (yieldV (by rfl) rfl rfl fun w' hx => hx) hHeld ?_
    try simp only [Act.put, List.setIfInBounds_toArray, List.set_cons_zero, List.set_cons_succ]
    refine wpAnyH_take (i := 6) (oi := { dst := some 61, op := Go.Op.move (Go.Operand.tmp 2), type := 3, pos := "law.go:91", after := #[], guard := none }) (v := ?v14) rfl (by kernel_rfl) (by kernel_rfl) (by kernel_rfl) (fun _ _ _ h => h) (Or.inl ⟨by rfl, ?hy14⟩) hHeld ?rest14
    case hy14 => (intro w hSw; (try dsimp only at hSw); go_simp; (first | done | with_reducible rfl))
    try simp only [Act.put, List.setIfInBounds_toArray, List.set_cons_zero, List.set_cons_succ]
    refine wpAnyH_take (i := 7) (oi := { dst := some 62, op := Go.Op.move (Go.Operand.tmp 3), type := 3, pos := "law.go:91", after := #[], guard := none }) (v := ?v15) rfl (by kernel_rfl) (by kernel_rfl) (by kernel_rfl) (fun _ _ _ h => h) (Or.inl ⟨by rfl, ?hy15⟩) hHeld ?rest15
    case hy15 => (intro w hSw; (try dsimp only at hSw); go_simp; (first | done | with_reducible rfl))
    try simp only [Act.put, List.setIfInBounds_toArray, List.set_cons_zero, List.set_cons_succ]
    refine wpAnyH_take (i := 8) (oi := { dst := some 63, op := Go.Op.move (Go.Operand.tmp 4), type := 4, pos := "law.go:91", after := #[], guard := none }) (v := ?v16) rfl (by kernel_rfl) (by kernel_rfl) (by kernel_rfl) (fun _ _ _ h => h) (Or.inl ⟨by rfl, ?hy16⟩) hHeld ?rest16
    case hy16 => (intro w hSw; (try dsimp only at hSw); go_simp; (first | done | with_reducible rfl))
    try simp only [Act.put, List.setIfInBounds_toArray, List.set_cons_zero, List.set_cons_succ]
    refine wpAnyH_take (i := 10) (oi := { dst := some 65, op := Go.Op.load 41 (Go.Operand.tmp 11), type := 41, pos := "law.go:91", after := #[], guard := none }) (v := (.agg #[c1, c2, c3, c4, c5, c6, c7, c8])) rfl (by kernel_rfl) (by kernel_rfl) (by kernel_rfl) (fun _ _ _ h => h) (yieldV (by rfl) rfl rfl fun w' hx => hx) hHeld ?_
    try simp only [Act.put, List.setIfInBounds_toArray, List.set_cons_zero, List.set_cons_succ]
    refine wpAnyH_take (i := 11) (oi := { dst := some 66, op := Go.Op.move (Go.Operand.tmp 1), type := 3, pos := "law.go:91", after := #[], guard := none }) (v := ?v18) rfl (by kernel_rfl) (by kernel_rfl) (by kernel_rfl) (fun _ _ _ h => h) (Or.inl ⟨by rfl, ?hy18⟩) hHeld ?rest18
    case hy18 => (intro w hSw; (try dsimp only at hSw); go_simp; (first | done | with_reducible rfl))
    try simp only [Act.put, List.setIfInBounds_toArray, List.set_cons_zero, List.set_cons_succ]
    refine wpAnyH_take (i := 12) (oi := { dst := some 67, op := Go.Op.move (Go.Operand.tmp 3), type := 3, pos := "law.go:91", after := #[], guard := none }) (v := ?v19) rfl (by kernel_rfl) (by kernel_rfl) (by kernel_rfl) (fun _ _ _ h => h) (Or.inl ⟨by rfl, ?hy19⟩) hHeld ?rest19
    case hy19 => (intro w hSw; (try dsimp only at hSw); go_simp; (first | done | with_reducible rfl))
    try simp only [Act.put, List.setIfInBounds_toArray, List.set_cons_zero, List.set_cons_succ]
    refine wpAnyH_take (i := 13) (oi := { dst := some 68, op := Go.Op.move (Go.Operand.tmp 4), type := 4, pos := "law.go:91", after := #[], guard := none }) (v := ?v20) rfl (by kernel_rfl) (by kernel_rfl) (by kernel_rfl) (fun _ _ _ h => h) (Or.inl ⟨by rfl, ?hy20⟩) hHeld ?rest20
    case hy20 => (intro w hSw; (try dsimp only at hSw); go_simp; (first | done | with_reducible rfl))
    try simp only [Act.put, List.setIfInBounds_toArray, List.set_cons_zero, List.set_cons_succ]
    refine wpAnyH_ready (rs := [4]) (by kernel_rfl) (by simp) ?_
    refine AllReadyH.cons (o := { dst := some 59, op := Go.Op.call { callee := Go.Callee.value (Go.Operand.func 19), args := #[Go.Operand.tmp 55, Go.Operand.const (Go.Value.int Go.IntKind.i64 1), Go.Operand.tmp 56, Go.Operand.tmp 57, Go.Operand.tmp 58], argTypes := #[41, 3, 3, 3, 4] }, type := 4, pos := "law.go:91", after := #[{ on := 0, ground := Go.Ground.data }, { on := 1, ground := Go.Ground.data }, { on := 2, ground := Go.Ground.data }, { on := 3, ground := Go.Ground.data }], guard := none }) rfl (fun K hK => ?_) (AllReadyH.nil)
    go_simp
    refine (kla _ _ HV.is).mono ?_
    rintro e w59 ⟨rfl, x⟩
    have z21 := x.size
    replace E := E.trans x
    replace LB5 := LB5.ext x
    replace cB5_1 := cell_ext (x) cB5_1
    replace HV := HV.ext x
    replace LB11 := LB11.ext x
    clear x
    clear hHeld
    have hHeld := LB11
    refine hK.out _ _ hHeld (fun _ => ?_)
    clear hK K
    try simp only [Act.put, List.setIfInBounds_toArray, List.set_cons_zero, List.set_cons_succ]
    refine wpAnyH_ready (rs := [9]) (by kernel_rfl) (by simp) ?_
    refine AllReadyH.cons (o := { dst := some 64, op := Go.Op.call { callee := Go.Callee.value (Go.Operand.func 19), args := #[Go.Operand.tmp 60, Go.Operand.const (Go.Value.int Go.IntKind.i64 1), Go.Operand.tmp 61, Go.Operand.tmp 62, Go.Operand.tmp 63], argTypes := #[41, 3, 3, 3, 4] }, type := 4, pos := "law.go:91", after := #[{ on := 5, ground := Go.Ground.data }, { on := 6, ground := Go.Ground.data }, { on := 7, ground := Go.Ground.data }, { on := 8, ground := Go.Ground.data }, { on := 4, ground := Go.Ground.chain }], guard := none }) rfl (fun K hK => ?_) (AllReadyH.nil)
    go_simp
    refine (klb _ _ HV.is).mono ?_
    rintro e w64 ⟨rfl, x⟩
    have z22 := x.size
    replace E := E.trans x
    replace LB5 := LB5.ext x
    replace cB5_1 := cell_ext (x) cB5_1
    replace HV := HV.ext x
    replace LB11 := LB11.ext x
    clear x
    clear hHeld
    have hHeld := LB11
    refine hK.out _ _ hHeld (fun _ => ?_)
    clear hK K
    try simp only [Act.put, List.setIfInBounds_toArray, List.set_cons_zero, List.set_cons_succ]
    refine wpAnyH_ready (rs := [14]) (by kernel_rfl) (by simp) ?_
    refine AllReadyH.cons (o := { dst := some 69, op := Go.Op.call { callee := Go.Callee.value (Go.Operand.func 19), args := #[Go.Operand.tmp 65, Go.Operand.const (Go.Value.int Go.IntKind.i64 1), Go.Operand.tmp 66, Go.Operand.tmp 67, Go.Operand.tmp 68], argTypes := #[41, 3, 3, 3, 4] }, type := 4, pos := "law.go:91", after := #[{ on := 10, ground := Go.Ground.data }, { on := 11, ground := Go.Ground.data }, { on := 12, ground := Go.Ground.data }, { on := 13, ground := Go.Ground.data }, { on := 9, ground := Go.Ground.chain }], guard := none }) rfl (fun K hK => ?_) (AllReadyH.nil)
    go_simp
    refine (klc _ _ HV.is).mono ?_
    rintro e w69 ⟨rfl, x⟩
    have z23 := x.size
    replace E := E.trans x
    replace LB5 := LB5.ext x
    replace cB5_1 := cell_ext (x) cB5_1
    replace HV := HV.ext x
    replace LB11 := LB11.ext x
    clear x
    clear hHeld
    have hHeld := LB11
    refine hK.out _ _ hHeld (fun _ => ?_)
    clear hK K
    try simp only [Act.put, List.setIfInBounds_toArray, List.set_cons_zero, List.set_cons_succ]
    refine wpAnyH_take (i := 15) (oi := { dst := some 12, op := Go.Op.assign (Go.Operand.tmp 59), type := 4, pos := "law.go:91", after := #[{ on := 4, ground := Go.Ground.data }, { on := 14, ground := Go.Ground.chain }, { on := 0, ground := Go.Ground.phase }, { on := 1, ground := Go.Ground.phase }, { on := 2, ground := Go.Ground.phase }, { on := 3, ground := Go.Ground.phase }, { on := 4, ground := Go.Ground.phase }, { on := 5, ground := Go.Ground.textOnly Go.Departure.lateStores }, { on := 6, ground := Go.Ground.textOnly Go.Departure.lateStores }, { on := 7, ground := Go.Ground.textOnly Go.Departure.lateStores }, { on := 8, ground := Go.Ground.textOnly Go.Departure.lateStores }, { on := 9, ground := Go.Ground.textOnly Go.Departure.lateStoresUnsure }, { on := 10, ground := Go.Ground.textOnly Go.Departure.lateStores }, { on := 11, ground := Go.Ground.textOnly Go.Departure.lateStores }, { on := 12, ground := Go.Ground.textOnly Go.Departure.lateStores }, { on := 13, ground := Go.Ground.textOnly Go.Departure.lateStores }, { on := 14, ground := Go.Ground.textOnly Go.Departure.lateStoresUnsure }], guard := none }) (v := ?v24) rfl (by kernel_rfl) (by kernel_rfl) (by kernel_rfl) (fun _ _ _ h => h) (Or.inl ⟨by rfl, ?hy24⟩) hHeld ?rest24
    case hy24 => (intro w hSw; (try dsimp only at hSw); go_simp; (first | done | with_reducible rfl))
    try simp only [Act.put, List.setIfInBounds_toArray, List.set_cons_zero, List.set_cons_succ]
    refine wpAnyH_take (i := 16) (oi := { dst := some 13, op := Go.Op.assign (Go.Operand.tmp 64), type := 4, pos := "law.go:91", after := #[{ on := 9, ground := Go.Ground.data }, { on := 15, ground := Go.Ground.chain }, { on := 0, ground := Go.Ground.phase }, { on := 1, ground := Go.Ground.phase }, { on := 2, ground := Go.Ground.phase }, { on := 3, ground := Go.Ground.phase }, { on := 4, ground := Go.Ground.phase }, { on := 5, ground := Go.Ground.phase }, { on := 6, ground := Go.Ground.phase }, { on := 7, ground := Go.Ground.phase }, { on := 8, ground := Go.Ground.phase }, { on := 9, ground := Go.Ground.phase }, { on := 10, ground := Go.Ground.textOnly Go.Departure.lateStores }, { on := 11, ground := Go.Ground.textOnly Go.Departure.lateStores }, { on := 12, ground := Go.Ground.textOnly Go.Departure.lateStores }, { on := 13, ground := Go.Ground.textOnly Go.Departure.lateStores }, { on := 14, ground := Go.Ground.textOnly Go.Departure.lateStoresUnsure }, { on := 15, ground := Go.Ground.phase }], guard := none }) (v := ?v25) rfl (by kernel_rfl) (by kernel_rfl) (by kernel_rfl) (fun _ _ _ h => h) (Or.inl ⟨by rfl, ?hy25⟩) hHeld ?rest25
    case hy25 => (intro w hSw; (try dsimp only at hSw); go_simp; (first | done | with_reducible rfl))
    try simp only [Act.put, List.setIfInBounds_toArray, List.set_cons_zero, List.set_cons_succ]
    refine wpAnyH_take (i := 17) (oi := { dst := some 14, op := Go.Op.assign (Go.Operand.tmp 69), type := 4, pos := "law.go:91", after := #[{ on := 14, ground := Go.Ground.data }, { on := 16, ground := Go.Ground.chain }, { on := 0, ground := Go.Ground.phase }, { on := 1, ground := Go.Ground.phase }, { on := 2, ground := Go.Ground.phase }, { on := 3, ground := Go.Ground.phase }, { on := 4, ground := Go.Ground.phase }, { on := 5, ground := Go.Ground.phase }, { on := 6, ground := Go.Ground.phase }, { on := 7, ground := Go.Ground.phase }, { on := 8, ground := Go.Ground.phase }, { on := 9, ground := Go.Ground.phase }, { on := 10, ground := Go.Ground.phase }, { on := 11, ground := Go.Ground.phase }, { on := 12, ground := Go.Ground.phase }, { on := 13, ground := Go.Ground.phase }, { on := 14, ground := Go.Ground.phase }, { on := 15, ground := Go.Ground.phase }, { on := 16, ground := Go.Ground.phase }], guard := none }) (v := ?v26) rfl (by kernel_rfl) (by kernel_rfl) (by kernel_rfl) (fun _ _ _ h => h) (Or.inl ⟨by rfl, ?hy26⟩) hHeld ?rest26
    case hy26 => (intro w hSw; (try dsimp only at hSw); go_simp; (first | done | with_reducible rfl))
    try simp only [Act.put, List.setIfInBounds_toArray, List.set_cons_zero, List.set_cons_succ]
    refine wpAnyH_done (by kernel_rfl) ?_ _
    go_wp2_with fail
    try simp only [Act.put, List.setIfInBounds_toArray, List.set_cons_zero, List.set_cons_succ]
    have hq27 : w69.heap.size ≤ w69.drew.heap.size := Nat.le_refl _
    have z28 := (Ext.refl w69).drew.size
    replace E := E.trans (Ext.refl w69).drew
    replace LB5 := LB5.ext (Ext.refl w69).drew
    replace cB5_1 := cell_ext ((Ext.refl w69).drew) cB5_1
    replace HV := HV.ext (Ext.refl w69).drew
    replace LB11 := LB11.ext (Ext.refl w69).drew
    refine wp_region_held_drew (S := (fun w' => Lay 8 w' B11 (.agg #[c1, c2, c3, c4, c5, c6, c7, c8]))) (by kernel_rfl) LB11 (fun hHeld => ?_)
    refine wpAnyH_take (i := 0) (oi := { dst := some 70, op := Go.Op.move (Go.Operand.tmp 12), type := 4, pos := "law.go:92", after := #[], guard := none }) (v := ?v29) rfl (by kernel_rfl) (by kernel_rfl) (by kernel_rfl) (fun _ _ _ h => h) (Or.inl ⟨by rfl, ?hy29⟩) hHeld ?rest29
    case hy29 => (intro w hSw; (try dsimp only at hSw); go_simp; (first | done | with_reducible rfl))
    try simp only [Act.put, List.setIfInBounds_toArray, List.set_cons_zero, List.set_cons_succ]
    refine wpAnyH_take (i := 1) (oi := { dst := some 71, op := Go.Op.load 41 (Go.Operand.tmp 11), type := 41, pos := "law.go:92", after := #[], guard := none }) (v := (.agg #[c1, c2, c3, c4, c5, c6, c7, c8])) rfl (by kernel_rfl) (by kernel_rfl) (by kernel_rfl) (fun _ _ _ h => h) (yieldV (by rfl) rfl rfl fun w' hx => hx) hHeld ?_
    try simp only [Act.put, List.setIfInBounds_toArray, List.set_cons_zero, List.set_cons_succ]
    refine wpAnyH_take (i := 2) (oi := { dst := some 72, op := Go.Op.move (Go.Operand.tmp 2), type := 3, pos := "law.go:92", after := #[], guard := none }) (v := ?v31) rfl (by kernel_rfl) (by kernel_rfl) (by kernel_rfl) (fun _ _ _ h => h) (Or.inl ⟨by rfl, ?hy31⟩) hHeld ?rest31
    case hy31 => (intro w hSw; (try dsimp only at hSw); go_simp; (first | done | with_reducible rfl))
    try simp only [Act.put, List.setIfInBounds_toArray, List.set_cons_zero, List.set_cons_succ]
    refine wpAnyH_take (i := 3) (oi := { dst := some 73, op := Go.Op.move (Go.Operand.tmp 1), type := 3, pos := "law.go:92", after := #[], guard := none }) (v := ?v32) rfl (by kernel_rfl) (by kernel_rfl) (by kernel_rfl) (fun _ _ _ h => h) (Or.inl ⟨by rfl, ?hy32⟩) hHeld ?rest32
    case hy32 => (intro w hSw; (try dsimp only at hSw); go_simp; (first | done | with_reducible rfl))
    try simp only [Act.put, List.setIfInBounds_toArray, List.set_cons_zero, List.set_cons_succ]
    refine wpAnyH_take (i := 4) (oi := { dst := some 74, op := Go.Op.move (Go.Operand.tmp 4), type := 4, pos := "law.go:92", after := #[], guard := none }) (v := ?v33) rfl (by kernel_rfl) (by kernel_rfl) (by kernel_rfl) (fun _ _ _ h => h) (Or.inl ⟨by rfl, ?hy33⟩) hHeld ?rest33
    case hy33 => (intro w hSw; (try dsimp only at hSw); go_simp; (first | done | with_reducible rfl))
    try simp only [Act.put, List.setIfInBounds_toArray, List.set_cons_zero, List.set_cons_succ]
    refine wpAnyH_take (i := 7) (oi := { dst := some 77, op := Go.Op.move (Go.Operand.tmp 1), type := 3, pos := "law.go:92", after := #[], guard := none }) (v := ?v34) rfl (by kernel_rfl) (by kernel_rfl) (by kernel_rfl) (fun _ _ _ h => h) (Or.inl ⟨by rfl, ?hy34⟩) hHeld ?rest34
    case hy34 => (intro w hSw; (try dsimp only at hSw); go_simp; (first | done | with_reducible rfl))
    try simp only [Act.put, List.setIfInBounds_toArray, List.set_cons_zero, List.set_cons_succ]
    refine wpAnyH_take (i := 8) (oi := { dst := some 78, op := Go.Op.move (Go.Operand.tmp 2), type := 3, pos := "law.go:92", after := #[], guard := none }) (v := ?v35) rfl (by kernel_rfl) (by kernel_rfl) (by kernel_rfl) (fun _ _ _ h => h) (Or.inl ⟨by rfl, ?hy35⟩) hHeld ?rest35
    case hy35 => (intro w hSw; (try dsimp only at hSw); go_simp; (first | done | with_reducible rfl))
    try simp only [Act.put, List.setIfInBounds_toArray, List.set_cons_zero, List.set_cons_succ]
    refine wpAnyH_take (i := 9) (oi := { dst := some 79, op := Go.Op.binOp Go.BinOp.neq 3 (Go.Operand.tmp 77) (Go.Operand.tmp 78) 3, type := 4, pos := "law.go:92", after := #[{ on := 7, ground := Go.Ground.data }, { on := 8, ground := Go.Ground.data }], guard := none }) (v := ?v36) rfl (by kernel_rfl) (by kernel_rfl) (by kernel_rfl) (fun _ _ _ h => h) (Or.inl ⟨by rfl, ?hy36⟩) hHeld ?rest36
    case hy36 => (intro w hSw; (try dsimp only at hSw); go_simp; (first | done | with_reducible rfl))
    try simp only [Act.put, List.setIfInBounds_toArray, List.set_cons_zero, List.set_cons_succ]
    refine wpAnyH_ready (rs := [5]) (by kernel_rfl) (by simp) ?_
    refine AllReadyH.cons (o := { dst := some 75, op := Go.Op.call { callee := Go.Callee.value (Go.Operand.func 19), args := #[Go.Operand.tmp 71, Go.Operand.const (Go.Value.int Go.IntKind.i64 1), Go.Operand.tmp 72, Go.Operand.tmp 73, Go.Operand.tmp 74], argTypes := #[41, 3, 3, 3, 4] }, type := 4, pos := "law.go:92", after := #[{ on := 1, ground := Go.Ground.data }, { on := 2, ground := Go.Ground.data }, { on := 3, ground := Go.Ground.data }, { on := 4, ground := Go.Ground.data }], guard := none }) rfl (fun K hK => ?_) (AllReadyH.nil)
    go_simp
    refine (kld _ _ HV.is).mono ?_
    rintro e w75 ⟨rfl, x⟩
    have z37 := x.size
    replace E := E.trans x
    replace LB5 := LB5.ext x
    replace cB5_1 := cell_ext (x) cB5_1
    replace HV := HV.ext x
    replace LB11 := LB11.ext x
    clear x
    clear hHeld
    have hHeld := LB11
    refine hK.out _ _ hHeld (fun _ => ?_)
    clear hK K
    try simp only [Act.put, List.setIfInBounds_toArray, List.set_cons_zero, List.set_cons_succ]
    refine wpAnyH_take (i := 6) (oi := { dst := some 76, op := Go.Op.binOp Go.BinOp.neq 4 (Go.Operand.tmp 70) (Go.Operand.tmp 75) 4, type := 4, pos := "law.go:92", after := #[{ on := 0, ground := Go.Ground.data }, { on := 5, ground := Go.Ground.data }], guard := none }) (v := ?v38) rfl (by kernel_rfl) (by kernel_rfl) (by kernel_rfl) (fun _ _ _ h => h) (Or.inl ⟨by rfl, ?hy38⟩) hHeld ?rest38
    case hy38 => (intro w hSw; (try dsimp only at hSw); go_simp; (first | done | with_reducible rfl))
    try simp only [Act.put, List.setIfInBounds_toArray, List.set_cons_zero, List.set_cons_succ]
    refine wpAnyH_take (i := 10) (oi := { dst := some 80, op := Go.Op.binOp Go.BinOp.eql 4 (Go.Operand.tmp 76) (Go.Operand.tmp 79) 4, type := 4, pos := "law.go:92", after := #[{ on := 6, ground := Go.Ground.data }, { on := 9, ground := Go.Ground.data }], guard := none }) (v := ?v39) rfl (by kernel_rfl) (by kernel_rfl) (by kernel_rfl) (fun _ _ _ h => h) (Or.inl ⟨by rfl, ?hy39⟩) hHeld ?rest39
    case hy39 => (intro w hSw; (try dsimp only at hSw); go_simp; (first | done | with_reducible rfl))
    try simp only [Act.put, List.setIfInBounds_toArray, List.set_cons_zero, List.set_cons_succ]
    refine wpAnyH_take (i := 11) (oi := { dst := some 81, op := Go.Op.move (Go.Operand.tmp 80), type := 4, pos := "law.go:92", after := #[{ on := 10, ground := Go.Ground.data }, { on := 5, ground := Go.Ground.chain }], guard := none }) (v := ?v40) rfl (by kernel_rfl) (by kernel_rfl) (by kernel_rfl) (fun _ _ _ h => h) (Or.inl ⟨by rfl, ?hy40⟩) hHeld ?rest40
    case hy40 => (intro w hSw; (try dsimp only at hSw); go_simp; (first | done | with_reducible rfl))
    try simp only [Act.put, List.setIfInBounds_toArray, List.set_cons_zero, List.set_cons_succ]
    refine wpAnyH_take (i := 12) (oi := { dst := some 82, op := Go.Op.move (Go.Operand.tmp 12), type := 4, pos := "law.go:92", after := #[{ on := 11, ground := Go.Ground.guard }], guard := some (11, true) }) (v := ?v41) rfl (by kernel_rfl) (by kernel_rfl) (by kernel_rfl) (fun _ _ _ h => h) (Or.inl ⟨by rfl, ?hy41⟩) hHeld ?rest41
    case hy41 => (intro w hSw; (try dsimp only at hSw); go_simp; (first | done | with_reducible rfl))
    try simp only [Act.put, List.setIfInBounds_toArray, List.set_cons_zero, List.set_cons_succ]
    refine wpAnyH_take (i := 13) (oi := { dst := some 83, op := Go.Op.unOp Go.UnOp.not 4 (Go.Operand.tmp 82), type := 4, pos := "law.go:92", after := #[{ on := 12, ground := Go.Ground.data }, { on := 11, ground := Go.Ground.guard }], guard := some (11, true) }) (v := ?v42) rfl (by kernel_rfl) (by kernel_rfl) (by kernel_rfl) (fun _ _ _ h => h) (Or.inl ⟨by rfl, ?hy42⟩) hHeld ?rest42
    case hy42 => (intro w hSw; (try dsimp only at hSw); go_simp; (first | done | with_reducible rfl))
    try simp only [Act.put, List.setIfInBounds_toArray, List.set_cons_zero, List.set_cons_succ]
    refine wpAnyH_take (i := 14) (oi := { dst := some 84, op := Go.Op.move (Go.Operand.tmp 83), type := 4, pos := "law.go:92", after := #[{ on := 13, ground := Go.Ground.data }, { on := 11, ground := Go.Ground.chain }, { on := 11, ground := Go.Ground.guard }], guard := some (11, true) }) (v := ?v43) rfl (by kernel_rfl) (by kernel_rfl) (by kernel_rfl) (fun _ _ _ h => h) (Or.inl ⟨by rfl, ?hy43⟩) hHeld ?rest43
    case hy43 => (intro w hSw; (try dsimp only at hSw); go_simp; (first | done | with_reducible rfl))
    try simp only [Act.put, List.setIfInBounds_toArray, List.set_cons_zero, List.set_cons_succ]
    refine wpAnyH_take (i := 15) (oi := { dst := some 85, op := Go.Op.move (Go.Operand.tmp 13), type := 4, pos := "law.go:92", after := #[{ on := 14, ground := Go.Ground.guard }], guard := some (14, false) }) (v := undef) rfl (by kernel_rfl) (by kernel_rfl) (by kernel_rfl) (fun _ _ _ h => h) (Or.inr ⟨by rfl, rfl⟩) hHeld ?_
    try simp only [Act.put, List.setIfInBounds_toArray, List.set_cons_zero, List.set_cons_succ]
    refine wpAnyH_take (i := 16) (oi := { dst := some 86, op := Go.Op.unOp Go.UnOp.not 4 (Go.Operand.tmp 85), type := 4, pos := "law.go:92", after := #[{ on := 15, ground := Go.Ground.data }, { on := 14, ground := Go.Ground.guard }], guard := some (14, false) }) (v := undef) rfl (by kernel_rfl) (by kernel_rfl) (by kernel_rfl) (fun _ _ _ h => h) (Or.inr ⟨by rfl, rfl⟩) hHeld ?_
    try simp only [Act.put, List.setIfInBounds_toArray, List.set_cons_zero, List.set_cons_succ]
    refine wpAnyH_take (i := 17) (oi := { dst := some 87, op := Go.Op.pick (Go.Operand.tmp 84) (Go.Operand.const (Go.Value.bool true)) (Go.Operand.tmp 86), type := 4, pos := "law.go:92", after := #[{ on := 14, ground := Go.Ground.data }, { on := 16, ground := Go.Ground.data }, { on := 11, ground := Go.Ground.guard }], guard := some (11, true) }) (v := ?v46) rfl (by kernel_rfl) (by kernel_rfl) (by kernel_rfl) (fun _ _ _ h => h) (Or.inl ⟨by rfl, ?hy46⟩) hHeld ?rest46
    case hy46 => (intro w hSw; (try dsimp only at hSw); go_simp; (first | done | with_reducible rfl))
    try simp only [Act.put, List.setIfInBounds_toArray, List.set_cons_zero, List.set_cons_succ]
    refine wpAnyH_take (i := 18) (oi := { dst := some 88, op := Go.Op.move (Go.Operand.tmp 87), type := 4, pos := "law.go:92", after := #[{ on := 17, ground := Go.Ground.data }, { on := 14, ground := Go.Ground.chain }, { on := 11, ground := Go.Ground.guard }], guard := some (11, true) }) (v := ?v47) rfl (by kernel_rfl) (by kernel_rfl) (by kernel_rfl) (fun _ _ _ h => h) (Or.inl ⟨by rfl, ?hy47⟩) hHeld ?rest47
    case hy47 => (intro w hSw; (try dsimp only at hSw); go_simp; (first | done | with_reducible rfl))
    try simp only [Act.put, List.setIfInBounds_toArray, List.set_cons_zero, List.set_cons_succ]
    refine wpAnyH_take (i := 19) (oi := { dst := some 89, op := Go.Op.move (Go.Operand.tmp 14), type := 4, pos := "law.go:92", after := #[{ on := 18, ground := Go.Ground.guard }], guard := some (18, false) }) (v := undef) rfl (by kernel_rfl) (by kernel_rfl) (by kernel_rfl) (fun _ _ _ h => h) (Or.inr ⟨by rfl, rfl⟩) hHeld ?_
    try simp only [Act.put, List.setIfInBounds_toArray, List.set_cons_zero, List.set_cons_succ]
    refine wpAnyH_take (i := 20) (oi := { dst := some 90, op := Go.Op.pick (Go.Operand.tmp 88) (Go.Operand.const (Go.Value.bool true)) (Go.Operand.tmp 89), type := 4, pos := "law.go:92", after := #[{ on := 18, ground := Go.Ground.data }, { on := 19, ground := Go.Ground.data }, { on := 11, ground := Go.Ground.guard }], guard := some (11, true) }) (v := ?v49) rfl (by kernel_rfl) (by kernel_rfl) (by kernel_rfl) (fun _ _ _ h => h) (Or.inl ⟨by rfl, ?hy49⟩) hHeld ?rest49
    case hy49 => (intro w hSw; (try dsimp only at hSw); go_simp; (first | done | with_reducible rfl))
    try simp only [Act.put, List.setIfInBounds_toArray, List.set_cons_zero, List.set_cons_succ]
    refine wpAnyH_take (i := 21) (oi := { dst := some 91, op := Go.Op.pick (Go.Operand.tmp 81) (Go.Operand.tmp 90) (Go.Operand.const (Go.Value.bool false)), type := 4, pos := "law.go:92", after := #[{ on := 11, ground := Go.Ground.data }, { on := 20, ground := Go.Ground.data }], guard := none }) (v := ?v50) rfl (by kernel_rfl) (by kernel_rfl) (by kernel_rfl) (fun _ _ _ h => h) (Or.inl ⟨by rfl, ?hy50⟩) hHeld ?rest50
    case hy50 => (intro w hSw; (try dsimp only at hSw); go_simp; (first | done | with_reducible rfl))
    try simp only [Act.put, List.setIfInBounds_toArray, List.set_cons_zero, List.set_cons_succ]
    refine wpAnyH_take (i := 22) (oi := { dst := some 92, op := Go.Op.move (Go.Operand.tmp 91), type := 4, pos := "law.go:92", after := #[{ on := 21, ground := Go.Ground.data }, { on := 18, ground := Go.Ground.chain }], guard := none }) (v := ?v51) rfl (by kernel_rfl) (by kernel_rfl) (by kernel_rfl) (fun _ _ _ h => h) (Or.inl ⟨by rfl, ?hy51⟩) hHeld ?rest51
    case hy51 => (intro w hSw; (try dsimp only at hSw); go_simp; (first | done | with_reducible rfl))
    try simp only [Act.put, List.setIfInBounds_toArray, List.set_cons_zero, List.set_cons_succ]
    refine wpAnyH_take (i := 23) (oi := { dst := some 93, op := Go.Op.load 41 (Go.Operand.tmp 11), type := 41, pos := "law.go:92", after := #[{ on := 22, ground := Go.Ground.guard }], guard := some (22, true) }) (v := (.agg #[c1, c2, c3, c4, c5, c6, c7, c8])) rfl (by kernel_rfl) (by kernel_rfl) (by kernel_rfl) (fun _ _ _ h => h) (yieldV (by rfl) rfl rfl fun w' hx => hx) hHeld ?_
    try simp only [Act.put, List.setIfInBounds_toArray, List.set_cons_zero, List.set_cons_succ]
    refine wpAnyH_take (i := 24) (oi := { dst := some 94, op := Go.Op.move (Go.Operand.tmp 1), type := 3, pos := "law.go:92", after := #[{ on := 22, ground := Go.Ground.guard }], guard := some (22, true) }) (v := ?v53) rfl (by kernel_rfl) (by kernel_rfl) (by kernel_rfl) (fun _ _ _ h => h) (Or.inl ⟨by rfl, ?hy53⟩) hHeld ?rest53
    case hy53 => (intro w hSw; (try dsimp only at hSw); go_simp; (first | done | with_reducible rfl))
    try simp only [Act.put, List.setIfInBounds_toArray, List.set_cons_zero, List.set_cons_succ]
    refine wpAnyH_take (i := 25) (oi := { dst := some 95, op := Go.Op.move (Go.Operand.tmp 2), type := 3, pos := "law.go:92", after := #[{ on := 22, ground := Go.Ground.guard }], guard := some (22, true) }) (v := ?v54) rfl (by kernel_rfl) (by kernel_rfl) (by kernel_rfl) (fun _ _ _ h => h) (Or.inl ⟨by rfl, ?hy54⟩) hHeld ?rest54
    case hy54 => (intro w hSw; (try dsimp only at hSw); go_simp; (first | done | with_reducible rfl))
    try simp only [Act.put, List.setIfInBounds_toArray, List.set_cons_zero, List.set_cons_succ]
    refine wpAnyH_take (i := 27) (oi := { dst := some 97, op := Go.Op.load 41 (Go.Operand.tmp 11), type := 41, pos := "law.go:92", after := #[{ on := 22, ground := Go.Ground.guard }], guard := some (22, true) }) (v := (.agg #[c1, c2, c3, c4, c5, c6, c7, c8])) rfl (by kernel_rfl) (by kernel_rfl) (by kernel_rfl) (fun _ _ _ h => h) (yieldV (by rfl) rfl rfl fun w' hx => hx) hHeld ?_
    try simp only [Act.put, List.setIfInBounds_toArray, List.set_cons_zero, List.set_cons_succ]
    refine wpAnyH_take (i := 28) (oi := { dst := some 98, op := Go.Op.move (Go.Operand.tmp 2), type := 3, pos := "law.go:92", after := #[{ on := 22, ground := Go.Ground.guard }], guard := some (22, true) }) (v := ?v56) rfl (by kernel_rfl) (by kernel_rfl) (by kernel_rfl) (fun _ _ _ h => h) (Or.inl ⟨by rfl, ?hy56⟩) hHeld ?rest56
    case hy56 => (intro w hSw; (try dsimp only at hSw); go_simp; (first | done | with_reducible rfl))
    try simp only [Act.put, List.setIfInBounds_toArray, List.set_cons_zero, List.set_cons_succ]
    refine wpAnyH_take (i := 29) (oi := { dst := some 99, op := Go.Op.move (Go.Operand.tmp 1), type := 3, pos := "law.go:92", after := #[{ on := 22, ground := Go.Ground.guard }], guard := some (22, true) }) (v := ?v57) rfl (by kernel_rfl) (by kernel_rfl) (by kernel_rfl) (fun _ _ _ h => h) (Or.inl ⟨by rfl, ?hy57⟩) hHeld ?rest57
    case hy57 => (intro w hSw; (try dsimp only at hSw); go_simp; (first | done | with_reducible rfl))
    try simp only [Act.put, List.setIfInBounds_toArray, List.set_cons_zero, List.set_cons_succ]
    refine wpAnyH_ready (rs := [26]) (by kernel_rfl) (by simp) ?_
    refine AllReadyH.cons (o := { dst := some 96, op := Go.Op.call { callee := Go.Callee.value (Go.Operand.func 17), args := #[Go.Operand.tmp 93, Go.Operand.const (Go.Value.int Go.IntKind.i64 1), Go.Operand.tmp 94, Go.Operand.tmp 95], argTypes := #[41, 3, 3, 3] }, type := 3, pos := "law.go:92", after := #[{ on := 23, ground := Go.Ground.data }, { on := 24, ground := Go.Ground.data }, { on := 25, ground := Go.Ground.data }, { on := 22, ground := Go.Ground.chain }, { on := 22, ground := Go.Ground.guard }], guard := some (22, true) }) rfl (fun K hK => ?_) (AllReadyH.nil)
    go_simp
    refine (kca _ _ HV.is).mono ?_
    rintro e w96 ⟨rfl, x⟩
    have z58 := x.size
    replace E := E.trans x
    replace LB5 := LB5.ext x
    replace cB5_1 := cell_ext (x) cB5_1
    replace HV := HV.ext x
    replace LB11 := LB11.ext x
    clear x
    clear hHeld
    have hHeld := LB11
    refine hK.out _ _ hHeld (fun _ => ?_)
    clear hK K
    try simp only [Act.put, List.setIfInBounds_toArray, List.set_cons_zero, List.set_cons_succ]
    refine wpAnyH_ready (rs := [30]) (by kernel_rfl) (by simp) ?_
    refine AllReadyH.cons (o := { dst := some 100, op := Go.Op.call { callee := Go.Callee.value (Go.Operand.func 17), args := #[Go.Operand.tmp 97, Go.Operand.const (Go.Value.int Go.IntKind.i64 1), Go.Operand.tmp 98, Go.Operand.tmp 99], argTypes := #[41, 3, 3, 3] }, type := 3, pos := "law.go:92", after := #[{ on := 27, ground := Go.Ground.data }, { on := 28, ground := Go.Ground.data }, { on := 29, ground := Go.Ground.data }, { on := 26, ground := Go.Ground.chain }, { on := 22, ground := Go.Ground.guard }], guard := some (22, true) }) rfl (fun K hK => ?_) (AllReadyH.nil)
    go_simp
    refine (kcb _ _ HV.is).mono ?_
    rintro e w100 ⟨rfl, x⟩
    have z59 := x.size
    replace E := E.trans x
    replace LB5 := LB5.ext x
    replace cB5_1 := cell_ext (x) cB5_1
    replace HV := HV.ext x
    replace LB11 := LB11.ext x
    clear x
    clear hHeld
    have hHeld := LB11
    refine hK.out _ _ hHeld (fun _ => ?_)
    clear hK K
    try simp only [Act.put, List.setIfInBounds_toArray, List.set_cons_zero, List.set_cons_succ]
    refine wpAnyH_take (i := 31) (oi := { dst := some 101, op := Go.Op.unOp Go.UnOp.neg 3 (Go.Operand.tmp 100), type := 3, pos := "law.go:92", after := #[{ on := 30, ground := Go.Ground.data }, { on := 22, ground := Go.Ground.guard }], guard := some (22, true) }) (v := ?v60) rfl (by kernel_rfl) (by kernel_rfl) (by kernel_rfl) (fun _ _ _ h => h) (Or.inl ⟨by rfl, ?hy60⟩) hHeld ?rest60
    case hy60 => (intro w hSw; (try dsimp only at hSw); go_simp; (first | done | with_reducible rfl))
    try simp only [Act.put, List.setIfInBounds_toArray, List.set_cons_zero, List.set_cons_succ]
    refine wpAnyH_take (i := 32) (oi := { dst := some 102, op := Go.Op.binOp Go.BinOp.eql 3 (Go.Operand.tmp 96) (Go.Operand.tmp 101) 3, type := 4, pos := "law.go:92", after := #[{ on := 26, ground := Go.Ground.data }, { on := 31, ground := Go.Ground.data }, { on := 22, ground := Go.Ground.guard }], guard := some (22, true) }) (v := ?v61) rfl (by kernel_rfl) (by kernel_rfl) (by kernel_rfl) (fun _ _ _ h => h) (Or.inl ⟨by rfl, ?hy61⟩) hHeld ?rest61
    case hy61 => (intro w hSw; (try dsimp only at hSw); go_simp; (first | done | with_reducible rfl))
    try simp only [Act.put, List.setIfInBounds_toArray, List.set_cons_zero, List.set_cons_succ]
    refine wpAnyH_take (i := 33) (oi := { dst := some 103, op := Go.Op.pick (Go.Operand.tmp 92) (Go.Operand.tmp 102) (Go.Operand.const (Go.Value.bool false)), type := 4, pos := "law.go:92", after := #[{ on := 22, ground := Go.Ground.data }, { on := 32, ground := Go.Ground.data }], guard := none }) (v := ?v62) rfl (by kernel_rfl) (by kernel_rfl) (by kernel_rfl) (fun _ _ _ h => h) (Or.inl ⟨by rfl, ?hy62⟩) hHeld ?rest62
    case hy62 => (intro w hSw; (try dsimp only at hSw); go_simp; (first | done | with_reducible rfl))
    try simp only [Act.put, List.setIfInBounds_toArray, List.set_cons_zero, List.set_cons_succ]
    refine wpAnyH_take (i := 34) (oi := { dst := some 104, op := Go.Op.move (Go.Operand.tmp 103), type := 4, pos := "law.go:92", after := #[{ on := 33, ground := Go.Ground.data }, { on := 30, ground := Go.Ground.chain }], guard := none }) (v := ?v63) rfl (by kernel_rfl) (by kernel_rfl) (by kernel_rfl) (fun _ _ _ h => h) (Or.inl ⟨by rfl, ?hy63⟩) hHeld ?rest63
    case hy63 => (intro w hSw; (try dsimp only at hSw); go_simp; (first | done | with_reducible rfl))
    try simp only [Act.put, List.setIfInBounds_toArray, List.set_cons_zero, List.set_cons_succ]
    refine wpAnyH_ready (rs := [35]) (by kernel_rfl) (by simp) ?_
    refine AllReadyH.cons (o := { dst := some 105, op := Go.Op.call { callee := Go.Callee.value (Go.Operand.func 11), args := #[], argTypes := #[] }, type := 4, pos := "law.go:92", after := #[{ on := 34, ground := Go.Ground.chain }, { on := 34, ground := Go.Ground.guard }], guard := some (34, true) }) rfl (fun K hK => ?_) (AllReadyH.nil)
    go_simp
    rw [if_pos (by rw [IntKind.wrap_i64]; omega)]
    refine (oawake_any _).mono ?_
    rintro e w105 ⟨rfl, x⟩
    have z64 := x.size
    replace E := E.trans x
    replace LB5 := LB5.ext x
    replace cB5_1 := cell_ext (x) cB5_1
    replace HV := HV.ext x
    replace LB11 := LB11.ext x
    clear x
    clear hHeld
    have hHeld := LB11
    refine hK.out _ _ hHeld (fun _ => ?_)
    clear hK K
    try simp only [Act.put, List.setIfInBounds_toArray, List.set_cons_zero, List.set_cons_succ]
    refine wpAnyH_take (i := 36) (oi := { dst := some 106, op := Go.Op.pick (Go.Operand.tmp 104) (Go.Operand.tmp 105) (Go.Operand.const (Go.Value.bool false)), type := 4, pos := "law.go:92", after := #[{ on := 34, ground := Go.Ground.data }, { on := 35, ground := Go.Ground.data }], guard := none }) (v := ?v65) rfl (by kernel_rfl) (by kernel_rfl) (by kernel_rfl) (fun _ _ _ h => h) (Or.inl ⟨by rfl, ?hy65⟩) hHeld ?rest65
    case hy65 => (intro w hSw; (try dsimp only at hSw); go_simp; (first | done | with_reducible rfl))
    try simp only [Act.put, List.setIfInBounds_toArray, List.set_cons_zero, List.set_cons_succ]
    refine wpAnyH_take (i := 37) (oi := { dst := some 10, op := Go.Op.assign (Go.Operand.tmp 106), type := 4, pos := "law.go:92", after := #[{ on := 36, ground := Go.Ground.data }, { on := 35, ground := Go.Ground.chain }, { on := 0, ground := Go.Ground.phase }, { on := 1, ground := Go.Ground.phase }, { on := 2, ground := Go.Ground.phase }, { on := 3, ground := Go.Ground.phase }, { on := 4, ground := Go.Ground.phase }, { on := 5, ground := Go.Ground.phase }, { on := 6, ground := Go.Ground.phase }, { on := 7, ground := Go.Ground.phase }, { on := 8, ground := Go.Ground.phase }, { on := 9, ground := Go.Ground.phase }, { on := 10, ground := Go.Ground.phase }, { on := 11, ground := Go.Ground.phase }, { on := 12, ground := Go.Ground.phase }, { on := 13, ground := Go.Ground.phase }, { on := 14, ground := Go.Ground.phase }, { on := 15, ground := Go.Ground.phase }, { on := 16, ground := Go.Ground.phase }, { on := 17, ground := Go.Ground.phase }, { on := 18, ground := Go.Ground.phase }, { on := 19, ground := Go.Ground.phase }, { on := 20, ground := Go.Ground.phase }, { on := 21, ground := Go.Ground.phase }, { on := 22, ground := Go.Ground.phase }, { on := 23, ground := Go.Ground.phase }, { on := 24, ground := Go.Ground.phase }, { on := 25, ground := Go.Ground.phase }, { on := 26, ground := Go.Ground.phase }, { on := 27, ground := Go.Ground.phase }, { on := 28, ground := Go.Ground.phase }, { on := 29, ground := Go.Ground.phase }, { on := 30, ground := Go.Ground.phase }, { on := 31, ground := Go.Ground.phase }, { on := 32, ground := Go.Ground.phase }, { on := 33, ground := Go.Ground.phase }, { on := 34, ground := Go.Ground.phase }, { on := 35, ground := Go.Ground.phase }, { on := 36, ground := Go.Ground.phase }], guard := none }) (v := ?v66) rfl (by kernel_rfl) (by kernel_rfl) (by kernel_rfl) (fun _ _ _ h => h) (Or.inl ⟨by rfl, ?hy66⟩) hHeld ?rest66
    case hy66 => (intro w hSw; (try dsimp only at hSw); go_simp; (first | done | with_reducible rfl))
    try simp only [Act.put, List.setIfInBounds_toArray, List.set_cons_zero, List.set_cons_succ]
    refine wpAnyH_done (by kernel_rfl) ?_ _
    go_wp2_with fail
    go_ret
    have e102 : (-cz == IntKind.i64.wrap (-cz)) = true := by rw [IntKind.wrap_i64]; simp; omega
    exact ⟨by show Ending.returned (.bool (-cz == IntKind.i64.wrap (-cz))) = _; rw [e102], E⟩
theorem ototal_m3 (sA : Option Addr) (ns sc : Nat) (iA : Option Addr) (m ic : Nat) (fl zc : Int) (w : World)
    (cg : ∀ w', Ext w w' → Calls Try.prog 14 #[(.agg #[.slice sA ns sc, .slice iA m ic, .int .i64 fl])] w' (GoodB m zc fl w')) (i j k : Int) (down : Bool) (X : List Int) (co : zc = 0 → fl < 2 → ∀ w', Ext w w' → Calls Try.prog 16 #[(.agg #[.slice sA ns sc, .slice iA m ic, .int .i64 fl])] w' (OfA X w')) (h1 : ¬ (i < 0)) (h2 : ¬ (j < 0)) (h3 : ¬ (k < 0)) (h4 : ¬ ((m : Int) ≤ i)) (h5 : ¬ ((m : Int) ≤ j)) (h6 : ¬ ((m : Int) ≤ k)) (c : Bool) (cz : Int) (hc1 : -1 ≤ cz) (hc2 : cz ≤ 1) (e79 : (i != j) = true)
    (kla : ∀ v w', OV w' v X → Calls Try.prog 19 #[v, .int .i64 1, .int .i64 i, .int .i64 j, .bool down] w' fun e w2 => e = .returned (.bool true) ∧ Ext w' w2) (klb : ∀ v w', OV w' v X → Calls Try.prog 19 #[v, .int .i64 1, .int .i64 j, .int .i64 k, .bool down] w' fun e w2 => e = .returned (.bool false) ∧ Ext w' w2) (klc : ∀ v w', OV w' v X → Calls Try.prog 19 #[v, .int .i64 1, .int .i64 i, .int .i64 k, .bool down] w' fun e w2 => e = .returned (.bool c) ∧ Ext w' w2) (kld : ∀ v w', OV w' v X → Calls Try.prog 19 #[v, .int .i64 1, .int .i64 j, .int .i64 i, .bool down] w' fun e w2 => e = .returned (.bool false) ∧ Ext w' w2) (kca : ∀ v w', OV w' v X → Calls Try.prog 17 #[v, .int .i64 1, .int .i64 i, .int .i64 j] w' fun e w2 => e = .returned (.int .i64 (-cz)) ∧ Ext w' w2) (kcb : ∀ v w', OV w' v X → Calls Try.prog 17 #[v, .int .i64 1, .int .i64 j, .int .i64 i] w' fun e w2 => e = .returned (.int .i64 (cz)) ∧ Ext w' w2)  : Calls Try.prog 6 #[(.agg #[.slice sA ns sc, .slice iA m ic, .int .i64 fl]), .int .i64 i, .int .i64 j, .int .i64 k, .bool down] w fun e w' => e = .returned (.bool true) ∧ Ext w w' := by
  have hF := pl_flat sA ns sc iA m ic fl
  have E := Ext.refl w
  have e20 : decide (i < 0) = false := decide_eq_false h1
  have e24 : decide (j < 0) = false := decide_eq_false h2
  have e28 : decide (k < 0) = false := decide_eq_false h3
  have e35 : decide ((m : Int) ≤ i) = false := decide_eq_false h4
  have e42 : decide ((m : Int) ≤ j) = false := decide_eq_false h5
  have e49 : decide ((m : Int) ≤ k) = false := decide_eq_false h6
  clear h1 h2 h3 h4 h5 h6
  go_enter Try.func6, Try.ntmps6
  have TB5 : True := trivial
  go_wp2_with (first | (clear TB5; refine boxsP (v := (.agg #[.slice sA ns sc, .slice iA m ic, .int .i64 fl])) rfl rfl rfl hF ?_; intro B5 w5 bB5 cB5 XB5 LB5 RB5; have z1 := XB5.size; replace E := E.trans XB5; have cB5_1 := lay_cell LB5 (j := 1) rfl; clear RB5) | (refine loadsP (B := B5) (by rfl) rfl rfl LB5 ?_))
  refine (cg _ E).mono ?_
  rintro e w16 ⟨g, rfl, hg, x⟩
  cases g
  · have z2 := x.size
    replace E := E.trans x
    replace LB5 := LB5.ext x
    replace cB5_1 := cell_ext (x) cB5_1
    clear x
    go_wp2_with fail
    refine (oawake_any _).mono ?_
    rintro e w51 ⟨rfl, x⟩
    have z3 := x.size
    replace E := E.trans x
    replace LB5 := LB5.ext x
    replace cB5_1 := cell_ext (x) cB5_1
    clear x
    go_wp2_with fail
    go_ret
    exact ⟨rfl, E⟩
  · obtain ⟨hg1, hg2, hg3⟩ := hg rfl
    have co' := co hg2 hg3
    clear co hg hg2 hg3
    have z2 := x.size
    replace E := E.trans x
    replace LB5 := LB5.ext x
    replace cB5_1 := cell_ext (x) cB5_1
    clear x
    go_wp2_with (refine loadsP (B := B5) (by rfl) rfl rfl LB5 ?_)
    refine (co' _ E).mono ?_
    rintro e w53 ⟨c0, c1, c2, c3, c4, c5, c6, c7, c8, rfl, hf, hq, x⟩
    have HV := hq.now
    have hf8 := flat_tailV hf
    clear hq hf
    have z3 := x.size
    replace E := E.trans x
    replace LB5 := LB5.ext x
    replace cB5_1 := cell_ext (x) cB5_1
    clear x
    have TF54 : True := trivial
    have TB11 : True := trivial
    have TG5 : True := trivial
    go_wp2_with (first | (clear TF54; rw [field9]; simp only [Result.andThen_ok, Oper.upon_value]) | (clear TB11; refine allocsV rfl rfl ?_; intro B11 w11 bB11 cB11 XB11 LB11 RB11; have z4 := XB11.size; replace E := E.trans XB11; replace LB5 := LB5.ext XB11; replace cB5_1 := cell_ext (XB11) cB5_1; replace HV := HV.ext XB11) | (clear TG5; have hRl := (RB11).lt (Nat.zero_lt_succ _); refine storesV (B := B11) rfl rfl rfl (v := (.agg #[c1, c2, c3, c4, c5, c6, c7, c8])) rfl RB11 hf8 ?_; clear LB11; intro s5 G5 LB11 RQ; have z6 := G5.size; replace E := grown_ext E G5 (by omega); replace LB5 := LB5.grown G5 (by omega); replace cB5_1 := cell_grown (G5) cB5_1 (by show B5 ≠ _; omega); replace HV := HV.grown G5 (by first | omega | (dsimp only [New]; omega)); clear RB11; have RB11 := RQ; clear RQ hRl; clear RB11))
    try simp only [Act.put, List.setIfInBounds_toArray, List.set_cons_zero, List.set_cons_succ]
    have hq7 : s5.heap.size ≤ s5.drew.heap.size := Nat.le_refl _
    have z8 := (Ext.refl s5).drew.size
    replace E := E.trans (Ext.refl s5).drew
    replace LB5 := LB5.ext (Ext.refl s5).drew
    replace cB5_1 := cell_ext ((Ext.refl s5).drew) cB5_1
    replace HV := HV.ext (Ext.refl s5).drew
    replace LB11 := LB11.ext (Ext.refl s5).drew
    refine wp_region_held_drew (S := (fun w' => Lay 8 w' B11 (.agg #[c1, c2, c3, c4, c5, c6, c7, c8]))) (by kernel_rfl) LB11 (fun hHeld => ?_)
    refine wpAnyH_take (i := 0) (oi := { dst := some 55, op := Go.Op.load 41 (Go.Operand.tmp 11), type := 41, pos := "law.go:91", after := #[], guard := none }) (v := (.agg #[c1, c2, c3, c4, c5, c6, c7, c8])) rfl (by kernel_rfl) (by kernel_rfl) (by kernel_rfl) (fun _ _ _ h => h) (yieldV (by rfl) rfl rfl fun w' hx => hx) hHeld ?_
    try simp only [Act.put, List.setIfInBounds_toArray, List.set_cons_zero, List.set_cons_succ]
    refine wpAnyH_take (i := 1) (oi := { dst := some 56, op := Go.Op.move (Go.Operand.tmp 1), type := 3, pos := "law.go:91", after := #[], guard := none }) (v := ?v10) rfl (by kernel_rfl) (by kernel_rfl) (by kernel_rfl) (fun _ _ _ h => h) (Or.inl ⟨by rfl, ?hy10⟩) hHeld ?rest10
    case hy10 => (intro w hSw; (try dsimp only at hSw); go_simp; (first | done | with_reducible rfl))
    try simp only [Act.put, List.setIfInBounds_toArray, List.set_cons_zero, List.set_cons_succ]
    refine wpAnyH_take (i := 2) (oi := { dst := some 57, op := Go.Op.move (Go.Operand.tmp 2), type := 3, pos := "law.go:91", after := #[], guard := none }) (v := ?v11) rfl (by kernel_rfl) (by kernel_rfl) (by kernel_rfl) (fun _ _ _ h => h) (Or.inl ⟨by rfl, ?hy11⟩) hHeld ?rest11
    case hy11 => (intro w hSw; (try dsimp only at hSw); go_simp; (first | done | with_reducible rfl))
    try simp only [Act.put, List.setIfInBounds_toArray, List.set_cons_zero, List.set_cons_succ]
    refine wpAnyH_take (i := 3) (oi := { dst := some 58, op := Go.Op.move (Go.Operand.tmp 4), type := 4, pos := "law.go:91", after := #[], guard := none }) (v := ?v12) rfl (by kernel_rfl) (by kernel_rfl) (by kernel_rfl) (fun _ _ _ h => h) (Or.inl ⟨by rfl, ?hy12⟩) hHeld ?rest12
    case hy12 => (intro w hSw; (try dsimp only at hSw); go_simp; (first | done | with_reducible rfl))
    try simp only [Act.put, List.setIfInBounds_toArray, List.set_cons_zero, List.set_cons_succ]
    refine wpAnyH_take (i := 5) (oi := { dst := some 60, op := Go.Op.load 41 (Go.Operand.tmp 11), type := 41, pos := "law.go:91", after := #[], guard := none }) (v := (.agg #[c1, c2, c3, c4, c5, c6, c7, c8])) rfl (by kernel_rfl) (by kernel_rfl) (by kernel_rfl) (fun _ _ _ h => h) (yieldV (by rfl) rfl rfl fun w' hx => hx) hHeld ?_
    try simp only [Act.put, List.setIfInBounds_toArray, List.set_cons_zero, List.set_cons_succ]
    refine wpAnyH_take (i := 6) (oi := { dst := some 61, op := Go.Op.move (Go.Operand.tmp 2), type := 3, pos := "law.go:91", after := #[], guard := none }) (v := ?v14) rfl (by kernel_rfl) (by kernel_rfl) (by kernel_rfl) (fun _ _ _ h => h) (Or.inl ⟨by rfl, ?hy14⟩) hHeld ?rest14
    case hy14 => (intro w hSw; (try dsimp only at hSw); go_simp; (first | done | with_reducible rfl))
    try simp only [Act.put, List.setIfInBounds_toArray, List.set_cons_zero, List.set_cons_succ]
    refine wpAnyH_take (i := 7) (oi := { dst := some 62, op := Go.Op.move (Go.Operand.tmp 3), type := 3, pos := "law.go:91", after := #[], guard := none }) (v := ?v15) rfl (by kernel_rfl) (by kernel_rfl) (by kernel_rfl) (fun _ _ _ h => h) (Or.inl ⟨by rfl, ?hy15⟩) hHeld ?rest15
    case hy15 => (intro w hSw; (try dsimp only at hSw); go_simp; (first | done | with_reducible rfl))
    try simp only [Act.put, List.setIfInBounds_toArray, List.set_cons_zero, List.set_cons_succ]
    refine wpAnyH_take (i := 8) (oi := { dst := some 63, op := Go.Op.move (Go.Operand.tmp 4), type := 4, pos := "law.go:91", after := #[], guard := none }) (v := ?v16) rfl (by kernel_rfl) (by kernel_rfl) (by kernel_rfl) (fun _ _ _ h => h) (Or.inl ⟨by rfl, ?hy16⟩) hHeld ?rest16
    case hy16 => (intro w hSw; (try dsimp only at hSw); go_simp; (first | done | with_reducible rfl))
    try simp only [Act.put, List.setIfInBounds_toArray, List.set_cons_zero, List.set_cons_succ]
    refine wpAnyH_take (i := 10) (oi := { dst := some 65, op := Go.Op.load 41 (Go.Operand.tmp 11), type := 41, pos := "law.go:91", after := #[], guard := none }) (v := (.agg #[c1, c2, c3, c4, c5, c6, c7, c8])) rfl (by kernel_rfl) (by kernel_rfl) (by kernel_rfl) (fun _ _ _ h => h) (yieldV (by rfl) rfl rfl fun w' hx => hx) hHeld ?_
    try simp only [Act.put, List.setIfInBounds_toArray, List.set_cons_zero, List.set_cons_succ]
    refine wpAnyH_take (i := 11) (oi := { dst := some 66, op := Go.Op.move (Go.Operand.tmp 1), type := 3, pos := "law.go:91", after := #[], guard := none }) (v := ?v18) rfl (by kernel_rfl) (by kernel_rfl) (by kernel_rfl) (fun _ _ _ h => h) (Or.inl ⟨by rfl, ?hy18⟩) hHeld ?rest18
    case hy18 => (intro w hSw; (try dsimp only at hSw); go_simp; (first | done | with_reducible rfl))
    try simp only [Act.put, List.setIfInBounds_toArray, List.set_cons_zero, List.set_cons_succ]
    refine wpAnyH_take (i := 12) (oi := { dst := some 67, op := Go.Op.move (Go.Operand.tmp 3), type := 3, pos := "law.go:91", after := #[], guard := none }) (v := ?v19) rfl (by kernel_rfl) (by kernel_rfl) (by kernel_rfl) (fun _ _ _ h => h) (Or.inl ⟨by rfl, ?hy19⟩) hHeld ?rest19
    case hy19 => (intro w hSw; (try dsimp only at hSw); go_simp; (first | done | with_reducible rfl))
    try simp only [Act.put, List.setIfInBounds_toArray, List.set_cons_zero, List.set_cons_succ]
    refine wpAnyH_take (i := 13) (oi := { dst := some 68, op := Go.Op.move (Go.Operand.tmp 4), type := 4, pos := "law.go:91", after := #[], guard := none }) (v := ?v20) rfl (by kernel_rfl) (by kernel_rfl) (by kernel_rfl) (fun _ _ _ h => h) (Or.inl ⟨by rfl, ?hy20⟩) hHeld ?rest20
    case hy20 => (intro w hSw; (try dsimp only at hSw); go_simp; (first | done | with_reducible rfl))
    try simp only [Act.put, List.setIfInBounds_toArray, List.set_cons_zero, List.set_cons_succ]
    refine wpAnyH_ready (rs := [4]) (by kernel_rfl) (by simp) ?_
    refine AllReadyH.cons (o := { dst := some 59, op := Go.Op.call { callee := Go.Callee.value (Go.Operand.func 19), args := #[Go.Operand.tmp 55, Go.Operand.const (Go.Value.int Go.IntKind.i64 1), Go.Operand.tmp 56, Go.Operand.tmp 57, Go.Operand.tmp 58], argTypes := #[41, 3, 3, 3, 4] }, type := 4, pos := "law.go:91", after := #[{ on := 0, ground := Go.Ground.data }, { on := 1, ground := Go.Ground.data }, { on := 2, ground := Go.Ground.data }, { on := 3, ground := Go.Ground.data }], guard := none }) rfl (fun K hK => ?_) (AllReadyH.nil)
    go_simp
    refine (kla _ _ HV.is).mono ?_
    rintro e w59 ⟨rfl, x⟩
    have z21 := x.size
    replace E := E.trans x
    replace LB5 := LB5.ext x
    replace cB5_1 := cell_ext (x) cB5_1
    replace HV := HV.ext x
    replace LB11 := LB11.ext x
    clear x
    clear hHeld
    have hHeld := LB11
    refine hK.out _ _ hHeld (fun _ => ?_)
    clear hK K
    try simp only [Act.put, List.setIfInBounds_toArray, List.set_cons_zero, List.set_cons_succ]
    refine wpAnyH_ready (rs := [9]) (by kernel_rfl) (by simp) ?_
    refine AllReadyH.cons (o := { dst := some 64, op := Go.Op.call { callee := Go.Callee.value (Go.Operand.func 19), args := #[Go.Operand.tmp 60, Go.Operand.const (Go.Value.int Go.IntKind.i64 1), Go.Operand.tmp 61, Go.Operand.tmp 62, Go.Operand.tmp 63], argTypes := #[41, 3, 3, 3, 4] }, type := 4, pos := "law.go:91", after := #[{ on := 5, ground := Go.Ground.data }, { on := 6, ground := Go.Ground.data }, { on := 7, ground := Go.Ground.data }, { on := 8, ground := Go.Ground.data }, { on := 4, ground := Go.Ground.chain }], guard := none }) rfl (fun K hK => ?_) (AllReadyH.nil)
    go_simp
    refine (klb _ _ HV.is).mono ?_
    rintro e w64 ⟨rfl, x⟩
    have z22 := x.size
    replace E := E.trans x
    replace LB5 := LB5.ext x
    replace cB5_1 := cell_ext (x) cB5_1
    replace HV := HV.ext x
    replace LB11 := LB11.ext x
    clear x
    clear hHeld
    have hHeld := LB11
    refine hK.out _ _ hHeld (fun _ => ?_)
    clear hK K
    try simp only [Act.put, List.setIfInBounds_toArray, List.set_cons_zero, List.set_cons_succ]
    refine wpAnyH_ready (rs := [14]) (by kernel_rfl) (by simp) ?_
    refine AllReadyH.cons (o := { dst := some 69, op := Go.Op.call { callee := Go.Callee.value (Go.Operand.func 19), args := #[Go.Operand.tmp 65, Go.Operand.const (Go.Value.int Go.IntKind.i64 1), Go.Operand.tmp 66, Go.Operand.tmp 67, Go.Operand.tmp 68], argTypes := #[41, 3, 3, 3, 4] }, type := 4, pos := "law.go:91", after := #[{ on := 10, ground := Go.Ground.data }, { on := 11, ground := Go.Ground.data }, { on := 12, ground := Go.Ground.data }, { on := 13, ground := Go.Ground.data }, { on := 9, ground := Go.Ground.chain }], guard := none }) rfl (fun K hK => ?_) (AllReadyH.nil)
    go_simp
    refine (klc _ _ HV.is).mono ?_
    rintro e w69 ⟨rfl, x⟩
    have z23 := x.size
    replace E := E.trans x
    replace LB5 := LB5.ext x
    replace cB5_1 := cell_ext (x) cB5_1
    replace HV := HV.ext x
    replace LB11 := LB11.ext x
    clear x
    clear hHeld
    have hHeld := LB11
    refine hK.out _ _ hHeld (fun _ => ?_)
    clear hK K
    try simp only [Act.put, List.setIfInBounds_toArray, List.set_cons_zero, List.set_cons_succ]
    refine wpAnyH_take (i := 15) (oi := { dst := some 12, op := Go.Op.assign (Go.Operand.tmp 59), type := 4, pos := "law.go:91", after := #[{ on := 4, ground := Go.Ground.data }, { on := 14, ground := Go.Ground.chain }, { on := 0, ground := Go.Ground.phase }, { on := 1, ground := Go.Ground.phase }, { on := 2, ground := Go.Ground.phase }, { on := 3, ground := Go.Ground.phase }, { on := 4, ground := Go.Ground.phase }, { on := 5, ground := Go.Ground.textOnly Go.Departure.lateStores }, { on := 6, ground := Go.Ground.textOnly Go.Departure.lateStores }, { on := 7, ground := Go.Ground.textOnly Go.Departure.lateStores }, { on := 8, ground := Go.Ground.textOnly Go.Departure.lateStores }, { on := 9, ground := Go.Ground.textOnly Go.Departure.lateStoresUnsure }, { on := 10, ground := Go.Ground.textOnly Go.Departure.lateStores }, { on := 11, ground := Go.Ground.textOnly Go.Departure.lateStores }, { on := 12, ground := Go.Ground.textOnly Go.Departure.lateStores }, { on := 13, ground := Go.Ground.textOnly Go.Departure.lateStores }, { on := 14, ground := Go.Ground.textOnly Go.Departure.lateStoresUnsure }], guard := none }) (v := ?v24) rfl (by kernel_rfl) (by kernel_rfl) (by kernel_rfl) (fun _ _ _ h => h) (Or.inl ⟨by rfl, ?hy24⟩) hHeld ?rest24
    case hy24 => (intro w hSw; (try dsimp only at hSw); go_simp; (first | done | with_reducible rfl))
    try simp only [Act.put, List.setIfInBounds_toArray, List.set_cons_zero, List.set_cons_succ]
    refine wpAnyH_take (i := 16) (oi := { dst := some 13, op := Go.Op.assign (Go.Operand.tmp 64), type := 4, pos := "law.go:91", after := #[{ on := 9, ground := Go.Ground.data }, { on := 15, ground := Go.Ground.chain }, { on := 0, ground := Go.Ground.phase }, { on := 1, ground := Go.Ground.phase }, { on := 2, ground := Go.Ground.phase }, { on := 3, ground := Go.Ground.phase }, { on := 4, ground := Go.Ground.phase }, { on := 5, ground := Go.Ground.phase }, { on := 6, ground := Go.Ground.phase }, { on := 7, ground := Go.Ground.phase }, { on := 8, ground := Go.Ground.phase }, { on := 9, ground := Go.Ground.phase }, { on := 10, ground := Go.Ground.textOnly Go.Departure.lateStores }, { on := 11, ground := Go.Ground.textOnly Go.Departure.lateStores }, { on := 12, ground := Go.Ground.textOnly Go.Departure.lateStores }, { on := 13, ground := Go.Ground.textOnly Go.Departure.lateStores }, { on := 14, ground := Go.Ground.textOnly Go.Departure.lateStoresUnsure }, { on := 15, ground := Go.Ground.phase }], guard := none }) (v := ?v25) rfl (by kernel_rfl) (by kernel_rfl) (by kernel_rfl) (fun _ _ _ h => h) (Or.inl ⟨by rfl, ?hy25⟩) hHeld ?rest25
    case hy25 => (intro w hSw; (try dsimp only at hSw); go_simp; (first | done | with_reducible rfl))
    try simp only [Act.put, List.setIfInBounds_toArray, List.set_cons_zero, List.set_cons_succ]
    refine wpAnyH_take (i := 17) (oi := { dst := some 14, op := Go.Op.assign (Go.Operand.tmp 69), type := 4, pos := "law.go:91", after := #[{ on := 14, ground := Go.Ground.data }, { on := 16, ground := Go.Ground.chain }, { on := 0, ground := Go.Ground.phase }, { on := 1, ground := Go.Ground.phase }, { on := 2, ground := Go.Ground.phase }, { on := 3, ground := Go.Ground.phase }, { on := 4, ground := Go.Ground.phase }, { on := 5, ground := Go.Ground.phase }, { on := 6, ground := Go.Ground.phase }, { on := 7, ground := Go.Ground.phase }, { on := 8, ground := Go.Ground.phase }, { on := 9, ground := Go.Ground.phase }, { on := 10, ground := Go.Ground.phase }, { on := 11, ground := Go.Ground.phase }, { on := 12, ground := Go.Ground.phase }, { on := 13, ground := Go.Ground.phase }, { on := 14, ground := Go.Ground.phase }, { on := 15, ground := Go.Ground.phase }, { on := 16, ground := Go.Ground.phase }], guard := none }) (v := ?v26) rfl (by kernel_rfl) (by kernel_rfl) (by kernel_rfl) (fun _ _ _ h => h) (Or.inl ⟨by rfl, ?hy26⟩) hHeld ?rest26
    case hy26 => (intro w hSw; (try dsimp only at hSw); go_simp; (first | done | with_reducible rfl))
    try simp only [Act.put, List.setIfInBounds_toArray, List.set_cons_zero, List.set_cons_succ]
    refine wpAnyH_done (by kernel_rfl) ?_ _
    go_wp2_with fail
    try simp only [Act.put, List.setIfInBounds_toArray, List.set_cons_zero, List.set_cons_succ]
    have hq27 : w69.heap.size ≤ w69.drew.heap.size := Nat.le_refl _
    have z28 := (Ext.refl w69).drew.size
    replace E := E.trans (Ext.refl w69).drew
    replace LB5 := LB5.ext (Ext.refl w69).drew
    replace cB5_1 := cell_ext ((Ext.refl w69).drew) cB5_1
    replace HV := HV.ext (Ext.refl w69).drew
    replace LB11 := LB11.ext (Ext.refl w69).drew
    refine wp_region_held_drew (S := (fun w' => Lay 8 w' B11 (.agg #[c1, c2, c3, c4, c5, c6, c7, c8]))) (by kernel_rfl) LB11 (fun hHeld => ?_)
    refine wpAnyH_take (i := 0) (oi := { dst := some 70, op := Go.Op.move (Go.Operand.tmp 12), type := 4, pos := "law.go:92", after := #[], guard := none }) (v := ?v29) rfl (by kernel_rfl) (by kernel_rfl) (by kernel_rfl) (fun _ _ _ h => h) (Or.inl ⟨by rfl, ?hy29⟩) hHeld ?rest29
    case hy29 => (intro w hSw; (try dsimp only at hSw); go_simp; (first | done | with_reducible rfl))
    try simp only [Act.put, List.setIfInBounds_toArray, List.set_cons_zero, List.set_cons_succ]
    refine wpAnyH_take (i := 1) (oi := { dst := some 71, op := Go.Op.load 41 (Go.Operand.tmp 11), type := 41, pos := "law.go:92", after := #[], guard := none }) (v := (.agg #[c1, c2, c3, c4, c5, c6, c7, c8])) rfl (by kernel_rfl) (by kernel_rfl) (by kernel_rfl) (fun _ _ _ h => h) (yieldV (by rfl) rfl rfl fun w' hx => hx) hHeld ?_
    try simp only [Act.put, List.setIfInBounds_toArray, List.set_cons_zero, List.set_cons_succ]
    refine wpAnyH_take (i := 2) (oi := { dst := some 72, op := Go.Op.move (Go.Operand.tmp 2), type := 3, pos := "law.go:92", after := #[], guard := none }) (v := ?v31) rfl (by kernel_rfl) (by kernel_rfl) (by kernel_rfl) (fun _ _ _ h => h) (Or.inl ⟨by rfl, ?hy31⟩) hHeld ?rest31
    case hy31 => (intro w hSw; (try dsimp only at hSw); go_simp; (first | done | with_reducible rfl))
    try simp only [Act.put, List.setIfInBounds_toArray, List.set_cons_zero, List.set_cons_succ]
    refine wpAnyH_take (i := 3) (oi := { dst := some 73, op := Go.Op.move (Go.Operand.tmp 1), type := 3, pos := "law.go:92", after := #[], guard := none }) (v := ?v32) rfl (by kernel_rfl) (by kernel_rfl) (by kernel_rfl) (fun _ _ _ h => h) (Or.inl ⟨by rfl, ?hy32⟩) hHeld ?rest32
    case hy32 => (intro w hSw; (try dsimp only at hSw); go_simp; (first | done | with_reducible rfl))
    try simp only [Act.put, List.setIfInBounds_toArray, List.set_cons_zero, List.set_cons_succ]
    refine wpAnyH_take (i := 4) (oi := { dst := some 74, op := Go.Op.move (Go.Operand.tmp 4), type := 4, pos := "law.go:92", after := #[], guard := none }) (v := ?v33) rfl (by kernel_rfl) (by kernel_rfl) (by kernel_rfl) (fun _ _ _ h => h) (Or.inl ⟨by rfl, ?hy33⟩) hHeld ?rest33
    case hy33 => (intro w hSw; (try dsimp only at hSw); go_simp; (first | done | with_reducible rfl))
    try simp only [Act.put, List.setIfInBounds_toArray, List.set_cons_zero, List.set_cons_succ]
    refine wpAnyH_take (i := 7) (oi := { dst := some 77, op := Go.Op.move (Go.Operand.tmp 1), type := 3, pos := "law.go:92", after := #[], guard := none }) (v := ?v34) rfl (by kernel_rfl) (by kernel_rfl) (by kernel_rfl) (fun _ _ _ h => h) (Or.inl ⟨by rfl, ?hy34⟩) hHeld ?rest34
    case hy34 => (intro w hSw; (try dsimp only at hSw); go_simp; (first | done | with_reducible rfl))
    try simp only [Act.put, List.setIfInBounds_toArray, List.set_cons_zero, List.set_cons_succ]
    refine wpAnyH_take (i := 8) (oi := { dst := some 78, op := Go.Op.move (Go.Operand.tmp 2), type := 3, pos := "law.go:92", after := #[], guard := none }) (v := ?v35) rfl (by kernel_rfl) (by kernel_rfl) (by kernel_rfl) (fun _ _ _ h => h) (Or.inl ⟨by rfl, ?hy35⟩) hHeld ?rest35
    case hy35 => (intro w hSw; (try dsimp only at hSw); go_simp; (first | done | with_reducible rfl))
    try simp only [Act.put, List.setIfInBounds_toArray, List.set_cons_zero, List.set_cons_succ]
    refine wpAnyH_take (i := 9) (oi := { dst := some 79, op := Go.Op.binOp Go.BinOp.neq 3 (Go.Operand.tmp 77) (Go.Operand.tmp 78) 3, type := 4, pos := "law.go:92", after := #[{ on := 7, ground := Go.Ground.data }, { on := 8, ground := Go.Ground.data }], guard := none }) (v := ?v36) rfl (by kernel_rfl) (by kernel_rfl) (by kernel_rfl) (fun _ _ _ h => h) (Or.inl ⟨by rfl, ?hy36⟩) hHeld ?rest36
    case hy36 => (intro w hSw; (try dsimp only at hSw); go_simp; (first | done | with_reducible rfl))
    try simp only [Act.put, List.setIfInBounds_toArray, List.set_cons_zero, List.set_cons_succ]
    refine wpAnyH_ready (rs := [5]) (by kernel_rfl) (by simp) ?_
    refine AllReadyH.cons (o := { dst := some 75, op := Go.Op.call { callee := Go.Callee.value (Go.Operand.func 19), args := #[Go.Operand.tmp 71, Go.Operand.const (Go.Value.int Go.IntKind.i64 1), Go.Operand.tmp 72, Go.Operand.tmp 73, Go.Operand.tmp 74], argTypes := #[41, 3, 3, 3, 4] }, type := 4, pos := "law.go:92", after := #[{ on := 1, ground := Go.Ground.data }, { on := 2, ground := Go.Ground.data }, { on := 3, ground := Go.Ground.data }, { on := 4, ground := Go.Ground.data }], guard := none }) rfl (fun K hK => ?_) (AllReadyH.nil)
    go_simp
    refine (kld _ _ HV.is).mono ?_
    rintro e w75 ⟨rfl, x⟩
    have z37 := x.size
    replace E := E.trans x
    replace LB5 := LB5.ext x
    replace cB5_1 := cell_ext (x) cB5_1
    replace HV := HV.ext x
    replace LB11 := LB11.ext x
    clear x
    clear hHeld
    have hHeld := LB11
    refine hK.out _ _ hHeld (fun _ => ?_)
    clear hK K
    try simp only [Act.put, List.setIfInBounds_toArray, List.set_cons_zero, List.set_cons_succ]
    refine wpAnyH_take (i := 6) (oi := { dst := some 76, op := Go.Op.binOp Go.BinOp.neq 4 (Go.Operand.tmp 70) (Go.Operand.tmp 75) 4, type := 4, pos := "law.go:92", after := #[{ on := 0, ground := Go.Ground.data }, { on := 5, ground := Go.Ground.data }], guard := none }) (v := ?v38) rfl (by kernel_rfl) (by kernel_rfl) (by kernel_rfl) (fun _ _ _ h => h) (Or.inl ⟨by rfl, ?hy38⟩) hHeld ?rest38
    case hy38 => (intro w hSw; (try dsimp only at hSw); go_simp; (first | done | with_reducible rfl))
    try simp only [Act.put, List.setIfInBounds_toArray, List.set_cons_zero, List.set_cons_succ]
    refine wpAnyH_take (i := 10) (oi := { dst := some 80, op := Go.Op.binOp Go.BinOp.eql 4 (Go.Operand.tmp 76) (Go.Operand.tmp 79) 4, type := 4, pos := "law.go:92", after := #[{ on := 6, ground := Go.Ground.data }, { on := 9, ground := Go.Ground.data }], guard := none }) (v := ?v39) rfl (by kernel_rfl) (by kernel_rfl) (by kernel_rfl) (fun _ _ _ h => h) (Or.inl ⟨by rfl, ?hy39⟩) hHeld ?rest39
    case hy39 => (intro w hSw; (try dsimp only at hSw); go_simp; (first | done | with_reducible rfl))
    try simp only [Act.put, List.setIfInBounds_toArray, List.set_cons_zero, List.set_cons_succ]
    refine wpAnyH_take (i := 11) (oi := { dst := some 81, op := Go.Op.move (Go.Operand.tmp 80), type := 4, pos := "law.go:92", after := #[{ on := 10, ground := Go.Ground.data }, { on := 5, ground := Go.Ground.chain }], guard := none }) (v := ?v40) rfl (by kernel_rfl) (by kernel_rfl) (by kernel_rfl) (fun _ _ _ h => h) (Or.inl ⟨by rfl, ?hy40⟩) hHeld ?rest40
    case hy40 => (intro w hSw; (try dsimp only at hSw); go_simp; (first | done | with_reducible rfl))
    try simp only [Act.put, List.setIfInBounds_toArray, List.set_cons_zero, List.set_cons_succ]
    refine wpAnyH_take (i := 12) (oi := { dst := some 82, op := Go.Op.move (Go.Operand.tmp 12), type := 4, pos := "law.go:92", after := #[{ on := 11, ground := Go.Ground.guard }], guard := some (11, true) }) (v := ?v41) rfl (by kernel_rfl) (by kernel_rfl) (by kernel_rfl) (fun _ _ _ h => h) (Or.inl ⟨by rfl, ?hy41⟩) hHeld ?rest41
    case hy41 => (intro w hSw; (try dsimp only at hSw); go_simp; (first | done | with_reducible rfl))
    try simp only [Act.put, List.setIfInBounds_toArray, List.set_cons_zero, List.set_cons_succ]
    refine wpAnyH_take (i := 13) (oi := { dst := some 83, op := Go.Op.unOp Go.UnOp.not 4 (Go.Operand.tmp 82), type := 4, pos := "law.go:92", after := #[{ on := 12, ground := Go.Ground.data }, { on := 11, ground := Go.Ground.guard }], guard := some (11, true) }) (v := ?v42) rfl (by kernel_rfl) (by kernel_rfl) (by kernel_rfl) (fun _ _ _ h => h) (Or.inl ⟨by rfl, ?hy42⟩) hHeld ?rest42
    case hy42 => (intro w hSw; (try dsimp only at hSw); go_simp; (first | done | with_reducible rfl))
    try simp only [Act.put, List.setIfInBounds_toArray, List.set_cons_zero, List.set_cons_succ]
    refine wpAnyH_take (i := 14) (oi := { dst := some 84, op := Go.Op.move (Go.Operand.tmp 83), type := 4, pos := "law.go:92", after := #[{ on := 13, ground := Go.Ground.data }, { on := 11, ground := Go.Ground.chain }, { on := 11, ground := Go.Ground.guard }], guard := some (11, true) }) (v := ?v43) rfl (by kernel_rfl) (by kernel_rfl) (by kernel_rfl) (fun _ _ _ h => h) (Or.inl ⟨by rfl, ?hy43⟩) hHeld ?rest43
    case hy43 => (intro w hSw; (try dsimp only at hSw); go_simp; (first | done | with_reducible rfl))
    try simp only [Act.put, List.setIfInBounds_toArray, List.set_cons_zero, List.set_cons_succ]
    refine wpAnyH_take (i := 15) (oi := { dst := some 85, op := Go.Op.move (Go.Operand.tmp 13), type := 4, pos := "law.go:92", after := #[{ on := 14, ground := Go.Ground.guard }], guard := some (14, false) }) (v := ?v44) rfl (by kernel_rfl) (by kernel_rfl) (by kernel_rfl) (fun _ _ _ h => h) (Or.inl ⟨by rfl, ?hy44⟩) hHeld ?rest44
    case hy44 => (intro w hSw; (try dsimp only at hSw); go_simp; (first | done | with_reducible rfl))
    try simp only [Act.put, List.setIfInBounds_toArray, List.set_cons_zero, List.set_cons_succ]
    refine wpAnyH_take (i := 16) (oi := { dst := some 86, op := Go.Op.unOp Go.UnOp.not 4 (Go.Operand.tmp 85), type := 4, pos := "law.go:92", after := #[{ on := 15, ground := Go.Ground.data }, { on := 14, ground := Go.Ground.guard }], guard := some (14, false) }) (v := ?v45) rfl (by kernel_rfl) (by kernel_rfl) (by kernel_rfl) (fun _ _ _ h => h) (Or.inl ⟨by rfl, ?hy45⟩) hHeld ?rest45
    case hy45 => (intro w hSw; (try dsimp only at hSw); go_simp; (first | done | with_reducible rfl))
    try simp only [Act.put, List.setIfInBounds_toArray, List.set_cons_zero, List.set_cons_succ]
    refine wpAnyH_take (i := 17) (oi := { dst := some 87, op := Go.Op.pick (Go.Operand.tmp 84) (Go.Operand.const (Go.Value.bool true)) (Go.Operand.tmp 86), type := 4, pos := "law.go:92", after := #[{ on := 14, ground := Go.Ground.data }, { on := 16, ground := Go.Ground.data }, { on := 11, ground := Go.Ground.guard }], guard := some (11, true) }) (v := ?v46) rfl (by kernel_rfl) (by kernel_rfl) (by kernel_rfl) (fun _ _ _ h => h) (Or.inl ⟨by rfl, ?hy46⟩) hHeld ?rest46
    case hy46 => (intro w hSw; (try dsimp only at hSw); go_simp; (first | done | with_reducible rfl))
    try simp only [Act.put, List.setIfInBounds_toArray, List.set_cons_zero, List.set_cons_succ]
    refine wpAnyH_take (i := 18) (oi := { dst := some 88, op := Go.Op.move (Go.Operand.tmp 87), type := 4, pos := "law.go:92", after := #[{ on := 17, ground := Go.Ground.data }, { on := 14, ground := Go.Ground.chain }, { on := 11, ground := Go.Ground.guard }], guard := some (11, true) }) (v := ?v47) rfl (by kernel_rfl) (by kernel_rfl) (by kernel_rfl) (fun _ _ _ h => h) (Or.inl ⟨by rfl, ?hy47⟩) hHeld ?rest47
    case hy47 => (intro w hSw; (try dsimp only at hSw); go_simp; (first | done | with_reducible rfl))
    try simp only [Act.put, List.setIfInBounds_toArray, List.set_cons_zero, List.set_cons_succ]
    refine wpAnyH_take (i := 19) (oi := { dst := some 89, op := Go.Op.move (Go.Operand.tmp 14), type := 4, pos := "law.go:92", after := #[{ on := 18, ground := Go.Ground.guard }], guard := some (18, false) }) (v := undef) rfl (by kernel_rfl) (by kernel_rfl) (by kernel_rfl) (fun _ _ _ h => h) (Or.inr ⟨by rfl, rfl⟩) hHeld ?_
    try simp only [Act.put, List.setIfInBounds_toArray, List.set_cons_zero, List.set_cons_succ]
    refine wpAnyH_take (i := 20) (oi := { dst := some 90, op := Go.Op.pick (Go.Operand.tmp 88) (Go.Operand.const (Go.Value.bool true)) (Go.Operand.tmp 89), type := 4, pos := "law.go:92", after := #[{ on := 18, ground := Go.Ground.data }, { on := 19, ground := Go.Ground.data }, { on := 11, ground := Go.Ground.guard }], guard := some (11, true) }) (v := ?v49) rfl (by kernel_rfl) (by kernel_rfl) (by kernel_rfl) (fun _ _ _ h => h) (Or.inl ⟨by rfl, ?hy49⟩) hHeld ?rest49
    case hy49 => (intro w hSw; (try dsimp only at hSw); go_simp; (first | done | with_reducible rfl))
    try simp only [Act.put, List.setIfInBounds_toArray, List.set_cons_zero, List.set_cons_succ]
    refine wpAnyH_take (i := 21) (oi := { dst := some 91, op := Go.Op.pick (Go.Operand.tmp 81) (Go.Operand.tmp 90) (Go.Operand.const (Go.Value.bool false)), type := 4, pos := "law.go:92", after := #[{ on := 11, ground := Go.Ground.data }, { on := 20, ground := Go.Ground.data }], guard := none }) (v := ?v50) rfl (by kernel_rfl) (by kernel_rfl) (by kernel_rfl) (fun _ _ _ h => h) (Or.inl ⟨by rfl, ?hy50⟩) hHeld ?rest50
    case hy50 => (intro w hSw; (try dsimp only at hSw); go_simp; (first | done | with_reducible rfl))
    try simp only [Act.put, List.setIfInBounds_toArray, List.set_cons_zero, List.set_cons_succ]
    refine wpAnyH_take (i := 22) (oi := { dst := some 92, op := Go.Op.move (Go.Operand.tmp 91), type := 4, pos := "law.go:92", after := #[{ on := 21, ground := Go.Ground.data }, { on := 18, ground := Go.Ground.chain }], guard := none }) (v := ?v51) rfl (by kernel_rfl) (by kernel_rfl) (by kernel_rfl) (fun _ _ _ h => h) (Or.inl ⟨by rfl, ?hy51⟩) hHeld ?rest51
    case hy51 => (intro w hSw; (try dsimp only at hSw); go_simp; (first | done | with_reducible rfl))
    try simp only [Act.put, List.setIfInBounds_toArray, List.set_cons_zero, List.set_cons_succ]
    refine wpAnyH_take (i := 23) (oi := { dst := some 93, op := Go.Op.load 41 (Go.Operand.tmp 11), type := 41, pos := "law.go:92", after := #[{ on := 22, ground := Go.Ground.guard }], guard := some (22, true) }) (v := (.agg #[c1, c2, c3, c4, c5, c6, c7, c8])) rfl (by kernel_rfl) (by kernel_rfl) (by kernel_rfl) (fun _ _ _ h => h) (yieldV (by rfl) rfl rfl fun w' hx => hx) hHeld ?_
    try simp only [Act.put, List.setIfInBounds_toArray, List.set_cons_zero, List.set_cons_succ]
    refine wpAnyH_take (i := 24) (oi := { dst := some 94, op := Go.Op.move (Go.Operand.tmp 1), type := 3, pos := "law.go:92", after := #[{ on := 22, ground := Go.Ground.guard }], guard := some (22, true) }) (v := ?v53) rfl (by kernel_rfl) (by kernel_rfl) (by kernel_rfl) (fun _ _ _ h => h) (Or.inl ⟨by rfl, ?hy53⟩) hHeld ?rest53
    case hy53 => (intro w hSw; (try dsimp only at hSw); go_simp; (first | done | with_reducible rfl))
    try simp only [Act.put, List.setIfInBounds_toArray, List.set_cons_zero, List.set_cons_succ]
    refine wpAnyH_take (i := 25) (oi := { dst := some 95, op := Go.Op.move (Go.Operand.tmp 2), type := 3, pos := "law.go:92", after := #[{ on := 22, ground := Go.Ground.guard }], guard := some (22, true) }) (v := ?v54) rfl (by kernel_rfl) (by kernel_rfl) (by kernel_rfl) (fun _ _ _ h => h) (Or.inl ⟨by rfl, ?hy54⟩) hHeld ?rest54
    case hy54 => (intro w hSw; (try dsimp only at hSw); go_simp; (first | done | with_reducible rfl))
    try simp only [Act.put, List.setIfInBounds_toArray, List.set_cons_zero, List.set_cons_succ]
    refine wpAnyH_take (i := 27) (oi := { dst := some 97, op := Go.Op.load 41 (Go.Operand.tmp 11), type := 41, pos := "law.go:92", after := #[{ on := 22, ground := Go.Ground.guard }], guard := some (22, true) }) (v := (.agg #[c1, c2, c3, c4, c5, c6, c7, c8])) rfl (by kernel_rfl) (by kernel_rfl) (by kernel_rfl) (fun _ _ _ h => h) (yieldV (by rfl) rfl rfl fun w' hx => hx) hHeld ?_
    try simp only [Act.put, List.setIfInBounds_toArray, List.set_cons_zero, List.set_cons_succ]
    refine wpAnyH_take (i := 28) (oi := { dst := some 98, op := Go.Op.move (Go.Operand.tmp 2), type := 3, pos := "law.go:92", after := #[{ on := 22, ground := Go.Ground.guard }], guard := some (22, true) }) (v := ?v56) rfl (by kernel_rfl) (by kernel_rfl) (by kernel_rfl) (fun _ _ _ h => h) (Or.inl ⟨by rfl, ?hy56⟩) hHeld ?rest56
    case hy56 => (intro w hSw; (try dsimp only at hSw); go_simp; (first | done | with_reducible rfl))
    try simp only [Act.put, List.setIfInBounds_toArray, List.set_cons_zero, List.set_cons_succ]
    refine wpAnyH_take (i := 29) (oi := { dst := some 99, op := Go.Op.move (Go.Operand.tmp 1), type := 3, pos := "law.go:92", after := #[{ on := 22, ground := Go.Ground.guard }], guard := some (22, true) }) (v := ?v57) rfl (by kernel_rfl) (by kernel_rfl) (by kernel_rfl) (fun _ _ _ h => h) (Or.inl ⟨by rfl, ?hy57⟩) hHeld ?rest57
    case hy57 => (intro w hSw; (try dsimp only at hSw); go_simp; (first | done | with_reducible rfl))
    try simp only [Act.put, List.setIfInBounds_toArray, List.set_cons_zero, List.set_cons_succ]
    refine wpAnyH_ready (rs := [26]) (by kernel_rfl) (by simp) ?_
    refine AllReadyH.cons (o := { dst := some 96, op := Go.Op.call { callee := Go.Callee.value (Go.Operand.func 17), args := #[Go.Operand.tmp 93, Go.Operand.const (Go.Value.int Go.IntKind.i64 1), Go.Operand.tmp 94, Go.Operand.tmp 95], argTypes := #[41, 3, 3, 3] }, type := 3, pos := "law.go:92", after := #[{ on := 23, ground := Go.Ground.data }, { on := 24, ground := Go.Ground.data }, { on := 25, ground := Go.Ground.data }, { on := 22, ground := Go.Ground.chain }, { on := 22, ground := Go.Ground.guard }], guard := some (22, true) }) rfl (fun K hK => ?_) (AllReadyH.nil)
    go_simp
    refine (kca _ _ HV.is).mono ?_
    rintro e w96 ⟨rfl, x⟩
    have z58 := x.size
    replace E := E.trans x
    replace LB5 := LB5.ext x
    replace cB5_1 := cell_ext (x) cB5_1
    replace HV := HV.ext x
    replace LB11 := LB11.ext x
    clear x
    clear hHeld
    have hHeld := LB11
    refine hK.out _ _ hHeld (fun _ => ?_)
    clear hK K
    try simp only [Act.put, List.setIfInBounds_toArray, List.set_cons_zero, List.set_cons_succ]
    refine wpAnyH_ready (rs := [30]) (by kernel_rfl) (by simp) ?_
    refine AllReadyH.cons (o := { dst := some 100, op := Go.Op.call { callee := Go.Callee.value (Go.Operand.func 17), args := #[Go.Operand.tmp 97, Go.Operand.const (Go.Value.int Go.IntKind.i64 1), Go.Operand.tmp 98, Go.Operand.tmp 99], argTypes := #[41, 3, 3, 3] }, type := 3, pos := "law.go:92", after := #[{ on := 27, ground := Go.Ground.data }, { on := 28, ground := Go.Ground.data }, { on := 29, ground := Go.Ground.data }, { on := 26, ground := Go.Ground.chain }, { on := 22, ground := Go.Ground.guard }], guard := some (22, true) }) rfl (fun K hK => ?_) (AllReadyH.nil)
    go_simp
    refine (kcb _ _ HV.is).mono ?_
    rintro e w100 ⟨rfl, x⟩
    have z59 := x.size
    replace E := E.trans x
    replace LB5 := LB5.ext x
    replace cB5_1 := cell_ext (x) cB5_1
    replace HV := HV.ext x
    replace LB11 := LB11.ext x
    clear x
    clear hHeld
    have hHeld := LB11
    refine hK.out _ _ hHeld (fun _ => ?_)
    clear hK K
    try simp only [Act.put, List.setIfInBounds_toArray, List.set_cons_zero, List.set_cons_succ]
    refine wpAnyH_take (i := 31) (oi := { dst := some 101, op := Go.Op.unOp Go.UnOp.neg 3 (Go.Operand.tmp 100), type := 3, pos := "law.go:92", after := #[{ on := 30, ground := Go.Ground.data }, { on := 22, ground := Go.Ground.guard }], guard := some (22, true) }) (v := ?v60) rfl (by kernel_rfl) (by kernel_rfl) (by kernel_rfl) (fun _ _ _ h => h) (Or.inl ⟨by rfl, ?hy60⟩) hHeld ?rest60
    case hy60 => (intro w hSw; (try dsimp only at hSw); go_simp; (first | done | with_reducible rfl))
    try simp only [Act.put, List.setIfInBounds_toArray, List.set_cons_zero, List.set_cons_succ]
    refine wpAnyH_take (i := 32) (oi := { dst := some 102, op := Go.Op.binOp Go.BinOp.eql 3 (Go.Operand.tmp 96) (Go.Operand.tmp 101) 3, type := 4, pos := "law.go:92", after := #[{ on := 26, ground := Go.Ground.data }, { on := 31, ground := Go.Ground.data }, { on := 22, ground := Go.Ground.guard }], guard := some (22, true) }) (v := ?v61) rfl (by kernel_rfl) (by kernel_rfl) (by kernel_rfl) (fun _ _ _ h => h) (Or.inl ⟨by rfl, ?hy61⟩) hHeld ?rest61
    case hy61 => (intro w hSw; (try dsimp only at hSw); go_simp; (first | done | with_reducible rfl))
    try simp only [Act.put, List.setIfInBounds_toArray, List.set_cons_zero, List.set_cons_succ]
    refine wpAnyH_take (i := 33) (oi := { dst := some 103, op := Go.Op.pick (Go.Operand.tmp 92) (Go.Operand.tmp 102) (Go.Operand.const (Go.Value.bool false)), type := 4, pos := "law.go:92", after := #[{ on := 22, ground := Go.Ground.data }, { on := 32, ground := Go.Ground.data }], guard := none }) (v := ?v62) rfl (by kernel_rfl) (by kernel_rfl) (by kernel_rfl) (fun _ _ _ h => h) (Or.inl ⟨by rfl, ?hy62⟩) hHeld ?rest62
    case hy62 => (intro w hSw; (try dsimp only at hSw); go_simp; (first | done | with_reducible rfl))
    try simp only [Act.put, List.setIfInBounds_toArray, List.set_cons_zero, List.set_cons_succ]
    refine wpAnyH_take (i := 34) (oi := { dst := some 104, op := Go.Op.move (Go.Operand.tmp 103), type := 4, pos := "law.go:92", after := #[{ on := 33, ground := Go.Ground.data }, { on := 30, ground := Go.Ground.chain }], guard := none }) (v := ?v63) rfl (by kernel_rfl) (by kernel_rfl) (by kernel_rfl) (fun _ _ _ h => h) (Or.inl ⟨by rfl, ?hy63⟩) hHeld ?rest63
    case hy63 => (intro w hSw; (try dsimp only at hSw); go_simp; (first | done | with_reducible rfl))
    try simp only [Act.put, List.setIfInBounds_toArray, List.set_cons_zero, List.set_cons_succ]
    refine wpAnyH_ready (rs := [35]) (by kernel_rfl) (by simp) ?_
    refine AllReadyH.cons (o := { dst := some 105, op := Go.Op.call { callee := Go.Callee.value (Go.Operand.func 11), args := #[], argTypes := #[] }, type := 4, pos := "law.go:92", after := #[{ on := 34, ground := Go.Ground.chain }, { on := 34, ground := Go.Ground.guard }], guard := some (34, true) }) rfl (fun K hK => ?_) (AllReadyH.nil)
    go_simp
    rw [if_pos (by rw [IntKind.wrap_i64]; omega)]
    refine (oawake_any _).mono ?_
    rintro e w105 ⟨rfl, x⟩
    have z64 := x.size
    replace E := E.trans x
    replace LB5 := LB5.ext x
    replace cB5_1 := cell_ext (x) cB5_1
    replace HV := HV.ext x
    replace LB11 := LB11.ext x
    clear x
    clear hHeld
    have hHeld := LB11
    refine hK.out _ _ hHeld (fun _ => ?_)
    clear hK K
    try simp only [Act.put, List.setIfInBounds_toArray, List.set_cons_zero, List.set_cons_succ]
    refine wpAnyH_take (i := 36) (oi := { dst := some 106, op := Go.Op.pick (Go.Operand.tmp 104) (Go.Operand.tmp 105) (Go.Operand.const (Go.Value.bool false)), type := 4, pos := "law.go:92", after := #[{ on := 34, ground := Go.Ground.data }, { on := 35, ground := Go.Ground.data }], guard := none }) (v := ?v65) rfl (by kernel_rfl) (by kernel_rfl) (by kernel_rfl) (fun _ _ _ h => h) (Or.inl ⟨by rfl, ?hy65⟩) hHeld ?rest65
    case hy65 => (intro w hSw; (try dsimp only at hSw); go_simp; (first | done | with_reducible rfl))
    try simp only [Act.put, List.setIfInBounds_toArray, List.set_cons_zero, List.set_cons_succ]
    refine wpAnyH_take (i := 37) (oi := { dst := some 10, op := Go.Op.assign (Go.Operand.tmp 106), type := 4, pos := "law.go:92", after := #[{ on := 36, ground := Go.Ground.data }, { on := 35, ground := Go.Ground.chain }, { on := 0, ground := Go.Ground.phase }, { on := 1, ground := Go.Ground.phase }, { on := 2, ground := Go.Ground.phase }, { on := 3, ground := Go.Ground.phase }, { on := 4, ground := Go.Ground.phase }, { on := 5, ground := Go.Ground.phase }, { on := 6, ground := Go.Ground.phase }, { on := 7, ground := Go.Ground.phase }, { on := 8, ground := Go.Ground.phase }, { on := 9, ground := Go.Ground.phase }, { on := 10, ground := Go.Ground.phase }, { on := 11, ground := Go.Ground.phase }, { on := 12, ground := Go.Ground.phase }, { on := 13, ground := Go.Ground.phase }, { on := 14, ground := Go.Ground.phase }, { on := 15, ground := Go.Ground.phase }, { on := 16, ground := Go.Ground.phase }, { on := 17, ground := Go.Ground.phase }, { on := 18, ground := Go.Ground.phase }, { on := 19, ground := Go.Ground.phase }, { on := 20, ground := Go.Ground.phase }, { on := 21, ground := Go.Ground.phase }, { on := 22, ground := Go.Ground.phase }, { on := 23, ground := Go.Ground.phase }, { on := 24, ground := Go.Ground.phase }, { on := 25, ground := Go.Ground.phase }, { on := 26, ground := Go.Ground.phase }, { on := 27, ground := Go.Ground.phase }, { on := 28, ground := Go.Ground.phase }, { on := 29, ground := Go.Ground.phase }, { on := 30, ground := Go.Ground.phase }, { on := 31, ground := Go.Ground.phase }, { on := 32, ground := Go.Ground.phase }, { on := 33, ground := Go.Ground.phase }, { on := 34, ground := Go.Ground.phase }, { on := 35, ground := Go.Ground.phase }, { on := 36, ground := Go.Ground.phase }], guard := none }) (v := ?v66) rfl (by kernel_rfl) (by kernel_rfl) (by kernel_rfl) (fun _ _ _ h => h) (Or.inl ⟨by rfl, ?hy66⟩) hHeld ?rest66
    case hy66 => (intro w hSw; (try dsimp only at hSw); go_simp; (first | done | with_reducible rfl))
    try simp only [Act.put, List.setIfInBounds_toArray, List.set_cons_zero, List.set_cons_succ]
    refine wpAnyH_done (by kernel_rfl) ?_ _
    go_wp2_with fail
    go_ret
    have e102 : (-cz == IntKind.i64.wrap (-cz)) = true := by rw [IntKind.wrap_i64]; simp; omega
    exact ⟨by show Ending.returned (.bool (-cz == IntKind.i64.wrap (-cz))) = _; rw [e102], E⟩
theorem ototal_m4 (sA : Option Addr) (ns sc : Nat) (iA : Option Addr) (m ic : Nat) (fl zc : Int) (w : World)
    (cg : ∀ w', Ext w w' → Calls Try.prog 14 #[(.agg #[.slice sA ns sc, .slice iA m ic, .int .i64 fl])] w' (GoodB m zc fl w')) (i j k : Int) (down : Bool) (X : List Int) (co : zc = 0 → fl < 2 → ∀ w', Ext w w' → Calls Try.prog 16 #[(.agg #[.slice sA ns sc, .slice iA m ic, .int .i64 fl])] w' (OfA X w')) (h1 : ¬ (i < 0)) (h2 : ¬ (j < 0)) (h3 : ¬ (k < 0)) (h4 : ¬ ((m : Int) ≤ i)) (h5 : ¬ ((m : Int) ≤ j)) (h6 : ¬ ((m : Int) ≤ k)) (c : Bool) (cz : Int) (hc1 : -1 ≤ cz) (hc2 : cz ≤ 1) (e79 : (i != j) = false)
    (kla : ∀ v w', OV w' v X → Calls Try.prog 19 #[v, .int .i64 1, .int .i64 i, .int .i64 j, .bool down] w' fun e w2 => e = .returned (.bool true) ∧ Ext w' w2) (klb : ∀ v w', OV w' v X → Calls Try.prog 19 #[v, .int .i64 1, .int .i64 j, .int .i64 k, .bool down] w' fun e w2 => e = .returned (.bool false) ∧ Ext w' w2) (klc : ∀ v w', OV w' v X → Calls Try.prog 19 #[v, .int .i64 1, .int .i64 i, .int .i64 k, .bool down] w' fun e w2 => e = .returned (.bool c) ∧ Ext w' w2) (kld : ∀ v w', OV w' v X → Calls Try.prog 19 #[v, .int .i64 1, .int .i64 j, .int .i64 i, .bool down] w' fun e w2 => e = .returned (.bool true) ∧ Ext w' w2) (kca : ∀ v w', OV w' v X → Calls Try.prog 17 #[v, .int .i64 1, .int .i64 i, .int .i64 j] w' fun e w2 => e = .returned (.int .i64 (-cz)) ∧ Ext w' w2) (kcb : ∀ v w', OV w' v X → Calls Try.prog 17 #[v, .int .i64 1, .int .i64 j, .int .i64 i] w' fun e w2 => e = .returned (.int .i64 (cz)) ∧ Ext w' w2)  : Calls Try.prog 6 #[(.agg #[.slice sA ns sc, .slice iA m ic, .int .i64 fl]), .int .i64 i, .int .i64 j, .int .i64 k, .bool down] w fun e w' => e = .returned (.bool true) ∧ Ext w w' := by
  have hF := pl_flat sA ns sc iA m ic fl
  have E := Ext.refl w
  have e20 : decide (i < 0) = false := decide_eq_false h1
  have e24 : decide (j < 0) = false := decide_eq_false h2
  have e28 : decide (k < 0) = false := decide_eq_false h3
  have e35 : decide ((m : Int) ≤ i) = false := decide_eq_false h4
  have e42 : decide ((m : Int) ≤ j) = false := decide_eq_false h5
  have e49 : decide ((m : Int) ≤ k) = false := decide_eq_false h6
  clear h1 h2 h3 h4 h5 h6
  go_enter Try.func6, Try.ntmps6
  have TB5 : True := trivial
  go_wp2_with (first | (clear TB5; refine boxsP (v := (.agg #[.slice sA ns sc, .slice iA m ic, .int .i64 fl])) rfl rfl rfl hF ?_; intro B5 w5 bB5 cB5 XB5 LB5 RB5; have z1 := XB5.size; replace E := E.trans XB5; have cB5_1 := lay_cell LB5 (j := 1) rfl; clear RB5) | (refine loadsP (B := B5) (by rfl) rfl rfl LB5 ?_))
  refine (cg _ E).mono ?_
  rintro e w16 ⟨g, rfl, hg, x⟩
  cases g
  · have z2 := x.size
    replace E := E.trans x
    replace LB5 := LB5.ext x
    replace cB5_1 := cell_ext (x) cB5_1
    clear x
    go_wp2_with fail
    refine (oawake_any _).mono ?_
    rintro e w51 ⟨rfl, x⟩
    have z3 := x.size
    replace E := E.trans x
    replace LB5 := LB5.ext x
    replace cB5_1 := cell_ext (x) cB5_1
    clear x
    go_wp2_with fail
    go_ret
    exact ⟨rfl, E⟩
  · obtain ⟨hg1, hg2, hg3⟩ := hg rfl
    have co' := co hg2 hg3
    clear co hg hg2 hg3
    have z2 := x.size
    replace E := E.trans x
    replace LB5 := LB5.ext x
    replace cB5_1 := cell_ext (x) cB5_1
    clear x
    go_wp2_with (refine loadsP (B := B5) (by rfl) rfl rfl LB5 ?_)
    refine (co' _ E).mono ?_
    rintro e w53 ⟨c0, c1, c2, c3, c4, c5, c6, c7, c8, rfl, hf, hq, x⟩
    have HV := hq.now
    have hf8 := flat_tailV hf
    clear hq hf
    have z3 := x.size
    replace E := E.trans x
    replace LB5 := LB5.ext x
    replace cB5_1 := cell_ext (x) cB5_1
    clear x
    have TF54 : True := trivial
    have TB11 : True := trivial
    have TG5 : True := trivial
    go_wp2_with (first | (clear TF54; rw [field9]; simp only [Result.andThen_ok, Oper.upon_value]) | (clear TB11; refine allocsV rfl rfl ?_; intro B11 w11 bB11 cB11 XB11 LB11 RB11; have z4 := XB11.size; replace E := E.trans XB11; replace LB5 := LB5.ext XB11; replace cB5_1 := cell_ext (XB11) cB5_1; replace HV := HV.ext XB11) | (clear TG5; have hRl := (RB11).lt (Nat.zero_lt_succ _); refine storesV (B := B11) rfl rfl rfl (v := (.agg #[c1, c2, c3, c4, c5, c6, c7, c8])) rfl RB11 hf8 ?_; clear LB11; intro s5 G5 LB11 RQ; have z6 := G5.size; replace E := grown_ext E G5 (by omega); replace LB5 := LB5.grown G5 (by omega); replace cB5_1 := cell_grown (G5) cB5_1 (by show B5 ≠ _; omega); replace HV := HV.grown G5 (by first | omega | (dsimp only [New]; omega)); clear RB11; have RB11 := RQ; clear RQ hRl; clear RB11))
    try simp only [Act.put, List.setIfInBounds_toArray, List.set_cons_zero, List.set_cons_succ]
    have hq7 : s5.heap.size ≤ s5.drew.heap.size := Nat.le_refl _
    have z8 := (Ext.refl s5).drew.size
    replace E := E.trans (Ext.refl s5).drew
    replace LB5 := LB5.ext (Ext.refl s5).drew
    replace cB5_1 := cell_ext ((Ext.refl s5).drew) cB5_1
    replace HV := HV.ext (Ext.refl s5).drew
    replace LB11 := LB11.ext (Ext.refl s5).drew
    refine wp_region_held_drew (S := (fun w' => Lay 8 w' B11 (.agg #[c1, c2, c3, c4, c5, c6, c7, c8]))) (by kernel_rfl) LB11 (fun hHeld => ?_)
    refine wpAnyH_take (i := 0) (oi := { dst := some 55, op := Go.Op.load 41 (Go.Operand.tmp 11), type := 41, pos := "law.go:91", after := #[], guard := none }) (v := (.agg #[c1, c2, c3, c4, c5, c6, c7, c8])) rfl (by kernel_rfl) (by kernel_rfl) (by kernel_rfl) (fun _ _ _ h => h) (yieldV (by rfl) rfl rfl fun w' hx => hx) hHeld ?_
    try simp only [Act.put, List.setIfInBounds_toArray, List.set_cons_zero, List.set_cons_succ]
    refine wpAnyH_take (i := 1) (oi := { dst := some 56, op := Go.Op.move (Go.Operand.tmp 1), type := 3, pos := "law.go:91", after := #[], guard := none }) (v := ?v10) rfl (by kernel_rfl) (by kernel_rfl) (by kernel_rfl) (fun _ _ _ h => h) (Or.inl ⟨by rfl, ?hy10⟩) hHeld ?rest10
    case hy10 => (intro w hSw; (try dsimp only at hSw); go_simp; (first | done | with_reducible rfl))
    try simp only [Act.put, List.setIfInBounds_toArray, List.set_cons_zero, List.set_cons_succ]
    refine wpAnyH_take (i := 2) (oi := { dst := some 57, op := Go.Op.move (Go.Operand.tmp 2), type := 3, pos := "law.go:91", after := #[], guard := none }) (v := ?v11) rfl (by kernel_rfl) (by kernel_rfl) (by kernel_rfl) (fun _ _ _ h => h) (Or.inl ⟨by rfl, ?hy11⟩) hHeld ?rest11
    case hy11 => (intro w hSw; (try dsimp only at hSw); go_simp; (first | done | with_reducible rfl))
    try simp only [Act.put, List.setIfInBounds_toArray, List.set_cons_zero, List.set_cons_succ]
    refine wpAnyH_take (i := 3) (oi := { dst := some 58, op := Go.Op.move (Go.Operand.tmp 4), type := 4, pos := "law.go:91", after := #[], guard := none }) (v := ?v12) rfl (by kernel_rfl) (by kernel_rfl) (by kernel_rfl) (fun _ _ _ h => h) (Or.inl ⟨by rfl, ?hy12⟩) hHeld ?rest12
    case hy12 => (intro w hSw; (try dsimp only at hSw); go_simp; (first | done | with_reducible rfl))
    try simp only [Act.put, List.setIfInBounds_toArray, List.set_cons_zero, List.set_cons_succ]
    refine wpAnyH_take (i := 5) (oi := { dst := some 60, op := Go.Op.load 41 (Go.Operand.tmp 11), type := 41, pos := "law.go:91", after := #[], guard := none }) (v := (.agg #[c1, c2, c3, c4, c5, c6, c7, c8])) rfl (by kernel_rfl) (by kernel_rfl) (by kernel_rfl) (fun _ _ _ h => h) (yieldV (by rfl) rfl rfl fun w' hx => hx) hHeld ?_
    try simp only [Act.put, List.setIfInBounds_toArray, List.set_cons_zero, List.set_cons_succ]
    refine wpAnyH_take (i := 6) (oi := { dst := some 61, op := Go.Op.move (Go.Operand.tmp 2), type := 3, pos := "law.go:91", after := #[], guard := none }) (v := ?v14) rfl (by kernel_rfl) (by kernel_rfl) (by kernel_rfl) (fun _ _ _ h => h) (Or.inl ⟨by rfl, ?hy14⟩) hHeld ?rest14
    case hy14 => (intro w hSw; (try dsimp only at hSw); go_simp; (first | done | with_reducible rfl))
    try simp only [Act.put, List.setIfInBounds_toArray, List.set_cons_zero, List.set_cons_succ]
    refine wpAnyH_take (i := 7) (oi := { dst := some 62, op := Go.Op.move (Go.Operand.tmp 3), type := 3, pos := "law.go:91", after := #[], guard := none }) (v := ?v15) rfl (by kernel_rfl) (by kernel_rfl) (by kernel_rfl) (fun _ _ _ h => h) (Or.inl ⟨by rfl, ?hy15⟩) hHeld ?rest15
    case hy15 => (intro w hSw; (try dsimp only at hSw); go_simp; (first | done | with_reducible rfl))
    try simp only [Act.put, List.setIfInBounds_toArray, List.set_cons_zero, List.set_cons_succ]
    refine wpAnyH_take (i := 8) (oi := { dst := some 63, op := Go.Op.move (Go.Operand.tmp 4), type := 4, pos := "law.go:91", after := #[], guard := none }) (v := ?v16) rfl (by kernel_rfl) (by kernel_rfl) (by kernel_rfl) (fun _ _ _ h => h) (Or.inl ⟨by rfl, ?hy16⟩) hHeld ?rest16
    case hy16 => (intro w hSw; (try dsimp only at hSw); go_simp; (first | done | with_reducible rfl))
    try simp only [Act.put, List.setIfInBounds_toArray, List.set_cons_zero, List.set_cons_succ]
    refine wpAnyH_take (i := 10) (oi := { dst := some 65, op := Go.Op.load 41 (Go.Operand.tmp 11), type := 41, pos := "law.go:91", after := #[], guard := none }) (v := (.agg #[c1, c2, c3, c4, c5, c6, c7, c8])) rfl (by kernel_rfl) (by kernel_rfl) (by kernel_rfl) (fun _ _ _ h => h) (yieldV (by rfl) rfl rfl fun w' hx => hx) hHeld ?_
    try simp only [Act.put, List.setIfInBounds_toArray, List.set_cons_zero, List.set_cons_succ]
    refine wpAnyH_take (i := 11) (oi := { dst := some 66, op := Go.Op.move (Go.Operand.tmp 1), type := 3, pos := "law.go:91", after := #[], guard := none }) (v := ?v18) rfl (by kernel_rfl) (by kernel_rfl) (by kernel_rfl) (fun _ _ _ h => h) (Or.inl ⟨by rfl, ?hy18⟩) hHeld ?rest18
    case hy18 => (intro w hSw; (try dsimp only at hSw); go_simp; (first | done | with_reducible rfl))
    try simp only [Act.put, List.setIfInBounds_toArray, List.set_cons_zero, List.set_cons_succ]
    refine wpAnyH_take (i := 12) (oi := { dst := some 67, op := Go.Op.move (Go.Operand.tmp 3), type := 3, pos := "law.go:91", after := #[], guard := none }) (v := ?v19) rfl (by kernel_rfl) (by kernel_rfl) (by kernel_rfl) (fun _ _ _ h => h) (Or.inl ⟨by rfl, ?hy19⟩) hHeld ?rest19
    case hy19 => (intro w hSw; (try dsimp only at hSw); go_simp; (first | done | with_reducible rfl))
    try simp only [Act.put, List.setIfInBounds_toArray, List.set_cons_zero, List.set_cons_succ]
    refine wpAnyH_take (i := 13) (oi := { dst := some 68, op := Go.Op.move (Go.Operand.tmp 4), type := 4, pos := "law.go:91", after := #[], guard := none }) (v := ?v20) rfl (by kernel_rfl) (by kernel_rfl) (by kernel_rfl) (fun _ _ _ h => h) (Or.inl ⟨by rfl, ?hy20⟩) hHeld ?rest20
    case hy20 => (intro w hSw; (try dsimp only at hSw); go_simp; (first | done | with_reducible rfl))
    try simp only [Act.put, List.setIfInBounds_toArray, List.set_cons_zero, List.set_cons_succ]
    refine wpAnyH_ready (rs := [4]) (by kernel_rfl) (by simp) ?_
    refine AllReadyH.cons (o := { dst := some 59, op := Go.Op.call { callee := Go.Callee.value (Go.Operand.func 19), args := #[Go.Operand.tmp 55, Go.Operand.const (Go.Value.int Go.IntKind.i64 1), Go.Operand.tmp 56, Go.Operand.tmp 57, Go.Operand.tmp 58], argTypes := #[41, 3, 3, 3, 4] }, type := 4, pos := "law.go:91", after := #[{ on := 0, ground := Go.Ground.data }, { on := 1, ground := Go.Ground.data }, { on := 2, ground := Go.Ground.data }, { on := 3, ground := Go.Ground.data }], guard := none }) rfl (fun K hK => ?_) (AllReadyH.nil)
    go_simp
    refine (kla _ _ HV.is).mono ?_
    rintro e w59 ⟨rfl, x⟩
    have z21 := x.size
    replace E := E.trans x
    replace LB5 := LB5.ext x
    replace cB5_1 := cell_ext (x) cB5_1
    replace HV := HV.ext x
    replace LB11 := LB11.ext x
    clear x
    clear hHeld
    have hHeld := LB11
    refine hK.out _ _ hHeld (fun _ => ?_)
    clear hK K
    try simp only [Act.put, List.setIfInBounds_toArray, List.set_cons_zero, List.set_cons_succ]
    refine wpAnyH_ready (rs := [9]) (by kernel_rfl) (by simp) ?_
    refine AllReadyH.cons (o := { dst := some 64, op := Go.Op.call { callee := Go.Callee.value (Go.Operand.func 19), args := #[Go.Operand.tmp 60, Go.Operand.const (Go.Value.int Go.IntKind.i64 1), Go.Operand.tmp 61, Go.Operand.tmp 62, Go.Operand.tmp 63], argTypes := #[41, 3, 3, 3, 4] }, type := 4, pos := "law.go:91", after := #[{ on := 5, ground := Go.Ground.data }, { on := 6, ground := Go.Ground.data }, { on := 7, ground := Go.Ground.data }, { on := 8, ground := Go.Ground.data }, { on := 4, ground := Go.Ground.chain }], guard := none }) rfl (fun K hK => ?_) (AllReadyH.nil)
    go_simp
    refine (klb _ _ HV.is).mono ?_
    rintro e w64 ⟨rfl, x⟩
    have z22 := x.size
    replace E := E.trans x
    replace LB5 := LB5.ext x
    replace cB5_1 := cell_ext (x) cB5_1
    replace HV := HV.ext x
    replace LB11 := LB11.ext x
    clear x
    clear hHeld
    have hHeld := LB11
    refine hK.out _ _ hHeld (fun _ => ?_)
    clear hK K
    try simp only [Act.put, List.setIfInBounds_toArray, List.set_cons_zero, List.set_cons_succ]
    refine wpAnyH_ready (rs := [14]) (by kernel_rfl) (by simp) ?_
    refine AllReadyH.cons (o := { dst := some 69, op := Go.Op.call { callee := Go.Callee.value (Go.Operand.func 19), args := #[Go.Operand.tmp 65, Go.Operand.const (Go.Value.int Go.IntKind.i64 1), Go.Operand.tmp 66, Go.Operand.tmp 67, Go.Operand.tmp 68], argTypes := #[41, 3, 3, 3, 4] }, type := 4, pos := "law.go:91", after := #[{ on := 10, ground := Go.Ground.data }, { on := 11, ground := Go.Ground.data }, { on := 12, ground := Go.Ground.data }, { on := 13, ground := Go.Ground.data }, { on := 9, ground := Go.Ground.chain }], guard := none }) rfl (fun K hK => ?_) (AllReadyH.nil)
    go_simp
    refine (klc _ _ HV.is).mono ?_
    rintro e w69 ⟨rfl, x⟩
    have z23 := x.size
    replace E := E.trans x
    replace LB5 := LB5.ext x
    replace cB5_1 := cell_ext (x) cB5_1
    replace HV := HV.ext x
    replace LB11 := LB11.ext x
    clear x
    clear hHeld
    have hHeld := LB11
    refine hK.out _ _ hHeld (fun _ => ?_)
    clear hK K
    try simp only [Act.put, List.setIfInBounds_toArray, List.set_cons_zero, List.set_cons_succ]
    refine wpAnyH_take (i := 15) (oi := { dst := some 12, op := Go.Op.assign (Go.Operand.tmp 59), type := 4, pos := "law.go:91", after := #[{ on := 4, ground := Go.Ground.data }, { on := 14, ground := Go.Ground.chain }, { on := 0, ground := Go.Ground.phase }, { on := 1, ground := Go.Ground.phase }, { on := 2, ground := Go.Ground.phase }, { on := 3, ground := Go.Ground.phase }, { on := 4, ground := Go.Ground.phase }, { on := 5, ground := Go.Ground.textOnly Go.Departure.lateStores }, { on := 6, ground := Go.Ground.textOnly Go.Departure.lateStores }, { on := 7, ground := Go.Ground.textOnly Go.Departure.lateStores }, { on := 8, ground := Go.Ground.textOnly Go.Departure.lateStores }, { on := 9, ground := Go.Ground.textOnly Go.Departure.lateStoresUnsure }, { on := 10, ground := Go.Ground.textOnly Go.Departure.lateStores }, { on := 11, ground := Go.Ground.textOnly Go.Departure.lateStores }, { on := 12, ground := Go.Ground.textOnly Go.Departure.lateStores }, { on := 13, ground := Go.Ground.textOnly Go.Departure.lateStores }, { on := 14, ground := Go.Ground.textOnly Go.Departure.lateStoresUnsure }], guard := none }) (v := ?v24) rfl (by kernel_rfl) (by kernel_rfl) (by kernel_rfl) (fun _ _ _ h => h) (Or.inl ⟨by rfl, ?hy24⟩) hHeld ?rest24
    case hy24 => (intro w hSw; (try dsimp only at hSw); go_simp; (first | done | with_reducible rfl))
    try simp only [Act.put, List.setIfInBounds_toArray, List.set_cons_zero, List.set_cons_succ]
    refine wpAnyH_take (i := 16) (oi := { dst := some 13, op := Go.Op.assign (Go.Operand.tmp 64), type := 4, pos := "law.go:91", after := #[{ on := 9, ground := Go.Ground.data }, { on := 15, ground := Go.Ground.chain }, { on := 0, ground := Go.Ground.phase }, { on := 1, ground := Go.Ground.phase }, { on := 2, ground := Go.Ground.phase }, { on := 3, ground := Go.Ground.phase }, { on := 4, ground := Go.Ground.phase }, { on := 5, ground := Go.Ground.phase }, { on := 6, ground := Go.Ground.phase }, { on := 7, ground := Go.Ground.phase }, { on := 8, ground := Go.Ground.phase }, { on := 9, ground := Go.Ground.phase }, { on := 10, ground := Go.Ground.textOnly Go.Departure.lateStores }, { on := 11, ground := Go.Ground.textOnly Go.Departure.lateStores }, { on := 12, ground := Go.Ground.textOnly Go.Departure.lateStores }, { on := 13, ground := Go.Ground.textOnly Go.Departure.lateStores }, { on := 14, ground := Go.Ground.textOnly Go.Departure.lateStoresUnsure }, { on := 15, ground := Go.Ground.phase }], guard := none }) (v := ?v25) rfl (by kernel_rfl) (by kernel_rfl) (by kernel_rfl) (fun _ _ _ h => h) (Or.inl ⟨by rfl, ?hy25⟩) hHeld ?rest25
    case hy25 => (intro w hSw; (try dsimp only at hSw); go_simp; (first | done | with_reducible rfl))
    try simp only [Act.put, List.setIfInBounds_toArray, List.set_cons_zero, List.set_cons_succ]
    refine wpAnyH_take (i := 17) (oi := { dst := some 14, op := Go.Op.assign (Go.Operand.tmp 69), type := 4, pos := "law.go:91", after := #[{ on := 14, ground := Go.Ground.data }, { on := 16, ground := Go.Ground.chain }, { on := 0, ground := Go.Ground.phase }, { on := 1, ground := Go.Ground.phase }, { on := 2, ground := Go.Ground.phase }, { on := 3, ground := Go.Ground.phase }, { on := 4, ground := Go.Ground.phase }, { on := 5, ground := Go.Ground.phase }, { on := 6, ground := Go.Ground.phase }, { on := 7, ground := Go.Ground.phase }, { on := 8, ground := Go.Ground.phase }, { on := 9, ground := Go.Ground.phase }, { on := 10, ground := Go.Ground.phase }, { on := 11, ground := Go.Ground.phase }, { on := 12, ground := Go.Ground.phase }, { on := 13, ground := Go.Ground.phase }, { on := 14, ground := Go.Ground.phase }, { on := 15, ground := Go.Ground.phase }, { on := 16, ground := Go.Ground.phase }], guard := none }) (v := ?v26) rfl (by kernel_rfl) (by kernel_rfl) (by kernel_rfl) (fun _ _ _ h => h) (Or.inl ⟨by rfl, ?hy26⟩) hHeld ?rest26
    case hy26 => (intro w hSw; (try dsimp only at hSw); go_simp; (first | done | with_reducible rfl))
    try simp only [Act.put, List.setIfInBounds_toArray, List.set_cons_zero, List.set_cons_succ]
    refine wpAnyH_done (by kernel_rfl) ?_ _
    go_wp2_with fail
    try simp only [Act.put, List.setIfInBounds_toArray, List.set_cons_zero, List.set_cons_succ]
    have hq27 : w69.heap.size ≤ w69.drew.heap.size := Nat.le_refl _
    have z28 := (Ext.refl w69).drew.size
    replace E := E.trans (Ext.refl w69).drew
    replace LB5 := LB5.ext (Ext.refl w69).drew
    replace cB5_1 := cell_ext ((Ext.refl w69).drew) cB5_1
    replace HV := HV.ext (Ext.refl w69).drew
    replace LB11 := LB11.ext (Ext.refl w69).drew
    refine wp_region_held_drew (S := (fun w' => Lay 8 w' B11 (.agg #[c1, c2, c3, c4, c5, c6, c7, c8]))) (by kernel_rfl) LB11 (fun hHeld => ?_)
    refine wpAnyH_take (i := 0) (oi := { dst := some 70, op := Go.Op.move (Go.Operand.tmp 12), type := 4, pos := "law.go:92", after := #[], guard := none }) (v := ?v29) rfl (by kernel_rfl) (by kernel_rfl) (by kernel_rfl) (fun _ _ _ h => h) (Or.inl ⟨by rfl, ?hy29⟩) hHeld ?rest29
    case hy29 => (intro w hSw; (try dsimp only at hSw); go_simp; (first | done | with_reducible rfl))
    try simp only [Act.put, List.setIfInBounds_toArray, List.set_cons_zero, List.set_cons_succ]
    refine wpAnyH_take (i := 1) (oi := { dst := some 71, op := Go.Op.load 41 (Go.Operand.tmp 11), type := 41, pos := "law.go:92", after := #[], guard := none }) (v := (.agg #[c1, c2, c3, c4, c5, c6, c7, c8])) rfl (by kernel_rfl) (by kernel_rfl) (by kernel_rfl) (fun _ _ _ h => h) (yieldV (by rfl) rfl rfl fun w' hx => hx) hHeld ?_
    try simp only [Act.put, List.setIfInBounds_toArray, List.set_cons_zero, List.set_cons_succ]
    refine wpAnyH_take (i := 2) (oi := { dst := some 72, op := Go.Op.move (Go.Operand.tmp 2), type := 3, pos := "law.go:92", after := #[], guard := none }) (v := ?v31) rfl (by kernel_rfl) (by kernel_rfl) (by kernel_rfl) (fun _ _ _ h => h) (Or.inl ⟨by rfl, ?hy31⟩) hHeld ?rest31
    case hy31 => (intro w hSw; (try dsimp only at hSw); go_simp; (first | done | with_reducible rfl))
    try simp only [Act.put, List.setIfInBounds_toArray, List.set_cons_zero, List.set_cons_succ]
    refine wpAnyH_take (i := 3) (oi := { dst := some 73, op := Go.Op.move (Go.Operand.tmp 1), type := 3, pos := "law.go:92", after := #[], guard := none }) (v := ?v32) rfl (by kernel_rfl) (by kernel_rfl) (by kernel_rfl) (fun _ _ _ h => h) (Or.inl ⟨by rfl, ?hy32⟩) hHeld ?rest32
    case hy32 => (intro w hSw; (try dsimp only at hSw); go_simp; (first | done | with_reducible rfl))
    try simp only [Act.put, List.setIfInBounds_toArray, List.set_cons_zero, List.set_cons_succ]
    refine wpAnyH_take (i := 4) (oi := { dst := some 74, op := Go.Op.move (Go.Operand.tmp 4), type := 4, pos := "law.go:92", after := #[], guard := none }) (v := ?v33) rfl (by kernel_rfl) (by kernel_rfl) (by kernel_rfl) (fun _ _ _ h => h) (Or.inl ⟨by rfl, ?hy33⟩) hHeld ?rest33
    case hy33 => (intro w hSw; (try dsimp only at hSw); go_simp; (first | done | with_reducible rfl))
    try simp only [Act.put, List.setIfInBounds_toArray, List.set_cons_zero, List.set_cons_succ]
    refine wpAnyH_take (i := 7) (oi := { dst := some 77, op := Go.Op.move (Go.Operand.tmp 1), type := 3, pos := "law.go:92", after := #[], guard := none }) (v := ?v34) rfl (by kernel_rfl) (by kernel_rfl) (by kernel_rfl) (fun _ _ _ h => h) (Or.inl ⟨by rfl, ?hy34⟩) hHeld ?rest34
    case hy34 => (intro w hSw; (try dsimp only at hSw); go_simp; (first | done | with_reducible rfl))
    try simp only [Act.put, List.setIfInBounds_toArray, List.set_cons_zero, List.set_cons_succ]
    refine wpAnyH_take (i := 8) (oi := { dst := some 78, op := Go.Op.move (Go.Operand.tmp 2), type := 3, pos := "law.go:92", after := #[], guard := none }) (v := ?v35) rfl (by kernel_rfl) (by kernel_rfl) (by kernel_rfl) (fun _ _ _ h => h) (Or.inl ⟨by rfl, ?hy35⟩) hHeld ?rest35
    case hy35 => (intro w hSw; (try dsimp only at hSw); go_simp; (first | done | with_reducible rfl))
    try simp only [Act.put, List.setIfInBounds_toArray, List.set_cons_zero, List.set_cons_succ]
    refine wpAnyH_take (i := 9) (oi := { dst := some 79, op := Go.Op.binOp Go.BinOp.neq 3 (Go.Operand.tmp 77) (Go.Operand.tmp 78) 3, type := 4, pos := "law.go:92", after := #[{ on := 7, ground := Go.Ground.data }, { on := 8, ground := Go.Ground.data }], guard := none }) (v := ?v36) rfl (by kernel_rfl) (by kernel_rfl) (by kernel_rfl) (fun _ _ _ h => h) (Or.inl ⟨by rfl, ?hy36⟩) hHeld ?rest36
    case hy36 => (intro w hSw; (try dsimp only at hSw); go_simp; (first | done | with_reducible rfl))
    try simp only [Act.put, List.setIfInBounds_toArray, List.set_cons_zero, List.set_cons_succ]
    refine wpAnyH_ready (rs := [5]) (by kernel_rfl) (by simp) ?_
    refine AllReadyH.cons (o := { dst := some 75, op := Go.Op.call { callee := Go.Callee.value (Go.Operand.func 19), args := #[Go.Operand.tmp 71, Go.Operand.const (Go.Value.int Go.IntKind.i64 1), Go.Operand.tmp 72, Go.Operand.tmp 73, Go.Operand.tmp 74], argTypes := #[41, 3, 3, 3, 4] }, type := 4, pos := "law.go:92", after := #[{ on := 1, ground := Go.Ground.data }, { on := 2, ground := Go.Ground.data }, { on := 3, ground := Go.Ground.data }, { on := 4, ground := Go.Ground.data }], guard := none }) rfl (fun K hK => ?_) (AllReadyH.nil)
    go_simp
    refine (kld _ _ HV.is).mono ?_
    rintro e w75 ⟨rfl, x⟩
    have z37 := x.size
    replace E := E.trans x
    replace LB5 := LB5.ext x
    replace cB5_1 := cell_ext (x) cB5_1
    replace HV := HV.ext x
    replace LB11 := LB11.ext x
    clear x
    clear hHeld
    have hHeld := LB11
    refine hK.out _ _ hHeld (fun _ => ?_)
    clear hK K
    try simp only [Act.put, List.setIfInBounds_toArray, List.set_cons_zero, List.set_cons_succ]
    refine wpAnyH_take (i := 6) (oi := { dst := some 76, op := Go.Op.binOp Go.BinOp.neq 4 (Go.Operand.tmp 70) (Go.Operand.tmp 75) 4, type := 4, pos := "law.go:92", after := #[{ on := 0, ground := Go.Ground.data }, { on := 5, ground := Go.Ground.data }], guard := none }) (v := ?v38) rfl (by kernel_rfl) (by kernel_rfl) (by kernel_rfl) (fun _ _ _ h => h) (Or.inl ⟨by rfl, ?hy38⟩) hHeld ?rest38
    case hy38 => (intro w hSw; (try dsimp only at hSw); go_simp; (first | done | with_reducible rfl))
    try simp only [Act.put, List.setIfInBounds_toArray, List.set_cons_zero, List.set_cons_succ]
    refine wpAnyH_take (i := 10) (oi := { dst := some 80, op := Go.Op.binOp Go.BinOp.eql 4 (Go.Operand.tmp 76) (Go.Operand.tmp 79) 4, type := 4, pos := "law.go:92", after := #[{ on := 6, ground := Go.Ground.data }, { on := 9, ground := Go.Ground.data }], guard := none }) (v := ?v39) rfl (by kernel_rfl) (by kernel_rfl) (by kernel_rfl) (fun _ _ _ h => h) (Or.inl ⟨by rfl, ?hy39⟩) hHeld ?rest39
    case hy39 => (intro w hSw; (try dsimp only at hSw); go_simp; (first | done | with_reducible rfl))
    try simp only [Act.put, List.setIfInBounds_toArray, List.set_cons_zero, List.set_cons_succ]
    refine wpAnyH_take (i := 11) (oi := { dst := some 81, op := Go.Op.move (Go.Operand.tmp 80), type := 4, pos := "law.go:92", after := #[{ on := 10, ground := Go.Ground.data }, { on := 5, ground := Go.Ground.chain }], guard := none }) (v := ?v40) rfl (by kernel_rfl) (by kernel_rfl) (by kernel_rfl) (fun _ _ _ h => h) (Or.inl ⟨by rfl, ?hy40⟩) hHeld ?rest40
    case hy40 => (intro w hSw; (try dsimp only at hSw); go_simp; (first | done | with_reducible rfl))
    try simp only [Act.put, List.setIfInBounds_toArray, List.set_cons_zero, List.set_cons_succ]
    refine wpAnyH_take (i := 12) (oi := { dst := some 82, op := Go.Op.move (Go.Operand.tmp 12), type := 4, pos := "law.go:92", after := #[{ on := 11, ground := Go.Ground.guard }], guard := some (11, true) }) (v := ?v41) rfl (by kernel_rfl) (by kernel_rfl) (by kernel_rfl) (fun _ _ _ h => h) (Or.inl ⟨by rfl, ?hy41⟩) hHeld ?rest41
    case hy41 => (intro w hSw; (try dsimp only at hSw); go_simp; (first | done | with_reducible rfl))
    try simp only [Act.put, List.setIfInBounds_toArray, List.set_cons_zero, List.set_cons_succ]
    refine wpAnyH_take (i := 13) (oi := { dst := some 83, op := Go.Op.unOp Go.UnOp.not 4 (Go.Operand.tmp 82), type := 4, pos := "law.go:92", after := #[{ on := 12, ground := Go.Ground.data }, { on := 11, ground := Go.Ground.guard }], guard := some (11, true) }) (v := ?v42) rfl (by kernel_rfl) (by kernel_rfl) (by kernel_rfl) (fun _ _ _ h => h) (Or.inl ⟨by rfl, ?hy42⟩) hHeld ?rest42
    case hy42 => (intro w hSw; (try dsimp only at hSw); go_simp; (first | done | with_reducible rfl))
    try simp only [Act.put, List.setIfInBounds_toArray, List.set_cons_zero, List.set_cons_succ]
    refine wpAnyH_take (i := 14) (oi := { dst := some 84, op := Go.Op.move (Go.Operand.tmp 83), type := 4, pos := "law.go:92", after := #[{ on := 13, ground := Go.Ground.data }, { on := 11, ground := Go.Ground.chain }, { on := 11, ground := Go.Ground.guard }], guard := some (11, true) }) (v := ?v43) rfl (by kernel_rfl) (by kernel_rfl) (by kernel_rfl) (fun _ _ _ h => h) (Or.inl ⟨by rfl, ?hy43⟩) hHeld ?rest43
    case hy43 => (intro w hSw; (try dsimp only at hSw); go_simp; (first | done | with_reducible rfl))
    try simp only [Act.put, List.setIfInBounds_toArray, List.set_cons_zero, List.set_cons_succ]
    refine wpAnyH_take (i := 15) (oi := { dst := some 85, op := Go.Op.move (Go.Operand.tmp 13), type := 4, pos := "law.go:92", after := #[{ on := 14, ground := Go.Ground.guard }], guard := some (14, false) }) (v := ?v44) rfl (by kernel_rfl) (by kernel_rfl) (by kernel_rfl) (fun _ _ _ h => h) (Or.inl ⟨by rfl, ?hy44⟩) hHeld ?rest44
    case hy44 => (intro w hSw; (try dsimp only at hSw); go_simp; (first | done | with_reducible rfl))
    try simp only [Act.put, List.setIfInBounds_toArray, List.set_cons_zero, List.set_cons_succ]
    refine wpAnyH_take (i := 16) (oi := { dst := some 86, op := Go.Op.unOp Go.UnOp.not 4 (Go.Operand.tmp 85), type := 4, pos := "law.go:92", after := #[{ on := 15, ground := Go.Ground.data }, { on := 14, ground := Go.Ground.guard }], guard := some (14, false) }) (v := ?v45) rfl (by kernel_rfl) (by kernel_rfl) (by kernel_rfl) (fun _ _ _ h => h) (Or.inl ⟨by rfl, ?hy45⟩) hHeld ?rest45
    case hy45 => (intro w hSw; (try dsimp only at hSw); go_simp; (first | done | with_reducible rfl))
    try simp only [Act.put, List.setIfInBounds_toArray, List.set_cons_zero, List.set_cons_succ]
    refine wpAnyH_take (i := 17) (oi := { dst := some 87, op := Go.Op.pick (Go.Operand.tmp 84) (Go.Operand.const (Go.Value.bool true)) (Go.Operand.tmp 86), type := 4, pos := "law.go:92", after := #[{ on := 14, ground := Go.Ground.data }, { on := 16, ground := Go.Ground.data }, { on := 11, ground := Go.Ground.guard }], guard := some (11, true) }) (v := ?v46) rfl (by kernel_rfl) (by kernel_rfl) (by kernel_rfl) (fun _ _ _ h => h) (Or.inl ⟨by rfl, ?hy46⟩) hHeld ?rest46
    case hy46 => (intro w hSw; (try dsimp only at hSw); go_simp; (first | done | with_reducible rfl))
    try simp only [Act.put, List.setIfInBounds_toArray, List.set_cons_zero, List.set_cons_succ]
    refine wpAnyH_take (i := 18) (oi := { dst := some 88, op := Go.Op.move (Go.Operand.tmp 87), type := 4, pos := "law.go:92", after := #[{ on := 17, ground := Go.Ground.data }, { on := 14, ground := Go.Ground.chain }, { on := 11, ground := Go.Ground.guard }], guard := some (11, true) }) (v := ?v47) rfl (by kernel_rfl) (by kernel_rfl) (by kernel_rfl) (fun _ _ _ h => h) (Or.inl ⟨by rfl, ?hy47⟩) hHeld ?rest47
    case hy47 => (intro w hSw; (try dsimp only at hSw); go_simp; (first | done | with_reducible rfl))
    try simp only [Act.put, List.setIfInBounds_toArray, List.set_cons_zero, List.set_cons_succ]
    refine wpAnyH_take (i := 19) (oi := { dst := some 89, op := Go.Op.move (Go.Operand.tmp 14), type := 4, pos := "law.go:92", after := #[{ on := 18, ground := Go.Ground.guard }], guard := some (18, false) }) (v := undef) rfl (by kernel_rfl) (by kernel_rfl) (by kernel_rfl) (fun _ _ _ h => h) (Or.inr ⟨by rfl, rfl⟩) hHeld ?_
    try simp only [Act.put, List.setIfInBounds_toArray, List.set_cons_zero, List.set_cons_succ]
    refine wpAnyH_take (i := 20) (oi := { dst := some 90, op := Go.Op.pick (Go.Operand.tmp 88) (Go.Operand.const (Go.Value.bool true)) (Go.Operand.tmp 89), type := 4, pos := "law.go:92", after := #[{ on := 18, ground := Go.Ground.data }, { on := 19, ground := Go.Ground.data }, { on := 11, ground := Go.Ground.guard }], guard := some (11, true) }) (v := ?v49) rfl (by kernel_rfl) (by kernel_rfl) (by kernel_rfl) (fun _ _ _ h => h) (Or.inl ⟨by rfl, ?hy49⟩) hHeld ?rest49
    case hy49 => (intro w hSw; (try dsimp only at hSw); go_simp; (first | done | with_reducible rfl))
    try simp only [Act.put, List.setIfInBounds_toArray, List.set_cons_zero, List.set_cons_succ]
    refine wpAnyH_take (i := 21) (oi := { dst := some 91, op := Go.Op.pick (Go.Operand.tmp 81) (Go.Operand.tmp 90) (Go.Operand.const (Go.Value.bool false)), type := 4, pos := "law.go:92", after := #[{ on := 11, ground := Go.Ground.data }, { on := 20, ground := Go.Ground.data }], guard := none }) (v := ?v50) rfl (by kernel_rfl) (by kernel_rfl) (by kernel_rfl) (fun _ _ _ h => h) (Or.inl ⟨by rfl, ?hy50⟩) hHeld ?rest50
    case hy50 => (intro w hSw; (try dsimp only at hSw); go_simp; (first | done | with_reducible rfl))
    try simp only [Act.put, List.setIfInBounds_toArray, List.set_cons_zero, List.set_cons_succ]
    refine wpAnyH_take (i := 22) (oi := { dst := some 92, op := Go.Op.move (Go.Operand.tmp 91), type := 4, pos := "law.go:92", after := #[{ on := 21, ground := Go.Ground.data }, { on := 18, ground := Go.Ground.chain }], guard := none }) (v := ?v51) rfl (by kernel_rfl) (by kernel_rfl) (by kernel_rfl) (fun _ _ _ h => h) (Or.inl ⟨by rfl, ?hy51⟩) hHeld ?rest51
    case hy51 => (intro w hSw; (try dsimp only at hSw); go_simp; (first | done | with_reducible rfl))
    try simp only [Act.put, List.setIfInBounds_toArray, List.set_cons_zero, List.set_cons_succ]
    refine wpAnyH_take (i := 23) (oi := { dst := some 93, op := Go.Op.load 41 (Go.Operand.tmp 11), type := 41, pos := "law.go:92", after := #[{ on := 22, ground := Go.Ground.guard }], guard := some (22, true) }) (v := (.agg #[c1, c2, c3, c4, c5, c6, c7, c8])) rfl (by kernel_rfl) (by kernel_rfl) (by kernel_rfl) (fun _ _ _ h => h) (yieldV (by rfl) rfl rfl fun w' hx => hx) hHeld ?_
    try simp only [Act.put, List.setIfInBounds_toArray, List.set_cons_zero, List.set_cons_succ]
    refine wpAnyH_take (i := 24) (oi := { dst := some 94, op := Go.Op.move (Go.Operand.tmp 1), type := 3, pos := "law.go:92", after := #[{ on := 22, ground := Go.Ground.guard }], guard := some (22, true) }) (v := ?v53) rfl (by kernel_rfl) (by kernel_rfl) (by kernel_rfl) (fun _ _ _ h => h) (Or.inl ⟨by rfl, ?hy53⟩) hHeld ?rest53
    case hy53 => (intro w hSw; (try dsimp only at hSw); go_simp; (first | done | with_reducible rfl))
    try simp only [Act.put, List.setIfInBounds_toArray, List.set_cons_zero, List.set_cons_succ]
    refine wpAnyH_take (i := 25) (oi := { dst := some 95, op := Go.Op.move (Go.Operand.tmp 2), type := 3, pos := "law.go:92", after := #[{ on := 22, ground := Go.Ground.guard }], guard := some (22, true) }) (v := ?v54) rfl (by kernel_rfl) (by kernel_rfl) (by kernel_rfl) (fun _ _ _ h => h) (Or.inl ⟨by rfl, ?hy54⟩) hHeld ?rest54
    case hy54 => (intro w hSw; (try dsimp only at hSw); go_simp; (first | done | with_reducible rfl))
    try simp only [Act.put, List.setIfInBounds_toArray, List.set_cons_zero, List.set_cons_succ]
    refine wpAnyH_take (i := 27) (oi := { dst := some 97, op := Go.Op.load 41 (Go.Operand.tmp 11), type := 41, pos := "law.go:92", after := #[{ on := 22, ground := Go.Ground.guard }], guard := some (22, true) }) (v := (.agg #[c1, c2, c3, c4, c5, c6, c7, c8])) rfl (by kernel_rfl) (by kernel_rfl) (by kernel_rfl) (fun _ _ _ h => h) (yieldV (by rfl) rfl rfl fun w' hx => hx) hHeld ?_
    try simp only [Act.put, List.setIfInBounds_toArray, List.set_cons_zero, List.set_cons_succ]
    refine wpAnyH_take (i := 28) (oi := { dst := some 98, op := Go.Op.move (Go.Operand.tmp 2), type := 3, pos := "law.go:92", after := #[{ on := 22, ground := Go.Ground.guard }], guard := some (22, true) }) (v := ?v56) rfl (by kernel_rfl) (by kernel_rfl) (by kernel_rfl) (fun _ _ _ h => h) (Or.inl ⟨by rfl, ?hy56⟩) hHeld ?rest56
    case hy56 => (intro w hSw; (try dsimp only at hSw); go_simp; (first | done | with_reducible rfl))
    try simp only [Act.put, List.setIfInBounds_toArray, List.set_cons_zero, List.set_cons_succ]
    refine wpAnyH_take (i := 29) (oi := { dst := some 99, op := Go.Op.move (Go.Operand.tmp 1), type := 3, pos := "law.go:92", after := #[{ on := 22, ground := Go.Ground.guard }], guard := some (22, true) }) (v := ?v57) rfl (by kernel_rfl) (by kernel_rfl) (by kernel_rfl) (fun _ _ _ h => h) (Or.inl ⟨by rfl, ?hy57⟩) hHeld ?rest57
    case hy57 => (intro w hSw; (try dsimp only at hSw); go_simp; (first | done | with_reducible rfl))
    try simp only [Act.put, List.setIfInBounds_toArray, List.set_cons_zero, List.set_cons_succ]
    refine wpAnyH_ready (rs := [26]) (by kernel_rfl) (by simp) ?_
    refine AllReadyH.cons (o := { dst := some 96, op := Go.Op.call { callee := Go.Callee.value (Go.Operand.func 17), args := #[Go.Operand.tmp 93, Go.Operand.const (Go.Value.int Go.IntKind.i64 1), Go.Operand.tmp 94, Go.Operand.tmp 95], argTypes := #[41, 3, 3, 3] }, type := 3, pos := "law.go:92", after := #[{ on := 23, ground := Go.Ground.data }, { on := 24, ground := Go.Ground.data }, { on := 25, ground := Go.Ground.data }, { on := 22, ground := Go.Ground.chain }, { on := 22, ground := Go.Ground.guard }], guard := some (22, true) }) rfl (fun K hK => ?_) (AllReadyH.nil)
    go_simp
    refine (kca _ _ HV.is).mono ?_
    rintro e w96 ⟨rfl, x⟩
    have z58 := x.size
    replace E := E.trans x
    replace LB5 := LB5.ext x
    replace cB5_1 := cell_ext (x) cB5_1
    replace HV := HV.ext x
    replace LB11 := LB11.ext x
    clear x
    clear hHeld
    have hHeld := LB11
    refine hK.out _ _ hHeld (fun _ => ?_)
    clear hK K
    try simp only [Act.put, List.setIfInBounds_toArray, List.set_cons_zero, List.set_cons_succ]
    refine wpAnyH_ready (rs := [30]) (by kernel_rfl) (by simp) ?_
    refine AllReadyH.cons (o := { dst := some 100, op := Go.Op.call { callee := Go.Callee.value (Go.Operand.func 17), args := #[Go.Operand.tmp 97, Go.Operand.const (Go.Value.int Go.IntKind.i64 1), Go.Operand.tmp 98, Go.Operand.tmp 99], argTypes := #[41, 3, 3, 3] }, type := 3, pos := "law.go:92", after := #[{ on := 27, ground := Go.Ground.data }, { on := 28, ground := Go.Ground.data }, { on := 29, ground := Go.Ground.data }, { on := 26, ground := Go.Ground.chain }, { on := 22, ground := Go.Ground.guard }], guard := some (22, true) }) rfl (fun K hK => ?_) (AllReadyH.nil)
    go_simp
    refine (kcb _ _ HV.is).mono ?_
    rintro e w100 ⟨rfl, x⟩
    have z59 := x.size
    replace E := E.trans x
    replace LB5 := LB5.ext x
    replace cB5_1 := cell_ext (x) cB5_1
    replace HV := HV.ext x
    replace LB11 := LB11.ext x
    clear x
    clear hHeld
    have hHeld := LB11
    refine hK.out _ _ hHeld (fun _ => ?_)
    clear hK K
    try simp only [Act.put, List.setIfInBounds_toArray, List.set_cons_zero, List.set_cons_succ]
    refine wpAnyH_take (i := 31) (oi := { dst := some 101, op := Go.Op.unOp Go.UnOp.neg 3 (Go.Operand.tmp 100), type := 3, pos := "law.go:92", after := #[{ on := 30, ground := Go.Ground.data }, { on := 22, ground := Go.Ground.guard }], guard := some (22, true) }) (v := ?v60) rfl (by kernel_rfl) (by kernel_rfl) (by kernel_rfl) (fun _ _ _ h => h) (Or.inl ⟨by rfl, ?hy60⟩) hHeld ?rest60
    case hy60 => (intro w hSw; (try dsimp only at hSw); go_simp; (first | done | with_reducible rfl))
    try simp only [Act.put, List.setIfInBounds_toArray, List.set_cons_zero, List.set_cons_succ]
    refine wpAnyH_take (i := 32) (oi := { dst := some 102, op := Go.Op.binOp Go.BinOp.eql 3 (Go.Operand.tmp 96) (Go.Operand.tmp 101) 3, type := 4, pos := "law.go:92", after := #[{ on := 26, ground := Go.Ground.data }, { on := 31, ground := Go.Ground.data }, { on := 22, ground := Go.Ground.guard }], guard := some (22, true) }) (v := ?v61) rfl (by kernel_rfl) (by kernel_rfl) (by kernel_rfl) (fun _ _ _ h => h) (Or.inl ⟨by rfl, ?hy61⟩) hHeld ?rest61
    case hy61 => (intro w hSw; (try dsimp only at hSw); go_simp; (first | done | with_reducible rfl))
    try simp only [Act.put, List.setIfInBounds_toArray, List.set_cons_zero, List.set_cons_succ]
    refine wpAnyH_take (i := 33) (oi := { dst := some 103, op := Go.Op.pick (Go.Operand.tmp 92) (Go.Operand.tmp 102) (Go.Operand.const (Go.Value.bool false)), type := 4, pos := "law.go:92", after := #[{ on := 22, ground := Go.Ground.data }, { on := 32, ground := Go.Ground.data }], guard := none }) (v := ?v62) rfl (by kernel_rfl) (by kernel_rfl) (by kernel_rfl) (fun _ _ _ h => h) (Or.inl ⟨by rfl, ?hy62⟩) hHeld ?rest62
    case hy62 => (intro w hSw; (try dsimp only at hSw); go_simp; (first | done | with_reducible rfl))
    try simp only [Act.put, List.setIfInBounds_toArray, List.set_cons_zero, List.set_cons_succ]
    refine wpAnyH_take (i := 34) (oi := { dst := some 104, op := Go.Op.move (Go.Operand.tmp 103), type := 4, pos := "law.go:92", after := #[{ on := 33, ground := Go.Ground.data }, { on := 30, ground := Go.Ground.chain }], guard := none }) (v := ?v63) rfl (by kernel_rfl) (by kernel_rfl) (by kernel_rfl) (fun _ _ _ h => h) (Or.inl ⟨by rfl, ?hy63⟩) hHeld ?rest63
    case hy63 => (intro w hSw; (try dsimp only at hSw); go_simp; (first | done | with_reducible rfl))
    try simp only [Act.put, List.setIfInBounds_toArray, List.set_cons_zero, List.set_cons_succ]
    refine wpAnyH_ready (rs := [35]) (by kernel_rfl) (by simp) ?_
    refine AllReadyH.cons (o := { dst := some 105, op := Go.Op.call { callee := Go.Callee.value (Go.Operand.func 11), args := #[], argTypes := #[] }, type := 4, pos := "law.go:92", after := #[{ on := 34, ground := Go.Ground.chain }, { on := 34, ground := Go.Ground.guard }], guard := some (34, true) }) rfl (fun K hK => ?_) (AllReadyH.nil)
    go_simp
    rw [if_pos (by rw [IntKind.wrap_i64]; omega)]
    refine (oawake_any _).mono ?_
    rintro e w105 ⟨rfl, x⟩
    have z64 := x.size
    replace E := E.trans x
    replace LB5 := LB5.ext x
    replace cB5_1 := cell_ext (x) cB5_1
    replace HV := HV.ext x
    replace LB11 := LB11.ext x
    clear x
    clear hHeld
    have hHeld := LB11
    refine hK.out _ _ hHeld (fun _ => ?_)
    clear hK K
    try simp only [Act.put, List.setIfInBounds_toArray, List.set_cons_zero, List.set_cons_succ]
    refine wpAnyH_take (i := 36) (oi := { dst := some 106, op := Go.Op.pick (Go.Operand.tmp 104) (Go.Operand.tmp 105) (Go.Operand.const (Go.Value.bool false)), type := 4, pos := "law.go:92", after := #[{ on := 34, ground := Go.Ground.data }, { on := 35, ground := Go.Ground.data }], guard := none }) (v := ?v65) rfl (by kernel_rfl) (by kernel_rfl) (by kernel_rfl) (fun _ _ _ h => h) (Or.inl ⟨by rfl, ?hy65⟩) hHeld ?rest65
    case hy65 => (intro w hSw; (try dsimp only at hSw); go_simp; (first | done | with_reducible rfl))
    try simp only [Act.put, List.setIfInBounds_toArray, List.set_cons_zero, List.set_cons_succ]
    refine wpAnyH_take (i := 37) (oi := { dst := some 10, op := Go.Op.assign (Go.Operand.tmp 106), type := 4, pos := "law.go:92", after := #[{ on := 36, ground := Go.Ground.data }, { on := 35, ground := Go.Ground.chain }, { on := 0, ground := Go.Ground.phase }, { on := 1, ground := Go.Ground.phase }, { on := 2, ground := Go.Ground.phase }, { on := 3, ground := Go.Ground.phase }, { on := 4, ground := Go.Ground.phase }, { on := 5, ground := Go.Ground.phase }, { on := 6, ground := Go.Ground.phase }, { on := 7, ground := Go.Ground.phase }, { on := 8, ground := Go.Ground.phase }, { on := 9, ground := Go.Ground.phase }, { on := 10, ground := Go.Ground.phase }, { on := 11, ground := Go.Ground.phase }, { on := 12, ground := Go.Ground.phase }, { on := 13, ground := Go.Ground.phase }, { on := 14, ground := Go.Ground.phase }, { on := 15, ground := Go.Ground.phase }, { on := 16, ground := Go.Ground.phase }, { on := 17, ground := Go.Ground.phase }, { on := 18, ground := Go.Ground.phase }, { on := 19, ground := Go.Ground.phase }, { on := 20, ground := Go.Ground.phase }, { on := 21, ground := Go.Ground.phase }, { on := 22, ground := Go.Ground.phase }, { on := 23, ground := Go.Ground.phase }, { on := 24, ground := Go.Ground.phase }, { on := 25, ground := Go.Ground.phase }, { on := 26, ground := Go.Ground.phase }, { on := 27, ground := Go.Ground.phase }, { on := 28, ground := Go.Ground.phase }, { on := 29, ground := Go.Ground.phase }, { on := 30, ground := Go.Ground.phase }, { on := 31, ground := Go.Ground.phase }, { on := 32, ground := Go.Ground.phase }, { on := 33, ground := Go.Ground.phase }, { on := 34, ground := Go.Ground.phase }, { on := 35, ground := Go.Ground.phase }, { on := 36, ground := Go.Ground.phase }], guard := none }) (v := ?v66) rfl (by kernel_rfl) (by kernel_rfl) (by kernel_rfl) (fun _ _ _ h => h) (Or.inl ⟨by rfl, ?hy66⟩) hHeld ?rest66
    case hy66 => (intro w hSw; (try dsimp only at hSw); go_simp; (first | done | with_reducible rfl))
    try simp only [Act.put, List.setIfInBounds_toArray, List.set_cons_zero, List.set_cons_succ]
    refine wpAnyH_done (by kernel_rfl) ?_ _
    go_wp2_with fail
    go_ret
    have e102 : (-cz == IntKind.i64.wrap (-cz)) = true := by rw [IntKind.wrap_i64]; simp; omega
    exact ⟨by show Ending.returned (.bool (-cz == IntKind.i64.wrap (-cz))) = _; rw [e102], E⟩
theorem ototal_m5 (sA : Option Addr) (ns sc : Nat) (iA : Option Addr) (m ic : Nat) (fl zc : Int) (w : World)
    (cg : ∀ w', Ext w w' → Calls Try.prog 14 #[(.agg #[.slice sA ns sc, .slice iA m ic, .int .i64 fl])] w' (GoodB m zc fl w')) (i j k : Int) (down : Bool) (X : List Int) (co : zc = 0 → fl < 2 → ∀ w', Ext w w' → Calls Try.prog 16 #[(.agg #[.slice sA ns sc, .slice iA m ic, .int .i64 fl])] w' (OfA X w')) (h1 : ¬ (i < 0)) (h2 : ¬ (j < 0)) (h3 : ¬ (k < 0)) (h4 : ¬ ((m : Int) ≤ i)) (h5 : ¬ ((m : Int) ≤ j)) (h6 : ¬ ((m : Int) ≤ k)) (cz : Int) (hc1 : -1 ≤ cz) (hc2 : cz ≤ 1) (e79 : (i != j) = true)
    (kla : ∀ v w', OV w' v X → Calls Try.prog 19 #[v, .int .i64 1, .int .i64 i, .int .i64 j, .bool down] w' fun e w2 => e = .returned (.bool true) ∧ Ext w' w2) (klb : ∀ v w', OV w' v X → Calls Try.prog 19 #[v, .int .i64 1, .int .i64 j, .int .i64 k, .bool down] w' fun e w2 => e = .returned (.bool true) ∧ Ext w' w2) (klc : ∀ v w', OV w' v X → Calls Try.prog 19 #[v, .int .i64 1, .int .i64 i, .int .i64 k, .bool down] w' fun e w2 => e = .returned (.bool true) ∧ Ext w' w2) (kld : ∀ v w', OV w' v X → Calls Try.prog 19 #[v, .int .i64 1, .int .i64 j, .int .i64 i, .bool down] w' fun e w2 => e = .returned (.bool false) ∧ Ext w' w2) (kca : ∀ v w', OV w' v X → Calls Try.prog 17 #[v, .int .i64 1, .int .i64 i, .int .i64 j] w' fun e w2 => e = .returned (.int .i64 (-cz)) ∧ Ext w' w2) (kcb : ∀ v w', OV w' v X → Calls Try.prog 17 #[v, .int .i64 1, .int .i64 j, .int .i64 i] w' fun e w2 => e = .returned (.int .i64 (cz)) ∧ Ext w' w2)  : Calls Try.prog 6 #[(.agg #[.slice sA ns sc, .slice iA m ic, .int .i64 fl]), .int .i64 i, .int .i64 j, .int .i64 k, .bool down] w fun e w' => e = .returned (.bool true) ∧ Ext w w' := by
  have hF := pl_flat sA ns sc iA m ic fl
  have E := Ext.refl w
  have e20 : decide (i < 0) = false := decide_eq_false h1
  have e24 : decide (j < 0) = false := decide_eq_false h2
  have e28 : decide (k < 0) = false := decide_eq_false h3
  have e35 : decide ((m : Int) ≤ i) = false := decide_eq_false h4
  have e42 : decide ((m : Int) ≤ j) = false := decide_eq_false h5
  have e49 : decide ((m : Int) ≤ k) = false := decide_eq_false h6
  clear h1 h2 h3 h4 h5 h6
  go_enter Try.func6, Try.ntmps6
  have TB5 : True := trivial
  go_wp2_with (first | (clear TB5; refine boxsP (v := (.agg #[.slice sA ns sc, .slice iA m ic, .int .i64 fl])) rfl rfl rfl hF ?_; intro B5 w5 bB5 cB5 XB5 LB5 RB5; have z1 := XB5.size; replace E := E.trans XB5; have cB5_1 := lay_cell LB5 (j := 1) rfl; clear RB5) | (refine loadsP (B := B5) (by rfl) rfl rfl LB5 ?_))
  refine (cg _ E).mono ?_
  rintro e w16 ⟨g, rfl, hg, x⟩
  cases g
  · have z2 := x.size
    replace E := E.trans x
    replace LB5 := LB5.ext x
    replace cB5_1 := cell_ext (x) cB5_1
    clear x
    go_wp2_with fail
    refine (oawake_any _).mono ?_
    rintro e w51 ⟨rfl, x⟩
    have z3 := x.size
    replace E := E.trans x
    replace LB5 := LB5.ext x
    replace cB5_1 := cell_ext (x) cB5_1
    clear x
    go_wp2_with fail
    go_ret
    exact ⟨rfl, E⟩
  · obtain ⟨hg1, hg2, hg3⟩ := hg rfl
    have co' := co hg2 hg3
    clear co hg hg2 hg3
    have z2 := x.size
    replace E := E.trans x
    replace LB5 := LB5.ext x
    replace cB5_1 := cell_ext (x) cB5_1
    clear x
    go_wp2_with (refine loadsP (B := B5) (by rfl) rfl rfl LB5 ?_)
    refine (co' _ E).mono ?_
    rintro e w53 ⟨c0, c1, c2, c3, c4, c5, c6, c7, c8, rfl, hf, hq, x⟩
    have HV := hq.now
    have hf8 := flat_tailV hf
    clear hq hf
    have z3 := x.size
    replace E := E.trans x
    replace LB5 := LB5.ext x
    replace cB5_1 := cell_ext (x) cB5_1
    clear x
    have TF54 : True := trivial
    have TB11 : True := trivial
    have TG5 : True := trivial
    go_wp2_with (first | (clear TF54; rw [field9]; simp only [Result.andThen_ok, Oper.upon_value]) | (clear TB11; refine allocsV rfl rfl ?_; intro B11 w11 bB11 cB11 XB11 LB11 RB11; have z4 := XB11.size; replace E := E.trans XB11; replace LB5 := LB5.ext XB11; replace cB5_1 := cell_ext (XB11) cB5_1; replace HV := HV.ext XB11) | (clear TG5; have hRl := (RB11).lt (Nat.zero_lt_succ _); refine storesV (B := B11) rfl rfl rfl (v := (.agg #[c1, c2, c3, c4, c5, c6, c7, c8])) rfl RB11 hf8 ?_; clear LB11; intro s5 G5 LB11 RQ; have z6 := G5.size; replace E := grown_ext E G5 (by omega); replace LB5 := LB5.grown G5 (by omega); replace cB5_1 := cell_grown (G5) cB5_1 (by show B5 ≠ _; omega); replace HV := HV.grown G5 (by first | omega | (dsimp only [New]; omega)); clear RB11; have RB11 := RQ; clear RQ hRl; clear RB11))
    try simp only [Act.put, List.setIfInBounds_toArray, List.set_cons_zero, List.set_cons_succ]
    have hq7 : s5.heap.size ≤ s5.drew.heap.size := Nat.le_refl _
    have z8 := (Ext.refl s5).drew.size
    replace E := E.trans (Ext.refl s5).drew
    replace LB5 := LB5.ext (Ext.refl s5).drew
    replace cB5_1 := cell_ext ((Ext.refl s5).drew) cB5_1
    replace HV := HV.ext (Ext.refl s5).drew
    replace LB11 := LB11.ext (Ext.refl s5).drew
    refine wp_region_held_drew (S := (fun w' => Lay 8 w' B11 (.agg #[c1, c2, c3, c4, c5, c6, c7, c8]))) (by kernel_rfl) LB11 (fun hHeld => ?_)
    refine wpAnyH_take (i := 0) (oi := { dst := some 55, op := Go.Op.load 41 (Go.Operand.tmp 11), type := 41, pos := "law.go:91", after := #[], guard := none }) (v := (.agg #[c1, c2, c3, c4, c5, c6, c7, c8])) rfl (by kernel_rfl) (by kernel_rfl) (by kernel_rfl) (fun _ _ _ h => h) (yieldV (by rfl) rfl rfl fun w' hx => hx) hHeld ?_
    try simp only [Act.put, List.setIfInBounds_toArray, List.set_cons_zero, List.set_cons_succ]
    refine wpAnyH_take (i := 1) (oi := { dst := some 56, op := Go.Op.move (Go.Operand.tmp 1), type := 3, pos := "law.go:91", after := #[], guard := none }) (v := ?v10) rfl (by kernel_rfl) (by kernel_rfl) (by kernel_rfl) (fun _ _ _ h => h) (Or.inl ⟨by rfl, ?hy10⟩) hHeld ?rest10
    case hy10 => (intro w hSw; (try dsimp only at hSw); go_simp; (first | done | with_reducible rfl))
    try simp only [Act.put, List.setIfInBounds_toArray, List.set_cons_zero, List.set_cons_succ]
    refine wpAnyH_take (i := 2) (oi := { dst := some 57, op := Go.Op.move (Go.Operand.tmp 2), type := 3, pos := "law.go:91", after := #[], guard := none }) (v := ?v11) rfl (by kernel_rfl) (by kernel_rfl) (by kernel_rfl) (fun _ _ _ h => h) (Or.inl ⟨by rfl, ?hy11⟩) hHeld ?rest11
    case hy11 => (intro w hSw; (try dsimp only at hSw); go_simp; (first | done | with_reducible rfl))
    try simp only [Act.put, List.setIfInBounds_toArray, List.set_cons_zero, List.set_cons_succ]
    refine wpAnyH_take (i := 3) (oi := { dst := some 58, op := Go.Op.move (Go.Operand.tmp 4), type := 4, pos := "law.go:91", after := #[], guard := none }) (v := ?v12) rfl (by kernel_rfl) (by kernel_rfl) (by kernel_rfl) (fun _ _ _ h => h) (Or.inl ⟨by rfl, ?hy12⟩) hHeld ?rest12
    case hy12 => (intro w hSw; (try dsimp only at hSw); go_simp; (first | done | with_reducible rfl))
    try simp only [Act.put, List.setIfInBounds_toArray, List.set_cons_zero, List.set_cons_succ]
    refine wpAnyH_take (i := 5) (oi := { dst := some 60, op := Go.Op.load 41 (Go.Operand.tmp 11), type := 41, pos := "law.go:91", after := #[], guard := none }) (v := (.agg #[c1, c2, c3, c4, c5, c6, c7, c8])) rfl (by kernel_rfl) (by kernel_rfl) (by kernel_rfl) (fun _ _ _ h => h) (yieldV (by rfl) rfl rfl fun w' hx => hx) hHeld ?_
    try simp only [Act.put, List.setIfInBounds_toArray, List.set_cons_zero, List.set_cons_succ]
    refine wpAnyH_take (i := 6) (oi := { dst := some 61, op := Go.Op.move (Go.Operand.tmp 2), type := 3, pos := "law.go:91", after := #[], guard := none }) (v := ?v14) rfl (by kernel_rfl) (by kernel_rfl) (by kernel_rfl) (fun _ _ _ h => h) (Or.inl ⟨by rfl, ?hy14⟩) hHeld ?rest14
    case hy14 => (intro w hSw; (try dsimp only at hSw); go_simp; (first | done | with_reducible rfl))
    try simp only [Act.put, List.setIfInBounds_toArray, List.set_cons_zero, List.set_cons_succ]
    refine wpAnyH_take (i := 7) (oi := { dst := some 62, op := Go.Op.move (Go.Operand.tmp 3), type := 3, pos := "law.go:91", after := #[], guard := none }) (v := ?v15) rfl (by kernel_rfl) (by kernel_rfl) (by kernel_rfl) (fun _ _ _ h => h) (Or.inl ⟨by rfl, ?hy15⟩) hHeld ?rest15
    case hy15 => (intro w hSw; (try dsimp only at hSw); go_simp; (first | done | with_reducible rfl))
    try simp only [Act.put, List.setIfInBounds_toArray, List.set_cons_zero, List.set_cons_succ]
    refine wpAnyH_take (i := 8) (oi := { dst := some 63, op := Go.Op.move (Go.Operand.tmp 4), type := 4, pos := "law.go:91", after := #[], guard := none }) (v := ?v16) rfl (by kernel_rfl) (by kernel_rfl) (by kernel_rfl) (fun _ _ _ h => h) (Or.inl ⟨by rfl, ?hy16⟩) hHeld ?rest16
    case hy16 => (intro w hSw; (try dsimp only at hSw); go_simp; (first | done | with_reducible rfl))
    try simp only [Act.put, List.setIfInBounds_toArray, List.set_cons_zero, List.set_cons_succ]
    refine wpAnyH_take (i := 10) (oi := { dst := some 65, op := Go.Op.load 41 (Go.Operand.tmp 11), type := 41, pos := "law.go:91", after := #[], guard := none }) (v := (.agg #[c1, c2, c3, c4, c5, c6, c7, c8])) rfl (by kernel_rfl) (by kernel_rfl) (by kernel_rfl) (fun _ _ _ h => h) (yieldV (by rfl) rfl rfl fun w' hx => hx) hHeld ?_
    try simp only [Act.put, List.setIfInBounds_toArray, List.set_cons_zero, List.set_cons_succ]
    refine wpAnyH_take (i := 11) (oi := { dst := some 66, op := Go.Op.move (Go.Operand.tmp 1), type := 3, pos := "law.go:91", after := #[], guard := none }) (v := ?v18) rfl (by kernel_rfl) (by kernel_rfl) (by kernel_rfl) (fun _ _ _ h => h) (Or.inl ⟨by rfl, ?hy18⟩) hHeld ?rest18
    case hy18 => (intro w hSw; (try dsimp only at hSw); go_simp; (first | done | with_reducible rfl))
    try simp only [Act.put, List.setIfInBounds_toArray, List.set_cons_zero, List.set_cons_succ]
    refine wpAnyH_take (i := 12) (oi := { dst := some 67, op := Go.Op.move (Go.Operand.tmp 3), type := 3, pos := "law.go:91", after := #[], guard := none }) (v := ?v19) rfl (by kernel_rfl) (by kernel_rfl) (by kernel_rfl) (fun _ _ _ h => h) (Or.inl ⟨by rfl, ?hy19⟩) hHeld ?rest19
    case hy19 => (intro w hSw; (try dsimp only at hSw); go_simp; (first | done | with_reducible rfl))
    try simp only [Act.put, List.setIfInBounds_toArray, List.set_cons_zero, List.set_cons_succ]
    refine wpAnyH_take (i := 13) (oi := { dst := some 68, op := Go.Op.move (Go.Operand.tmp 4), type := 4, pos := "law.go:91", after := #[], guard := none }) (v := ?v20) rfl (by kernel_rfl) (by kernel_rfl) (by kernel_rfl) (fun _ _ _ h => h) (Or.inl ⟨by rfl, ?hy20⟩) hHeld ?rest20
    case hy20 => (intro w hSw; (try dsimp only at hSw); go_simp; (first | done | with_reducible rfl))
    try simp only [Act.put, List.setIfInBounds_toArray, List.set_cons_zero, List.set_cons_succ]
    refine wpAnyH_ready (rs := [4]) (by kernel_rfl) (by simp) ?_
    refine AllReadyH.cons (o := { dst := some 59, op := Go.Op.call { callee := Go.Callee.value (Go.Operand.func 19), args := #[Go.Operand.tmp 55, Go.Operand.const (Go.Value.int Go.IntKind.i64 1), Go.Operand.tmp 56, Go.Operand.tmp 57, Go.Operand.tmp 58], argTypes := #[41, 3, 3, 3, 4] }, type := 4, pos := "law.go:91", after := #[{ on := 0, ground := Go.Ground.data }, { on := 1, ground := Go.Ground.data }, { on := 2, ground := Go.Ground.data }, { on := 3, ground := Go.Ground.data }], guard := none }) rfl (fun K hK => ?_) (AllReadyH.nil)
    go_simp
    refine (kla _ _ HV.is).mono ?_
    rintro e w59 ⟨rfl, x⟩
    have z21 := x.size
    replace E := E.trans x
    replace LB5 := LB5.ext x
    replace cB5_1 := cell_ext (x) cB5_1
    replace HV := HV.ext x
    replace LB11 := LB11.ext x
    clear x
    clear hHeld
    have hHeld := LB11
    refine hK.out _ _ hHeld (fun _ => ?_)
    clear hK K
    try simp only [Act.put, List.setIfInBounds_toArray, List.set_cons_zero, List.set_cons_succ]
    refine wpAnyH_ready (rs := [9]) (by kernel_rfl) (by simp) ?_
    refine AllReadyH.cons (o := { dst := some 64, op := Go.Op.call { callee := Go.Callee.value (Go.Operand.func 19), args := #[Go.Operand.tmp 60, Go.Operand.const (Go.Value.int Go.IntKind.i64 1), Go.Operand.tmp 61, Go.Operand.tmp 62, Go.Operand.tmp 63], argTypes := #[41, 3, 3, 3, 4] }, type := 4, pos := "law.go:91", after := #[{ on := 5, ground := Go.Ground.data }, { on := 6, ground := Go.Ground.data }, { on := 7, ground := Go.Ground.data }, { on := 8, ground := Go.Ground.data }, { on := 4, ground := Go.Ground.chain }], guard := none }) rfl (fun K hK => ?_) (AllReadyH.nil)
    go_simp
    refine (klb _ _ HV.is).mono ?_
    rintro e w64 ⟨rfl, x⟩
    have z22 := x.size
    replace E := E.trans x
    replace LB5 := LB5.ext x
    replace cB5_1 := cell_ext (x) cB5_1
    replace HV := HV.ext x
    replace LB11 := LB11.ext x
    clear x
    clear hHeld
    have hHeld := LB11
    refine hK.out _ _ hHeld (fun _ => ?_)
    clear hK K
    try simp only [Act.put, List.setIfInBounds_toArray, List.set_cons_zero, List.set_cons_succ]
    refine wpAnyH_ready (rs := [14]) (by kernel_rfl) (by simp) ?_
    refine AllReadyH.cons (o := { dst := some 69, op := Go.Op.call { callee := Go.Callee.value (Go.Operand.func 19), args := #[Go.Operand.tmp 65, Go.Operand.const (Go.Value.int Go.IntKind.i64 1), Go.Operand.tmp 66, Go.Operand.tmp 67, Go.Operand.tmp 68], argTypes := #[41, 3, 3, 3, 4] }, type := 4, pos := "law.go:91", after := #[{ on := 10, ground := Go.Ground.data }, { on := 11, ground := Go.Ground.data }, { on := 12, ground := Go.Ground.data }, { on := 13, ground := Go.Ground.data }, { on := 9, ground := Go.Ground.chain }], guard := none }) rfl (fun K hK => ?_) (AllReadyH.nil)
    go_simp
    refine (klc _ _ HV.is).mono ?_
    rintro e w69 ⟨rfl, x⟩
    have z23 := x.size
    replace E := E.trans x
    replace LB5 := LB5.ext x
    replace cB5_1 := cell_ext (x) cB5_1
    replace HV := HV.ext x
    replace LB11 := LB11.ext x
    clear x
    clear hHeld
    have hHeld := LB11
    refine hK.out _ _ hHeld (fun _ => ?_)
    clear hK K
    try simp only [Act.put, List.setIfInBounds_toArray, List.set_cons_zero, List.set_cons_succ]
    refine wpAnyH_take (i := 15) (oi := { dst := some 12, op := Go.Op.assign (Go.Operand.tmp 59), type := 4, pos := "law.go:91", after := #[{ on := 4, ground := Go.Ground.data }, { on := 14, ground := Go.Ground.chain }, { on := 0, ground := Go.Ground.phase }, { on := 1, ground := Go.Ground.phase }, { on := 2, ground := Go.Ground.phase }, { on := 3, ground := Go.Ground.phase }, { on := 4, ground := Go.Ground.phase }, { on := 5, ground := Go.Ground.textOnly Go.Departure.lateStores }, { on := 6, ground := Go.Ground.textOnly Go.Departure.lateStores }, { on := 7, ground := Go.Ground.textOnly Go.Departure.lateStores }, { on := 8, ground := Go.Ground.textOnly Go.Departure.lateStores }, { on := 9, ground := Go.Ground.textOnly Go.Departure.lateStoresUnsure }, { on := 10, ground := Go.Ground.textOnly Go.Departure.lateStores }, { on := 11, ground := Go.Ground.textOnly Go.Departure.lateStores }, { on := 12, ground := Go.Ground.textOnly Go.Departure.lateStores }, { on := 13, ground := Go.Ground.textOnly Go.Departure.lateStores }, { on := 14, ground := Go.Ground.textOnly Go.Departure.lateStoresUnsure }], guard := none }) (v := ?v24) rfl (by kernel_rfl) (by kernel_rfl) (by kernel_rfl) (fun _ _ _ h => h) (Or.inl ⟨by rfl, ?hy24⟩) hHeld ?rest24
    case hy24 => (intro w hSw; (try dsimp only at hSw); go_simp; (first | done | with_reducible rfl))
    try simp only [Act.put, List.setIfInBounds_toArray, List.set_cons_zero, List.set_cons_succ]
    refine wpAnyH_take (i := 16) (oi := { dst := some 13, op := Go.Op.assign (Go.Operand.tmp 64), type := 4, pos := "law.go:91", after := #[{ on := 9, ground := Go.Ground.data }, { on := 15, ground := Go.Ground.chain }, { on := 0, ground := Go.Ground.phase }, { on := 1, ground := Go.Ground.phase }, { on := 2, ground := Go.Ground.phase }, { on := 3, ground := Go.Ground.phase }, { on := 4, ground := Go.Ground.phase }, { on := 5, ground := Go.Ground.phase }, { on := 6, ground := Go.Ground.phase }, { on := 7, ground := Go.Ground.phase }, { on := 8, ground := Go.Ground.phase }, { on := 9, ground := Go.Ground.phase }, { on := 10, ground := Go.Ground.textOnly Go.Departure.lateStores }, { on := 11, ground := Go.Ground.textOnly Go.Departure.lateStores }, { on := 12, ground := Go.Ground.textOnly Go.Departure.lateStores }, { on := 13, ground := Go.Ground.textOnly Go.Departure.lateStores }, { on := 14, ground := Go.Ground.textOnly Go.Departure.lateStoresUnsure }, { on := 15, ground := Go.Ground.phase }], guard := none }) (v := ?v25) rfl (by kernel_rfl) (by kernel_rfl) (by kernel_rfl) (fun _ _ _ h => h) (Or.inl ⟨by rfl, ?hy25⟩) hHeld ?rest25
    case hy25 => (intro w hSw; (try dsimp only at hSw); go_simp; (first | done | with_reducible rfl))
    try simp only [Act.put, List.setIfInBounds_toArray, List.set_cons_zero, List.set_cons_succ]
    refine wpAnyH_take (i := 17) (oi := { dst := some 14, op := Go.Op.assign (Go.Operand.tmp 69), type := 4, pos := "law.go:91", after := #[{ on := 14, ground := Go.Ground.data }, { on := 16, ground := Go.Ground.chain }, { on := 0, ground := Go.Ground.phase }, { on := 1, ground := Go.Ground.phase }, { on := 2, ground := Go.Ground.phase }, { on := 3, ground := Go.Ground.phase }, { on := 4, ground := Go.Ground.phase }, { on := 5, ground := Go.Ground.phase }, { on := 6, ground := Go.Ground.phase }, { on := 7, ground := Go.Ground.phase }, { on := 8, ground := Go.Ground.phase }, { on := 9, ground := Go.Ground.phase }, { on := 10, ground := Go.Ground.phase }, { on := 11, ground := Go.Ground.phase }, { on := 12, ground := Go.Ground.phase }, { on := 13, ground := Go.Ground.phase }, { on := 14, ground := Go.Ground.phase }, { on := 15, ground := Go.Ground.phase }, { on := 16, ground := Go.Ground.phase }], guard := none }) (v := ?v26) rfl (by kernel_rfl) (by kernel_rfl) (by kernel_rfl) (fun _ _ _ h => h) (Or.inl ⟨by rfl, ?hy26⟩) hHeld ?rest26
    case hy26 => (intro w hSw; (try dsimp only at hSw); go_simp; (first | done | with_reducible rfl))
    try simp only [Act.put, List.setIfInBounds_toArray, List.set_cons_zero, List.set_cons_succ]
    refine wpAnyH_done (by kernel_rfl) ?_ _
    go_wp2_with fail
    try simp only [Act.put, List.setIfInBounds_toArray, List.set_cons_zero, List.set_cons_succ]
    have hq27 : w69.heap.size ≤ w69.drew.heap.size := Nat.le_refl _
    have z28 := (Ext.refl w69).drew.size
    replace E := E.trans (Ext.refl w69).drew
    replace LB5 := LB5.ext (Ext.refl w69).drew
    replace cB5_1 := cell_ext ((Ext.refl w69).drew) cB5_1
    replace HV := HV.ext (Ext.refl w69).drew
    replace LB11 := LB11.ext (Ext.refl w69).drew
    refine wp_region_held_drew (S := (fun w' => Lay 8 w' B11 (.agg #[c1, c2, c3, c4, c5, c6, c7, c8]))) (by kernel_rfl) LB11 (fun hHeld => ?_)
    refine wpAnyH_take (i := 0) (oi := { dst := some 70, op := Go.Op.move (Go.Operand.tmp 12), type := 4, pos := "law.go:92", after := #[], guard := none }) (v := ?v29) rfl (by kernel_rfl) (by kernel_rfl) (by kernel_rfl) (fun _ _ _ h => h) (Or.inl ⟨by rfl, ?hy29⟩) hHeld ?rest29
    case hy29 => (intro w hSw; (try dsimp only at hSw); go_simp; (first | done | with_reducible rfl))
    try simp only [Act.put, List.setIfInBounds_toArray, List.set_cons_zero, List.set_cons_succ]
    refine wpAnyH_take (i := 1) (oi := { dst := some 71, op := Go.Op.load 41 (Go.Operand.tmp 11), type := 41, pos := "law.go:92", after := #[], guard := none }) (v := (.agg #[c1, c2, c3, c4, c5, c6, c7, c8])) rfl (by kernel_rfl) (by kernel_rfl) (by kernel_rfl) (fun _ _ _ h => h) (yieldV (by rfl) rfl rfl fun w' hx => hx) hHeld ?_
    try simp only [Act.put, List.setIfInBounds_toArray, List.set_cons_zero, List.set_cons_succ]
    refine wpAnyH_take (i := 2) (oi := { dst := some 72, op := Go.Op.move (Go.Operand.tmp 2), type := 3, pos := "law.go:92", after := #[], guard := none }) (v := ?v31) rfl (by kernel_rfl) (by kernel_rfl) (by kernel_rfl) (fun _ _ _ h => h) (Or.inl ⟨by rfl, ?hy31⟩) hHeld ?rest31
    case hy31 => (intro w hSw; (try dsimp only at hSw); go_simp; (first | done | with_reducible rfl))
    try simp only [Act.put, List.setIfInBounds_toArray, List.set_cons_zero, List.set_cons_succ]
    refine wpAnyH_take (i := 3) (oi := { dst := some 73, op := Go.Op.move (Go.Operand.tmp 1), type := 3, pos := "law.go:92", after := #[], guard := none }) (v := ?v32) rfl (by kernel_rfl) (by kernel_rfl) (by kernel_rfl) (fun _ _ _ h => h) (Or.inl ⟨by rfl, ?hy32⟩) hHeld ?rest32
    case hy32 => (intro w hSw; (try dsimp only at hSw); go_simp; (first | done | with_reducible rfl))
    try simp only [Act.put, List.setIfInBounds_toArray, List.set_cons_zero, List.set_cons_succ]
    refine wpAnyH_take (i := 4) (oi := { dst := some 74, op := Go.Op.move (Go.Operand.tmp 4), type := 4, pos := "law.go:92", after := #[], guard := none }) (v := ?v33) rfl (by kernel_rfl) (by kernel_rfl) (by kernel_rfl) (fun _ _ _ h => h) (Or.inl ⟨by rfl, ?hy33⟩) hHeld ?rest33
    case hy33 => (intro w hSw; (try dsimp only at hSw); go_simp; (first | done | with_reducible rfl))
    try simp only [Act.put, List.setIfInBounds_toArray, List.set_cons_zero, List.set_cons_succ]
    refine wpAnyH_take (i := 7) (oi := { dst := some 77, op := Go.Op.move (Go.Operand.tmp 1), type := 3, pos := "law.go:92", after := #[], guard := none }) (v := ?v34) rfl (by kernel_rfl) (by kernel_rfl) (by kernel_rfl) (fun _ _ _ h => h) (Or.inl ⟨by rfl, ?hy34⟩) hHeld ?rest34
    case hy34 => (intro w hSw; (try dsimp only at hSw); go_simp; (first | done | with_reducible rfl))
    try simp only [Act.put, List.setIfInBounds_toArray, List.set_cons_zero, List.set_cons_succ]
    refine wpAnyH_take (i := 8) (oi := { dst := some 78, op := Go.Op.move (Go.Operand.tmp 2), type := 3, pos := "law.go:92", after := #[], guard := none }) (v := ?v35) rfl (by kernel_rfl) (by kernel_rfl) (by kernel_rfl) (fun _ _ _ h => h) (Or.inl ⟨by rfl, ?hy35⟩) hHeld ?rest35
    case hy35 => (intro w hSw; (try dsimp only at hSw); go_simp; (first | done | with_reducible rfl))
    try simp only [Act.put, List.setIfInBounds_toArray, List.set_cons_zero, List.set_cons_succ]
    refine wpAnyH_take (i := 9) (oi := { dst := some 79, op := Go.Op.binOp Go.BinOp.neq 3 (Go.Operand.tmp 77) (Go.Operand.tmp 78) 3, type := 4, pos := "law.go:92", after := #[{ on := 7, ground := Go.Ground.data }, { on := 8, ground := Go.Ground.data }], guard := none }) (v := ?v36) rfl (by kernel_rfl) (by kernel_rfl) (by kernel_rfl) (fun _ _ _ h => h) (Or.inl ⟨by rfl, ?hy36⟩) hHeld ?rest36
    case hy36 => (intro w hSw; (try dsimp only at hSw); go_simp; (first | done | with_reducible rfl))
    try simp only [Act.put, List.setIfInBounds_toArray, List.set_cons_zero, List.set_cons_succ]
    refine wpAnyH_ready (rs := [5]) (by kernel_rfl) (by simp) ?_
    refine AllReadyH.cons (o := { dst := some 75, op := Go.Op.call { callee := Go.Callee.value (Go.Operand.func 19), args := #[Go.Operand.tmp 71, Go.Operand.const (Go.Value.int Go.IntKind.i64 1), Go.Operand.tmp 72, Go.Operand.tmp 73, Go.Operand.tmp 74], argTypes := #[41, 3, 3, 3, 4] }, type := 4, pos := "law.go:92", after := #[{ on := 1, ground := Go.Ground.data }, { on := 2, ground := Go.Ground.data }, { on := 3, ground := Go.Ground.data }, { on := 4, ground := Go.Ground.data }], guard := none }) rfl (fun K hK => ?_) (AllReadyH.nil)
    go_simp
    refine (kld _ _ HV.is).mono ?_
    rintro e w75 ⟨rfl, x⟩
    have z37 := x.size
    replace E := E.trans x
    replace LB5 := LB5.ext x
    replace cB5_1 := cell_ext (x) cB5_1
    replace HV := HV.ext x
    replace LB11 := LB11.ext x
    clear x
    clear hHeld
    have hHeld := LB11
    refine hK.out _ _ hHeld (fun _ => ?_)
    clear hK K
    try simp only [Act.put, List.setIfInBounds_toArray, List.set_cons_zero, List.set_cons_succ]
    refine wpAnyH_take (i := 6) (oi := { dst := some 76, op := Go.Op.binOp Go.BinOp.neq 4 (Go.Operand.tmp 70) (Go.Operand.tmp 75) 4, type := 4, pos := "law.go:92", after := #[{ on := 0, ground := Go.Ground.data }, { on := 5, ground := Go.Ground.data }], guard := none }) (v := ?v38) rfl (by kernel_rfl) (by kernel_rfl) (by kernel_rfl) (fun _ _ _ h => h) (Or.inl ⟨by rfl, ?hy38⟩) hHeld ?rest38
    case hy38 => (intro w hSw; (try dsimp only at hSw); go_simp; (first | done | with_reducible rfl))
    try simp only [Act.put, List.setIfInBounds_toArray, List.set_cons_zero, List.set_cons_succ]
    refine wpAnyH_take (i := 10) (oi := { dst := some 80, op := Go.Op.binOp Go.BinOp.eql 4 (Go.Operand.tmp 76) (Go.Operand.tmp 79) 4, type := 4, pos := "law.go:92", after := #[{ on := 6, ground := Go.Ground.data }, { on := 9, ground := Go.Ground.data }], guard := none }) (v := ?v39) rfl (by kernel_rfl) (by kernel_rfl) (by kernel_rfl) (fun _ _ _ h => h) (Or.inl ⟨by rfl, ?hy39⟩) hHeld ?rest39
    case hy39 => (intro w hSw; (try dsimp only at hSw); go_simp; (first | done | with_reducible rfl))
    try simp only [Act.put, List.setIfInBounds_toArray, List.set_cons_zero, List.set_cons_succ]
    refine wpAnyH_take (i := 11) (oi := { dst := some 81, op := Go.Op.move (Go.Operand.tmp 80), type := 4, pos := "law.go:92", after := #[{ on := 10, ground := Go.Ground.data }, { on := 5, ground := Go.Ground.chain }], guard := none }) (v := ?v40) rfl (by kernel_rfl) (by kernel_rfl) (by kernel_rfl) (fun _ _ _ h => h) (Or.inl ⟨by rfl, ?hy40⟩) hHeld ?rest40
    case hy40 => (intro w hSw; (try dsimp only at hSw); go_simp; (first | done | with_reducible rfl))
    try simp only [Act.put, List.setIfInBounds_toArray, List.set_cons_zero, List.set_cons_succ]
    refine wpAnyH_take (i := 12) (oi := { dst := some 82, op := Go.Op.move (Go.Operand.tmp 12), type := 4, pos := "law.go:92", after := #[{ on := 11, ground := Go.Ground.guard }], guard := some (11, true) }) (v := ?v41) rfl (by kernel_rfl) (by kernel_rfl) (by kernel_rfl) (fun _ _ _ h => h) (Or.inl ⟨by rfl, ?hy41⟩) hHeld ?rest41
    case hy41 => (intro w hSw; (try dsimp only at hSw); go_simp; (first | done | with_reducible rfl))
    try simp only [Act.put, List.setIfInBounds_toArray, List.set_cons_zero, List.set_cons_succ]
    refine wpAnyH_take (i := 13) (oi := { dst := some 83, op := Go.Op.unOp Go.UnOp.not 4 (Go.Operand.tmp 82), type := 4, pos := "law.go:92", after := #[{ on := 12, ground := Go.Ground.data }, { on := 11, ground := Go.Ground.guard }], guard := some (11, true) }) (v := ?v42) rfl (by kernel_rfl) (by kernel_rfl) (by kernel_rfl) (fun _ _ _ h => h) (Or.inl ⟨by rfl, ?hy42⟩) hHeld ?rest42
    case hy42 => (intro w hSw; (try dsimp only at hSw); go_simp; (first | done | with_reducible rfl))
    try simp only [Act.put, List.setIfInBounds_toArray, List.set_cons_zero, List.set_cons_succ]
    refine wpAnyH_take (i := 14) (oi := { dst := some 84, op := Go.Op.move (Go.Operand.tmp 83), type := 4, pos := "law.go:92", after := #[{ on := 13, ground := Go.Ground.data }, { on := 11, ground := Go.Ground.chain }, { on := 11, ground := Go.Ground.guard }], guard := some (11, true) }) (v := ?v43) rfl (by kernel_rfl) (by kernel_rfl) (by kernel_rfl) (fun _ _ _ h => h) (Or.inl ⟨by rfl, ?hy43⟩) hHeld ?rest43
    case hy43 => (intro w hSw; (try dsimp only at hSw); go_simp; (first | done | with_reducible rfl))
    try simp only [Act.put, List.setIfInBounds_toArray, List.set_cons_zero, List.set_cons_succ]
    refine wpAnyH_take (i := 15) (oi := { dst := some 85, op := Go.Op.move (Go.Operand.tmp 13), type := 4, pos := "law.go:92", after := #[{ on := 14, ground := Go.Ground.guard }], guard := some (14, false) }) (v := ?v44) rfl (by kernel_rfl) (by kernel_rfl) (by kernel_rfl) (fun _ _ _ h => h) (Or.inl ⟨by rfl, ?hy44⟩) hHeld ?rest44
    case hy44 => (intro w hSw; (try dsimp only at hSw); go_simp; (first | done | with_reducible rfl))
    try simp only [Act.put, List.setIfInBounds_toArray, List.set_cons_zero, List.set_cons_succ]
    refine wpAnyH_take (i := 16) (oi := { dst := some 86, op := Go.Op.unOp Go.UnOp.not 4 (Go.Operand.tmp 85), type := 4, pos := "law.go:92", after := #[{ on := 15, ground := Go.Ground.data }, { on := 14, ground := Go.Ground.guard }], guard := some (14, false) }) (v := ?v45) rfl (by kernel_rfl) (by kernel_rfl) (by kernel_rfl) (fun _ _ _ h => h) (Or.inl ⟨by rfl, ?hy45⟩) hHeld ?rest45
    case hy45 => (intro w hSw; (try dsimp only at hSw); go_simp; (first | done | with_reducible rfl))
    try simp only [Act.put, List.setIfInBounds_toArray, List.set_cons_zero, List.set_cons_succ]
    refine wpAnyH_take (i := 17) (oi := { dst := some 87, op := Go.Op.pick (Go.Operand.tmp 84) (Go.Operand.const (Go.Value.bool true)) (Go.Operand.tmp 86), type := 4, pos := "law.go:92", after := #[{ on := 14, ground := Go.Ground.data }, { on := 16, ground := Go.Ground.data }, { on := 11, ground := Go.Ground.guard }], guard := some (11, true) }) (v := ?v46) rfl (by kernel_rfl) (by kernel_rfl) (by kernel_rfl) (fun _ _ _ h => h) (Or.inl ⟨by rfl, ?hy46⟩) hHeld ?rest46
    case hy46 => (intro w hSw; (try dsimp only at hSw); go_simp; (first | done | with_reducible rfl))
    try simp only [Act.put, List.setIfInBounds_toArray, List.set_cons_zero, List.set_cons_succ]
    refine wpAnyH_take (i := 18) (oi := { dst := some 88, op := Go.Op.move (Go.Operand.tmp 87), type := 4, pos := "law.go:92", after := #[{ on := 17, ground := Go.Ground.data }, { on := 14, ground := Go.Ground.chain }, { on := 11, ground := Go.Ground.guard }], guard := some (11, true) }) (v := ?v47) rfl (by kernel_rfl) (by kernel_rfl) (by kernel_rfl) (fun _ _ _ h => h) (Or.inl ⟨by rfl, ?hy47⟩) hHeld ?rest47
    case hy47 => (intro w hSw; (try dsimp only at hSw); go_simp; (first | done | with_reducible rfl))
    try simp only [Act.put, List.setIfInBounds_toArray, List.set_cons_zero, List.set_cons_succ]
    refine wpAnyH_take (i := 19) (oi := { dst := some 89, op := Go.Op.move (Go.Operand.tmp 14), type := 4, pos := "law.go:92", after := #[{ on := 18, ground := Go.Ground.guard }], guard := some (18, false) }) (v := ?v48) rfl (by kernel_rfl) (by kernel_rfl) (by kernel_rfl) (fun _ _ _ h => h) (Or.inl ⟨by rfl, ?hy48⟩) hHeld ?rest48
    case hy48 => (intro w hSw; (try dsimp only at hSw); go_simp; (first | done | with_reducible rfl))
    try simp only [Act.put, List.setIfInBounds_toArray, List.set_cons_zero, List.set_cons_succ]
    refine wpAnyH_take (i := 20) (oi := { dst := some 90, op := Go.Op.pick (Go.Operand.tmp 88) (Go.Operand.const (Go.Value.bool true)) (Go.Operand.tmp 89), type := 4, pos := "law.go:92", after := #[{ on := 18, ground := Go.Ground.data }, { on := 19, ground := Go.Ground.data }, { on := 11, ground := Go.Ground.guard }], guard := some (11, true) }) (v := ?v49) rfl (by kernel_rfl) (by kernel_rfl) (by kernel_rfl) (fun _ _ _ h => h) (Or.inl ⟨by rfl, ?hy49⟩) hHeld ?rest49
    case hy49 => (intro w hSw; (try dsimp only at hSw); go_simp; (first | done | with_reducible rfl))
    try simp only [Act.put, List.setIfInBounds_toArray, List.set_cons_zero, List.set_cons_succ]
    refine wpAnyH_take (i := 21) (oi := { dst := some 91, op := Go.Op.pick (Go.Operand.tmp 81) (Go.Operand.tmp 90) (Go.Operand.const (Go.Value.bool false)), type := 4, pos := "law.go:92", after := #[{ on := 11, ground := Go.Ground.data }, { on := 20, ground := Go.Ground.data }], guard := none }) (v := ?v50) rfl (by kernel_rfl) (by kernel_rfl) (by kernel_rfl) (fun _ _ _ h => h) (Or.inl ⟨by rfl, ?hy50⟩) hHeld ?rest50
    case hy50 => (intro w hSw; (try dsimp only at hSw); go_simp; (first | done | with_reducible rfl))
    try simp only [Act.put, List.setIfInBounds_toArray, List.set_cons_zero, List.set_cons_succ]
    refine wpAnyH_take (i := 22) (oi := { dst := some 92, op := Go.Op.move (Go.Operand.tmp 91), type := 4, pos := "law.go:92", after := #[{ on := 21, ground := Go.Ground.data }, { on := 18, ground := Go.Ground.chain }], guard := none }) (v := ?v51) rfl (by kernel_rfl) (by kernel_rfl) (by kernel_rfl) (fun _ _ _ h => h) (Or.inl ⟨by rfl, ?hy51⟩) hHeld ?rest51
    case hy51 => (intro w hSw; (try dsimp only at hSw); go_simp; (first | done | with_reducible rfl))
    try simp only [Act.put, List.setIfInBounds_toArray, List.set_cons_zero, List.set_cons_succ]
    refine wpAnyH_take (i := 23) (oi := { dst := some 93, op := Go.Op.load 41 (Go.Operand.tmp 11), type := 41, pos := "law.go:92", after := #[{ on := 22, ground := Go.Ground.guard }], guard := some (22, true) }) (v := (.agg #[c1, c2, c3, c4, c5, c6, c7, c8])) rfl (by kernel_rfl) (by kernel_rfl) (by kernel_rfl) (fun _ _ _ h => h) (yieldV (by rfl) rfl rfl fun w' hx => hx) hHeld ?_
    try simp only [Act.put, List.setIfInBounds_toArray, List.set_cons_zero, List.set_cons_succ]
    refine wpAnyH_take (i := 24) (oi := { dst := some 94, op := Go.Op.move (Go.Operand.tmp 1), type := 3, pos := "law.go:92", after := #[{ on := 22, ground := Go.Ground.guard }], guard := some (22, true) }) (v := ?v53) rfl (by kernel_rfl) (by kernel_rfl) (by kernel_rfl) (fun _ _ _ h => h) (Or.inl ⟨by rfl, ?hy53⟩) hHeld ?rest53
    case hy53 => (intro w hSw; (try dsimp only at hSw); go_simp; (first | done | with_reducible rfl))
    try simp only [Act.put, List.setIfInBounds_toArray, List.set_cons_zero, List.set_cons_succ]
    refine wpAnyH_take (i := 25) (oi := { dst := some 95, op := Go.Op.move (Go.Operand.tmp 2), type := 3, pos := "law.go:92", after := #[{ on := 22, ground := Go.Ground.guard }], guard := some (22, true) }) (v := ?v54) rfl (by kernel_rfl) (by kernel_rfl) (by kernel_rfl) (fun _ _ _ h => h) (Or.inl ⟨by rfl, ?hy54⟩) hHeld ?rest54
    case hy54 => (intro w hSw; (try dsimp only at hSw); go_simp; (first | done | with_reducible rfl))
    try simp only [Act.put, List.setIfInBounds_toArray, List.set_cons_zero, List.set_cons_succ]
    refine wpAnyH_take (i := 27) (oi := { dst := some 97, op := Go.Op.load 41 (Go.Operand.tmp 11), type := 41, pos := "law.go:92", after := #[{ on := 22, ground := Go.Ground.guard }], guard := some (22, true) }) (v := (.agg #[c1, c2, c3, c4, c5, c6, c7, c8])) rfl (by kernel_rfl) (by kernel_rfl) (by kernel_rfl) (fun _ _ _ h => h) (yieldV (by rfl) rfl rfl fun w' hx => hx) hHeld ?_
    try simp only [Act.put, List.setIfInBounds_toArray, List.set_cons_zero, List.set_cons_succ]
    refine wpAnyH_take (i := 28) (oi := { dst := some 98, op := Go.Op.move (Go.Operand.tmp 2), type := 3, pos := "law.go:92", after := #[{ on := 22, ground := Go.Ground.guard }], guard := some (22, true) }) (v := ?v56) rfl (by kernel_rfl) (by kernel_rfl) (by kernel_rfl) (fun _ _ _ h => h) (Or.inl ⟨by rfl, ?hy56⟩) hHeld ?rest56
    case hy56 => (intro w hSw; (try dsimp only at hSw); go_simp; (first | done | with_reducible rfl))
    try simp only [Act.put, List.setIfInBounds_toArray, List.set_cons_zero, List.set_cons_succ]
    refine wpAnyH_take (i := 29) (oi := { dst := some 99, op := Go.Op.move (Go.Operand.tmp 1), type := 3, pos := "law.go:92", after := #[{ on := 22, ground := Go.Ground.guard }], guard := some (22, true) }) (v := ?v57) rfl (by kernel_rfl) (by kernel_rfl) (by kernel_rfl) (fun _ _ _ h => h) (Or.inl ⟨by rfl, ?hy57⟩) hHeld ?rest57
    case hy57 => (intro w hSw; (try dsimp only at hSw); go_simp; (first | done | with_reducible rfl))
    try simp only [Act.put, List.setIfInBounds_toArray, List.set_cons_zero, List.set_cons_succ]
    refine wpAnyH_ready (rs := [26]) (by kernel_rfl) (by simp) ?_
    refine AllReadyH.cons (o := { dst := some 96, op := Go.Op.call { callee := Go.Callee.value (Go.Operand.func 17), args := #[Go.Operand.tmp 93, Go.Operand.const (Go.Value.int Go.IntKind.i64 1), Go.Operand.tmp 94, Go.Operand.tmp 95], argTypes := #[41, 3, 3, 3] }, type := 3, pos := "law.go:92", after := #[{ on := 23, ground := Go.Ground.data }, { on := 24, ground := Go.Ground.data }, { on := 25, ground := Go.Ground.data }, { on := 22, ground := Go.Ground.chain }, { on := 22, ground := Go.Ground.guard }], guard := some (22, true) }) rfl (fun K hK => ?_) (AllReadyH.nil)
    go_simp
    refine (kca _ _ HV.is).mono ?_
    rintro e w96 ⟨rfl, x⟩
    have z58 := x.size
    replace E := E.trans x
    replace LB5 := LB5.ext x
    replace cB5_1 := cell_ext (x) cB5_1
    replace HV := HV.ext x
    replace LB11 := LB11.ext x
    clear x
    clear hHeld
    have hHeld := LB11
    refine hK.out _ _ hHeld (fun _ => ?_)
    clear hK K
    try simp only [Act.put, List.setIfInBounds_toArray, List.set_cons_zero, List.set_cons_succ]
    refine wpAnyH_ready (rs := [30]) (by kernel_rfl) (by simp) ?_
    refine AllReadyH.cons (o := { dst := some 100, op := Go.Op.call { callee := Go.Callee.value (Go.Operand.func 17), args := #[Go.Operand.tmp 97, Go.Operand.const (Go.Value.int Go.IntKind.i64 1), Go.Operand.tmp 98, Go.Operand.tmp 99], argTypes := #[41, 3, 3, 3] }, type := 3, pos := "law.go:92", after := #[{ on := 27, ground := Go.Ground.data }, { on := 28, ground := Go.Ground.data }, { on := 29, ground := Go.Ground.data }, { on := 26, ground := Go.Ground.chain }, { on := 22, ground := Go.Ground.guard }], guard := some (22, true) }) rfl (fun K hK => ?_) (AllReadyH.nil)
    go_simp
    refine (kcb _ _ HV.is).mono ?_
    rintro e w100 ⟨rfl, x⟩
    have z59 := x.size
    replace E := E.trans x
    replace LB5 := LB5.ext x
    replace cB5_1 := cell_ext (x) cB5_1
    replace HV := HV.ext x
    replace LB11 := LB11.ext x
    clear x
    clear hHeld
    have hHeld := LB11
    refine hK.out _ _ hHeld (fun _ => ?_)
    clear hK K
    try simp only [Act.put, List.setIfInBounds_toArray, List.set_cons_zero, List.set_cons_succ]
    refine wpAnyH_take (i := 31) (oi := { dst := some 101, op := Go.Op.unOp Go.UnOp.neg 3 (Go.Operand.tmp 100), type := 3, pos := "law.go:92", after := #[{ on := 30, ground := Go.Ground.data }, { on := 22, ground := Go.Ground.guard }], guard := some (22, true) }) (v := ?v60) rfl (by kernel_rfl) (by kernel_rfl) (by kernel_rfl) (fun _ _ _ h => h) (Or.inl ⟨by rfl, ?hy60⟩) hHeld ?rest60
    case hy60 => (intro w hSw; (try dsimp only at hSw); go_simp; (first | done | with_reducible rfl))
    try simp only [Act.put, List.setIfInBounds_toArray, List.set_cons_zero, List.set_cons_succ]
    refine wpAnyH_take (i := 32) (oi := { dst := some 102, op := Go.Op.binOp Go.BinOp.eql 3 (Go.Operand.tmp 96) (Go.Operand.tmp 101) 3, type := 4, pos := "law.go:92", after := #[{ on := 26, ground := Go.Ground.data }, { on := 31, ground := Go.Ground.data }, { on := 22, ground := Go.Ground.guard }], guard := some (22, true) }) (v := ?v61) rfl (by kernel_rfl) (by kernel_rfl) (by kernel_rfl) (fun _ _ _ h => h) (Or.inl ⟨by rfl, ?hy61⟩) hHeld ?rest61
    case hy61 => (intro w hSw; (try dsimp only at hSw); go_simp; (first | done | with_reducible rfl))
    try simp only [Act.put, List.setIfInBounds_toArray, List.set_cons_zero, List.set_cons_succ]
    refine wpAnyH_take (i := 33) (oi := { dst := some 103, op := Go.Op.pick (Go.Operand.tmp 92) (Go.Operand.tmp 102) (Go.Operand.const (Go.Value.bool false)), type := 4, pos := "law.go:92", after := #[{ on := 22, ground := Go.Ground.data }, { on := 32, ground := Go.Ground.data }], guard := none }) (v := ?v62) rfl (by kernel_rfl) (by kernel_rfl) (by kernel_rfl) (fun _ _ _ h => h) (Or.inl ⟨by rfl, ?hy62⟩) hHeld ?rest62
    case hy62 => (intro w hSw; (try dsimp only at hSw); go_simp; (first | done | with_reducible rfl))
    try simp only [Act.put, List.setIfInBounds_toArray, List.set_cons_zero, List.set_cons_succ]
    refine wpAnyH_take (i := 34) (oi := { dst := some 104, op := Go.Op.move (Go.Operand.tmp 103), type := 4, pos := "law.go:92", after := #[{ on := 33, ground := Go.Ground.data }, { on := 30, ground := Go.Ground.chain }], guard := none }) (v := ?v63) rfl (by kernel_rfl) (by kernel_rfl) (by kernel_rfl) (fun _ _ _ h => h) (Or.inl ⟨by rfl, ?hy63⟩) hHeld ?rest63
    case hy63 => (intro w hSw; (try dsimp only at hSw); go_simp; (first | done | with_reducible rfl))
    try simp only [Act.put, List.setIfInBounds_toArray, List.set_cons_zero, List.set_cons_succ]
    refine wpAnyH_ready (rs := [35]) (by kernel_rfl) (by simp) ?_
    refine AllReadyH.cons (o := { dst := some 105, op := Go.Op.call { callee := Go.Callee.value (Go.Operand.func 11), args := #[], argTypes := #[] }, type := 4, pos := "law.go:92", after := #[{ on := 34, ground := Go.Ground.chain }, { on := 34, ground := Go.Ground.guard }], guard := some (34, true) }) rfl (fun K hK => ?_) (AllReadyH.nil)
    go_simp
    rw [if_pos (by rw [IntKind.wrap_i64]; omega)]
    refine (oawake_any _).mono ?_
    rintro e w105 ⟨rfl, x⟩
    have z64 := x.size
    replace E := E.trans x
    replace LB5 := LB5.ext x
    replace cB5_1 := cell_ext (x) cB5_1
    replace HV := HV.ext x
    replace LB11 := LB11.ext x
    clear x
    clear hHeld
    have hHeld := LB11
    refine hK.out _ _ hHeld (fun _ => ?_)
    clear hK K
    try simp only [Act.put, List.setIfInBounds_toArray, List.set_cons_zero, List.set_cons_succ]
    refine wpAnyH_take (i := 36) (oi := { dst := some 106, op := Go.Op.pick (Go.Operand.tmp 104) (Go.Operand.tmp 105) (Go.Operand.const (Go.Value.bool false)), type := 4, pos := "law.go:92", after := #[{ on := 34, ground := Go.Ground.data }, { on := 35, ground := Go.Ground.data }], guard := none }) (v := ?v65) rfl (by kernel_rfl) (by kernel_rfl) (by kernel_rfl) (fun _ _ _ h => h) (Or.inl ⟨by rfl, ?hy65⟩) hHeld ?rest65
    case hy65 => (intro w hSw; (try dsimp only at hSw); go_simp; (first | done | with_reducible rfl))
    try simp only [Act.put, List.setIfInBounds_toArray, List.set_cons_zero, List.set_cons_succ]
    refine wpAnyH_take (i := 37) (oi := { dst := some 10, op := Go.Op.assign (Go.Operand.tmp 106), type := 4, pos := "law.go:92", after := #[{ on := 36, ground := Go.Ground.data }, { on := 35, ground := Go.Ground.chain }, { on := 0, ground := Go.Ground.phase }, { on := 1, ground := Go.Ground.phase }, { on := 2, ground := Go.Ground.phase }, { on := 3, ground := Go.Ground.phase }, { on := 4, ground := Go.Ground.phase }, { on := 5, ground := Go.Ground.phase }, { on := 6, ground := Go.Ground.phase }, { on := 7, ground := Go.Ground.phase }, { on := 8, ground := Go.Ground.phase }, { on := 9, ground := Go.Ground.phase }, { on := 10, ground := Go.Ground.phase }, { on := 11, ground := Go.Ground.phase }, { on := 12, ground := Go.Ground.phase }, { on := 13, ground := Go.Ground.phase }, { on := 14, ground := Go.Ground.phase }, { on := 15, ground := Go.Ground.phase }, { on := 16, ground := Go.Ground.phase }, { on := 17, ground := Go.Ground.phase }, { on := 18, ground := Go.Ground.phase }, { on := 19, ground := Go.Ground.phase }, { on := 20, ground := Go.Ground.phase }, { on := 21, ground := Go.Ground.phase }, { on := 22, ground := Go.Ground.phase }, { on := 23, ground := Go.Ground.phase }, { on := 24, ground := Go.Ground.phase }, { on := 25, ground := Go.Ground.phase }, { on := 26, ground := Go.Ground.phase }, { on := 27, ground := Go.Ground.phase }, { on := 28, ground := Go.Ground.phase }, { on := 29, ground := Go.Ground.phase }, { on := 30, ground := Go.Ground.phase }, { on := 31, ground := Go.Ground.phase }, { on := 32, ground := Go.Ground.phase }, { on := 33, ground := Go.Ground.phase }, { on := 34, ground := Go.Ground.phase }, { on := 35, ground := Go.Ground.phase }, { on := 36, ground := Go.Ground.phase }], guard := none }) (v := ?v66) rfl (by kernel_rfl) (by kernel_rfl) (by kernel_rfl) (fun _ _ _ h => h) (Or.inl ⟨by rfl, ?hy66⟩) hHeld ?rest66
    case hy66 => (intro w hSw; (try dsimp only at hSw); go_simp; (first | done | with_reducible rfl))
    try simp only [Act.put, List.setIfInBounds_toArray, List.set_cons_zero, List.set_cons_succ]
    refine wpAnyH_done (by kernel_rfl) ?_ _
    go_wp2_with fail
    go_ret
    have e102 : (-cz == IntKind.i64.wrap (-cz)) = true := by rw [IntKind.wrap_i64]; simp; omega
    exact ⟨by show Ending.returned (.bool (-cz == IntKind.i64.wrap (-cz))) = _; rw [e102], E⟩
theorem ototal_m6 (sA : Option Addr) (ns sc : Nat) (iA : Option Addr) (m ic : Nat) (fl zc : Int) (w : World)
    (cg : ∀ w', Ext w w' → Calls Try.prog 14 #[(.agg #[.slice sA ns sc, .slice iA m ic, .int .i64 fl])] w' (GoodB m zc fl w')) (i j k : Int) (down : Bool) (X : List Int) (co : zc = 0 → fl < 2 → ∀ w', Ext w w' → Calls Try.prog 16 #[(.agg #[.slice sA ns sc, .slice iA m ic, .int .i64 fl])] w' (OfA X w')) (h1 : ¬ (i < 0)) (h2 : ¬ (j < 0)) (h3 : ¬ (k < 0)) (h4 : ¬ ((m : Int) ≤ i)) (h5 : ¬ ((m : Int) ≤ j)) (h6 : ¬ ((m : Int) ≤ k)) (cz : Int) (hc1 : -1 ≤ cz) (hc2 : cz ≤ 1) (e79 : (i != j) = false)
    (kla : ∀ v w', OV w' v X → Calls Try.prog 19 #[v, .int .i64 1, .int .i64 i, .int .i64 j, .bool down] w' fun e w2 => e = .returned (.bool true) ∧ Ext w' w2) (klb : ∀ v w', OV w' v X → Calls Try.prog 19 #[v, .int .i64 1, .int .i64 j, .int .i64 k, .bool down] w' fun e w2 => e = .returned (.bool true) ∧ Ext w' w2) (klc : ∀ v w', OV w' v X → Calls Try.prog 19 #[v, .int .i64 1, .int .i64 i, .int .i64 k, .bool down] w' fun e w2 => e = .returned (.bool true) ∧ Ext w' w2) (kld : ∀ v w', OV w' v X → Calls Try.prog 19 #[v, .int .i64 1, .int .i64 j, .int .i64 i, .bool down] w' fun e w2 => e = .returned (.bool true) ∧ Ext w' w2) (kca : ∀ v w', OV w' v X → Calls Try.prog 17 #[v, .int .i64 1, .int .i64 i, .int .i64 j] w' fun e w2 => e = .returned (.int .i64 (-cz)) ∧ Ext w' w2) (kcb : ∀ v w', OV w' v X → Calls Try.prog 17 #[v, .int .i64 1, .int .i64 j, .int .i64 i] w' fun e w2 => e = .returned (.int .i64 (cz)) ∧ Ext w' w2)  : Calls Try.prog 6 #[(.agg #[.slice sA ns sc, .slice iA m ic, .int .i64 fl]), .int .i64 i, .int .i64 j, .int .i64 k, .bool down] w fun e w' => e = .returned (.bool true) ∧ Ext w w' := by
  have hF := pl_flat sA ns sc iA m ic fl
  have E := Ext.refl w
  have e20 : decide (i < 0) = false := decide_eq_false h1
  have e24 : decide (j < 0) = false := decide_eq_false h2
  have e28 : decide (k < 0) = false := decide_eq_false h3
  have e35 : decide ((m : Int) ≤ i) = false := decide_eq_false h4
  have e42 : decide ((m : Int) ≤ j) = false := decide_eq_false h5
  have e49 : decide ((m : Int) ≤ k) = false := decide_eq_false h6
  clear h1 h2 h3 h4 h5 h6
  go_enter Try.func6, Try.ntmps6
  have TB5 : True := trivial
  go_wp2_with (first | (clear TB5; refine boxsP (v := (.agg #[.slice sA ns sc, .slice iA m ic, .int .i64 fl])) rfl rfl rfl hF ?_; intro B5 w5 bB5 cB5 XB5 LB5 RB5; have z1 := XB5.size; replace E := E.trans XB5; have cB5_1 := lay_cell LB5 (j := 1) rfl; clear RB5) | (refine loadsP (B := B5) (by rfl) rfl rfl LB5 ?_))
  refine (cg _ E).mono ?_
  rintro e w16 ⟨g, rfl, hg, x⟩
  cases g
  · have z2 := x.size
    replace E := E.trans x
    replace LB5 := LB5.ext x
    replace cB5_1 := cell_ext (x) cB5_1
    clear x
    go_wp2_with fail
    refine (oawake_any _).mono ?_
    rintro e w51 ⟨rfl, x⟩
    have z3 := x.size
    replace E := E.trans x
    replace LB5 := LB5.ext x
    replace cB5_1 := cell_ext (x) cB5_1
    clear x
    go_wp2_with fail
    go_ret
    exact ⟨rfl, E⟩
  · obtain ⟨hg1, hg2, hg3⟩ := hg rfl
    have co' := co hg2 hg3
    clear co hg hg2 hg3
    have z2 := x.size
    replace E := E.trans x
    replace LB5 := LB5.ext x
    replace cB5_1 := cell_ext (x) cB5_1
    clear x
    go_wp2_with (refine loadsP (B := B5) (by rfl) rfl rfl LB5 ?_)
    refine (co' _ E).mono ?_
    rintro e w53 ⟨c0, c1, c2, c3, c4, c5, c6, c7, c8, rfl, hf, hq, x⟩
    have HV := hq.now
    have hf8 := flat_tailV hf
    clear hq hf
    have z3 := x.size
    replace E := E.trans x
    replace LB5 := LB5.ext x
    replace cB5_1 := cell_ext (x) cB5_1
    clear x
    have TF54 : True := trivial
    have TB11 : True := trivial
    have TG5 : True := trivial
    go_wp2_with (first | (clear TF54; rw [field9]; simp only [Result.andThen_ok, Oper.upon_value]) | (clear TB11; refine allocsV rfl rfl ?_; intro B11 w11 bB11 cB11 XB11 LB11 RB11; have z4 := XB11.size; replace E := E.trans XB11; replace LB5 := LB5.ext XB11; replace cB5_1 := cell_ext (XB11) cB5_1; replace HV := HV.ext XB11) | (clear TG5; have hRl := (RB11).lt (Nat.zero_lt_succ _); refine storesV (B := B11) rfl rfl rfl (v := (.agg #[c1, c2, c3, c4, c5, c6, c7, c8])) rfl RB11 hf8 ?_; clear LB11; intro s5 G5 LB11 RQ; have z6 := G5.size; replace E := grown_ext E G5 (by omega); replace LB5 := LB5.grown G5 (by omega); replace cB5_1 := cell_grown (G5) cB5_1 (by show B5 ≠ _; omega); replace HV := HV.grown G5 (by first | omega | (dsimp only [New]; omega)); clear RB11; have RB11 := RQ; clear RQ hRl; clear RB11))
    try simp only [Act.put, List.setIfInBounds_toArray, List.set_cons_zero, List.set_cons_succ]
    have hq7 : s5.heap.size ≤ s5.drew.heap.size := Nat.le_refl _
    have z8 := (Ext.refl s5).drew.size
    replace E := E.trans (Ext.refl s5).drew
    replace LB5 := LB5.ext (Ext.refl s5).drew
    replace cB5_1 := cell_ext ((Ext.refl s5).drew) cB5_1
    replace HV := HV.ext (Ext.refl s5).drew
    replace LB11 := LB11.ext (Ext.refl s5).drew
    refine wp_region_held_drew (S := (fun w' => Lay 8 w' B11 (.agg #[c1, c2, c3, c4, c5, c6, c7, c8]))) (by kernel_rfl) LB11 (fun hHeld => ?_)
    refine wpAnyH_take (i := 0) (oi := { dst := some 55, op := Go.Op.load 41 (Go.Operand.tmp 11), type := 41, pos := "law.go:91", after := #[], guard := none }) (v := (.agg #[c1, c2, c3, c4, c5, c6, c7, c8])) rfl (by kernel_rfl) (by kernel_rfl) (by kernel_rfl) (fun _ _ _ h => h) (yieldV (by rfl) rfl rfl fun w' hx => hx) hHeld ?_
    try simp only [Act.put, List.setIfInBounds_toArray, List.set_cons_zero, List.set_cons_succ]
    refine wpAnyH_take (i := 1) (oi := { dst := some 56, op := Go.Op.move (Go.Operand.tmp 1), type := 3, pos := "law.go:91", after := #[], guard := none }) (v := ?v10) rfl (by kernel_rfl) (by kernel_rfl) (by kernel_rfl) (fun _ _ _ h => h) (Or.inl ⟨by rfl, ?hy10⟩) hHeld ?rest10
    case hy10 => (intro w hSw; (try dsimp only at hSw); go_simp; (first | done | with_reducible rfl))
    try simp only [Act.put, List.setIfInBounds_toArray, List.set_cons_zero, List.set_cons_succ]
    refine wpAnyH_take (i := 2) (oi := { dst := some 57, op := Go.Op.move (Go.Operand.tmp 2), type := 3, pos := "law.go:91", after := #[], guard := none }) (v := ?v11) rfl (by kernel_rfl) (by kernel_rfl) (by kernel_rfl) (fun _ _ _ h => h) (Or.inl ⟨by rfl, ?hy11⟩) hHeld ?rest11
    case hy11 => (intro w hSw; (try dsimp only at hSw); go_simp; (first | done | with_reducible rfl))
    try simp only [Act.put, List.setIfInBounds_toArray, List.set_cons_zero, List.set_cons_succ]
    refine wpAnyH_take (i := 3) (oi := { dst := some 58, op := Go.Op.move (Go.Operand.tmp 4), type := 4, pos := "law.go:91", after := #[], guard := none }) (v := ?v12) rfl (by kernel_rfl) (by kernel_rfl) (by kernel_rfl) (fun _ _ _ h => h) (Or.inl ⟨by rfl, ?hy12⟩) hHeld ?rest12
    case hy12 => (intro w hSw; (try dsimp only at hSw); go_simp; (first | done | with_reducible rfl))
    try simp only [Act.put, List.setIfInBounds_toArray, List.set_cons_zero, List.set_cons_succ]
    refine wpAnyH_take (i := 5) (oi := { dst := some 60, op := Go.Op.load 41 (Go.Operand.tmp 11), type := 41, pos := "law.go:91", after := #[], guard := none }) (v := (.agg #[c1, c2, c3, c4, c5, c6, c7, c8])) rfl (by kernel_rfl) (by kernel_rfl) (by kernel_rfl) (fun _ _ _ h => h) (yieldV (by rfl) rfl rfl fun w' hx => hx) hHeld ?_
    try simp only [Act.put, List.setIfInBounds_toArray, List.set_cons_zero, List.set_cons_succ]
    refine wpAnyH_take (i := 6) (oi := { dst := some 61, op := Go.Op.move (Go.Operand.tmp 2), type := 3, pos := "law.go:91", after := #[], guard := none }) (v := ?v14) rfl (by kernel_rfl) (by kernel_rfl) (by kernel_rfl) (fun _ _ _ h => h) (Or.inl ⟨by rfl, ?hy14⟩) hHeld ?rest14
    case hy14 => (intro w hSw; (try dsimp only at hSw); go_simp; (first | done | with_reducible rfl))
    try simp only [Act.put, List.setIfInBounds_toArray, List.set_cons_zero, List.set_cons_succ]
    refine wpAnyH_take (i := 7) (oi := { dst := some 62, op := Go.Op.move (Go.Operand.tmp 3), type := 3, pos := "law.go:91", after := #[], guard := none }) (v := ?v15) rfl (by kernel_rfl) (by kernel_rfl) (by kernel_rfl) (fun _ _ _ h => h) (Or.inl ⟨by rfl, ?hy15⟩) hHeld ?rest15
    case hy15 => (intro w hSw; (try dsimp only at hSw); go_simp; (first | done | with_reducible rfl))
    try simp only [Act.put, List.setIfInBounds_toArray, List.set_cons_zero, List.set_cons_succ]
    refine wpAnyH_take (i := 8) (oi := { dst := some 63, op := Go.Op.move (Go.Operand.tmp 4), type := 4, pos := "law.go:91", after := #[], guard := none }) (v := ?v16) rfl (by kernel_rfl) (by kernel_rfl) (by kernel_rfl) (fun _ _ _ h => h) (Or.inl ⟨by rfl, ?hy16⟩) hHeld ?rest16
    case hy16 => (intro w hSw; (try dsimp only at hSw); go_simp; (first | done | with_reducible rfl))
    try simp only [Act.put, List.setIfInBounds_toArray, List.set_cons_zero, List.set_cons_succ]
    refine wpAnyH_take (i := 10) (oi := { dst := some 65, op := Go.Op.load 41 (Go.Operand.tmp 11), type := 41, pos := "law.go:91", after := #[], guard := none }) (v := (.agg #[c1, c2, c3, c4, c5, c6, c7, c8])) rfl (by kernel_rfl) (by kernel_rfl) (by kernel_rfl) (fun _ _ _ h => h) (yieldV (by rfl) rfl rfl fun w' hx => hx) hHeld ?_
    try simp only [Act.put, List.setIfInBounds_toArray, List.set_cons_zero, List.set_cons_succ]
    refine wpAnyH_take (i := 11) (oi := { dst := some 66, op := Go.Op.move (Go.Operand.tmp 1), type := 3, pos := "law.go:91", after := #[], guard := none }) (v := ?v18) rfl (by kernel_rfl) (by kernel_rfl) (by kernel_rfl) (fun _ _ _ h => h) (Or.inl ⟨by rfl, ?hy18⟩) hHeld ?rest18
    case hy18 => (intro w hSw; (try dsimp only at hSw); go_simp; (first | done | with_reducible rfl))
    try simp only [Act.put, List.setIfInBounds_toArray, List.set_cons_zero, List.set_cons_succ]
    refine wpAnyH_take (i := 12) (oi := { dst := some 67, op := Go.Op.move (Go.Operand.tmp 3), type := 3, pos := "law.go:91", after := #[], guard := none }) (v := ?v19) rfl (by kernel_rfl) (by kernel_rfl) (by kernel_rfl) (fun _ _ _ h => h) (Or.inl ⟨by rfl, ?hy19⟩) hHeld ?rest19
    case hy19 => (intro w hSw; (try dsimp only at hSw); go_simp; (first | done | with_reducible rfl))
    try simp only [Act.put, List.setIfInBounds_toArray, List.set_cons_zero, List.set_cons_succ]
    refine wpAnyH_take (i := 13) (oi := { dst := some 68, op := Go.Op.move (Go.Operand.tmp 4), type := 4, pos := "law.go:91", after := #[], guard := none }) (v := ?v20) rfl (by kernel_rfl) (by kernel_rfl) (by kernel_rfl) (fun _ _ _ h => h) (Or.inl ⟨by rfl, ?hy20⟩) hHeld ?rest20
    case hy20 => (intro w hSw; (try dsimp only at hSw); go_simp; (first | done | with_reducible rfl))
    try simp only [Act.put, List.setIfInBounds_toArray, List.set_cons_zero, List.set_cons_succ]
    refine wpAnyH_ready (rs := [4]) (by kernel_rfl) (by simp) ?_
    refine AllReadyH.cons (o := { dst := some 59, op := Go.Op.call { callee := Go.Callee.value (Go.Operand.func 19), args := #[Go.Operand.tmp 55, Go.Operand.const (Go.Value.int Go.IntKind.i64 1), Go.Operand.tmp 56, Go.Operand.tmp 57, Go.Operand.tmp 58], argTypes := #[41, 3, 3, 3, 4] }, type := 4, pos := "law.go:91", after := #[{ on := 0, ground := Go.Ground.data }, { on := 1, ground := Go.Ground.data }, { on := 2, ground := Go.Ground.data }, { on := 3, ground := Go.Ground.data }], guard := none }) rfl (fun K hK => ?_) (AllReadyH.nil)
    go_simp
    refine (kla _ _ HV.is).mono ?_
    rintro e w59 ⟨rfl, x⟩
    have z21 := x.size
    replace E := E.trans x
    replace LB5 := LB5.ext x
    replace cB5_1 := cell_ext (x) cB5_1
    replace HV := HV.ext x
    replace LB11 := LB11.ext x
    clear x
    clear hHeld
    have hHeld := LB11
    refine hK.out _ _ hHeld (fun _ => ?_)
    clear hK K
    try simp only [Act.put, List.setIfInBounds_toArray, List.set_cons_zero, List.set_cons_succ]
    refine wpAnyH_ready (rs := [9]) (by kernel_rfl) (by simp) ?_
    refine AllReadyH.cons (o := { dst := some 64, op := Go.Op.call { callee := Go.Callee.value (Go.Operand.func 19), args := #[Go.Operand.tmp 60, Go.Operand.const (Go.Value.int Go.IntKind.i64 1), Go.Operand.tmp 61, Go.Operand.tmp 62, Go.Operand.tmp 63], argTypes := #[41, 3, 3, 3, 4] }, type := 4, pos := "law.go:91", after := #[{ on := 5, ground := Go.Ground.data }, { on := 6, ground := Go.Ground.data }, { on := 7, ground := Go.Ground.data }, { on := 8, ground := Go.Ground.data }, { on := 4, ground := Go.Ground.chain }], guard := none }) rfl (fun K hK => ?_) (AllReadyH.nil)
    go_simp
    refine (klb _ _ HV.is).mono ?_
    rintro e w64 ⟨rfl, x⟩
    have z22 := x.size
    replace E := E.trans x
    replace LB5 := LB5.ext x
    replace cB5_1 := cell_ext (x) cB5_1
    replace HV := HV.ext x
    replace LB11 := LB11.ext x
    clear x
    clear hHeld
    have hHeld := LB11
    refine hK.out _ _ hHeld (fun _ => ?_)
    clear hK K
    try simp only [Act.put, List.setIfInBounds_toArray, List.set_cons_zero, List.set_cons_succ]
    refine wpAnyH_ready (rs := [14]) (by kernel_rfl) (by simp) ?_
    refine AllReadyH.cons (o := { dst := some 69, op := Go.Op.call { callee := Go.Callee.value (Go.Operand.func 19), args := #[Go.Operand.tmp 65, Go.Operand.const (Go.Value.int Go.IntKind.i64 1), Go.Operand.tmp 66, Go.Operand.tmp 67, Go.Operand.tmp 68], argTypes := #[41, 3, 3, 3, 4] }, type := 4, pos := "law.go:91", after := #[{ on := 10, ground := Go.Ground.data }, { on := 11, ground := Go.Ground.data }, { on := 12, ground := Go.Ground.data }, { on := 13, ground := Go.Ground.data }, { on := 9, ground := Go.Ground.chain }], guard := none }) rfl (fun K hK => ?_) (AllReadyH.nil)
    go_simp
    refine (klc _ _ HV.is).mono ?_
    rintro e w69 ⟨rfl, x⟩
    have z23 := x.size
    replace E := E.trans x
    replace LB5 := LB5.ext x
    replace cB5_1 := cell_ext (x) cB5_1
    replace HV := HV.ext x
    replace LB11 := LB11.ext x
    clear x
    clear hHeld
    have hHeld := LB11
    refine hK.out _ _ hHeld (fun _ => ?_)
    clear hK K
    try simp only [Act.put, List.setIfInBounds_toArray, List.set_cons_zero, List.set_cons_succ]
    refine wpAnyH_take (i := 15) (oi := { dst := some 12, op := Go.Op.assign (Go.Operand.tmp 59), type := 4, pos := "law.go:91", after := #[{ on := 4, ground := Go.Ground.data }, { on := 14, ground := Go.Ground.chain }, { on := 0, ground := Go.Ground.phase }, { on := 1, ground := Go.Ground.phase }, { on := 2, ground := Go.Ground.phase }, { on := 3, ground := Go.Ground.phase }, { on := 4, ground := Go.Ground.phase }, { on := 5, ground := Go.Ground.textOnly Go.Departure.lateStores }, { on := 6, ground := Go.Ground.textOnly Go.Departure.lateStores }, { on := 7, ground := Go.Ground.textOnly Go.Departure.lateStores }, { on := 8, ground := Go.Ground.textOnly Go.Departure.lateStores }, { on := 9, ground := Go.Ground.textOnly Go.Departure.lateStoresUnsure }, { on := 10, ground := Go.Ground.textOnly Go.Departure.lateStores }, { on := 11, ground := Go.Ground.textOnly Go.Departure.lateStores }, { on := 12, ground := Go.Ground.textOnly Go.Departure.lateStores }, { on := 13, ground := Go.Ground.textOnly Go.Departure.lateStores }, { on := 14, ground := Go.Ground.textOnly Go.Departure.lateStoresUnsure }], guard := none }) (v := ?v24) rfl (by kernel_rfl) (by kernel_rfl) (by kernel_rfl) (fun _ _ _ h => h) (Or.inl ⟨by rfl, ?hy24⟩) hHeld ?rest24
    case hy24 => (intro w hSw; (try dsimp only at hSw); go_simp; (first | done | with_reducible rfl))
    try simp only [Act.put, List.setIfInBounds_toArray, List.set_cons_zero, List.set_cons_succ]
    refine wpAnyH_take (i := 16) (oi := { dst := some 13, op := Go.Op.assign (Go.Operand.tmp 64), type := 4, pos := "law.go:91", after := #[{ on := 9, ground := Go.Ground.data }, { on := 15, ground := Go.Ground.chain }, { on := 0, ground := Go.Ground.phase }, { on := 1, ground := Go.Ground.phase }, { on := 2, ground := Go.Ground.phase }, { on := 3, ground := Go.Ground.phase }, { on := 4, ground := Go.Ground.phase }, { on := 5, ground := Go.Ground.phase }, { on := 6, ground := Go.Ground.phase }, { on := 7, ground := Go.Ground.phase }, { on := 8, ground := Go.Ground.phase }, { on := 9, ground := Go.Ground.phase }, { on := 10, ground := Go.Ground.textOnly Go.Departure.lateStores }, { on := 11, ground := Go.Ground.textOnly Go.Departure.lateStores }, { on := 12, ground := Go.Ground.textOnly Go.Departure.lateStores }, { on := 13, ground := Go.Ground.textOnly Go.Departure.lateStores }, { on := 14, ground := Go.Ground.textOnly Go.Departure.lateStoresUnsure }, { on := 15, ground := Go.Ground.phase }], guard := none }) (v := ?v25) rfl (by kernel_rfl) (by kernel_rfl) (by kernel_rfl) (fun _ _ _ h => h) (Or.inl ⟨by rfl, ?hy25⟩) hHeld ?rest25
    case hy25 => (intro w hSw; (try dsimp only at hSw); go_simp; (first | done | with_reducible rfl))
    try simp only [Act.put, List.setIfInBounds_toArray, List.set_cons_zero, List.set_cons_succ]
    refine wpAnyH_take (i := 17) (oi := { dst := some 14, op := Go.Op.assign (Go.Operand.tmp 69), type := 4, pos := "law.go:91", after := #[{ on := 14, ground := Go.Ground.data }, { on := 16, ground := Go.Ground.chain }, { on := 0, ground := Go.Ground.phase }, { on := 1, ground := Go.Ground.phase }, { on := 2, ground := Go.Ground.phase }, { on := 3, ground := Go.Ground.phase }, { on := 4, ground := Go.Ground.phase }, { on := 5, ground := Go.Ground.phase }, { on := 6, ground := Go.Ground.phase }, { on := 7, ground := Go.Ground.phase }, { on := 8, ground := Go.Ground.phase }, { on := 9, ground := Go.Ground.phase }, { on := 10, ground := Go.Ground.phase }, { on := 11, ground := Go.Ground.phase }, { on := 12, ground := Go.Ground.phase }, { on := 13, ground := Go.Ground.phase }, { on := 14, ground := Go.Ground.phase }, { on := 15, ground := Go.Ground.phase }, { on := 16, ground := Go.Ground.phase }], guard := none }) (v := ?v26) rfl (by kernel_rfl) (by kernel_rfl) (by kernel_rfl) (fun _ _ _ h => h) (Or.inl ⟨by rfl, ?hy26⟩) hHeld ?rest26
    case hy26 => (intro w hSw; (try dsimp only at hSw); go_simp; (first | done | with_reducible rfl))
    try simp only [Act.put, List.setIfInBounds_toArray, List.set_cons_zero, List.set_cons_succ]
    refine wpAnyH_done (by kernel_rfl) ?_ _
    go_wp2_with fail
    try simp only [Act.put, List.setIfInBounds_toArray, List.set_cons_zero, List.set_cons_succ]
    have hq27 : w69.heap.size ≤ w69.drew.heap.size := Nat.le_refl _
    have z28 := (Ext.refl w69).drew.size
    replace E := E.trans (Ext.refl w69).drew
    replace LB5 := LB5.ext (Ext.refl w69).drew
    replace cB5_1 := cell_ext ((Ext.refl w69).drew) cB5_1
    replace HV := HV.ext (Ext.refl w69).drew
    replace LB11 := LB11.ext (Ext.refl w69).drew
    refine wp_region_held_drew (S := (fun w' => Lay 8 w' B11 (.agg #[c1, c2, c3, c4, c5, c6, c7, c8]))) (by kernel_rfl) LB11 (fun hHeld => ?_)
    refine wpAnyH_take (i := 0) (oi := { dst := some 70, op := Go.Op.move (Go.Operand.tmp 12), type := 4, pos := "law.go:92", after := #[], guard := none }) (v := ?v29) rfl (by kernel_rfl) (by kernel_rfl) (by kernel_rfl) (fun _ _ _ h => h) (Or.inl ⟨by rfl, ?hy29⟩) hHeld ?rest29
    case hy29 => (intro w hSw; (try dsimp only at hSw); go_simp; (first | done | with_reducible rfl))
    try simp only [Act.put, List.setIfInBounds_toArray, List.set_cons_zero, List.set_cons_succ]
    refine wpAnyH_take (i := 1) (oi := { dst := some 71, op := Go.Op.load 41 (Go.Operand.tmp 11), type := 41, pos := "law.go:92", after := #[], guard := none }) (v := (.agg #[c1, c2, c3, c4, c5, c6, c7, c8])) rfl (by kernel_rfl) (by kernel_rfl) (by kernel_rfl) (fun _ _ _ h => h) (yieldV (by rfl) rfl rfl fun w' hx => hx) hHeld ?_
    try simp only [Act.put, List.setIfInBounds_toArray, List.set_cons_zero, List.set_cons_succ]
    refine wpAnyH_take (i := 2) (oi := { dst := some 72, op := Go.Op.move (Go.Operand.tmp 2), type := 3, pos := "law.go:92", after := #[], guard := none }) (v := ?v31) rfl (by kernel_rfl) (by kernel_rfl) (by kernel_rfl) (fun _ _ _ h => h) (Or.inl ⟨by rfl, ?hy31⟩) hHeld ?rest31
    case hy31 => (intro w hSw; (try dsimp only at hSw); go_simp; (first | done | with_reducible rfl))
    try simp only [Act.put, List.setIfInBounds_toArray, List.set_cons_zero, List.set_cons_succ]
    refine wpAnyH_take (i := 3) (oi := { dst := some 73, op := Go.Op.move (Go.Operand.tmp 1), type := 3, pos := "law.go:92", after := #[], guard := none }) (v := ?v32) rfl (by kernel_rfl) (by kernel_rfl) (by kernel_rfl) (fun _ _ _ h => h) (Or.inl ⟨by rfl, ?hy32⟩) hHeld ?rest32
    case hy32 => (intro w hSw; (try dsimp only at hSw); go_simp; (first | done | with_reducible rfl))
    try simp only [Act.put, List.setIfInBounds_toArray, List.set_cons_zero, List.set_cons_succ]
    refine wpAnyH_take (i := 4) (oi := { dst := some 74, op := Go.Op.move (Go.Operand.tmp 4), type := 4, pos := "law.go:92", after := #[], guard := none }) (v := ?v33) rfl (by kernel_rfl) (by kernel_rfl) (by kernel_rfl) (fun _ _ _ h => h) (Or.inl ⟨by rfl, ?hy33⟩) hHeld ?rest33
    case hy33 => (intro w hSw; (try dsimp only at hSw); go_simp; (first | done | with_reducible rfl))
    try simp only [Act.put, List.setIfInBounds_toArray, List.set_cons_zero, List.set_cons_succ]
    refine wpAnyH_take (i := 7) (oi := { dst := some 77, op := Go.Op.move (Go.Operand.tmp 1), type := 3, pos := "law.go:92", after := #[], guard := none }) (v := ?v34) rfl (by kernel_rfl) (by kernel_rfl) (by kernel_rfl) (fun _ _ _ h => h) (Or.inl ⟨by rfl, ?hy34⟩) hHeld ?rest34
    case hy34 => (intro w hSw; (try dsimp only at hSw); go_simp; (first | done | with_reducible rfl))
    try simp only [Act.put, List.setIfInBounds_toArray, List.set_cons_zero, List.set_cons_succ]
    refine wpAnyH_take (i := 8) (oi := { dst := some 78, op := Go.Op.move (Go.Operand.tmp 2), type := 3, pos := "law.go:92", after := #[], guard := none }) (v := ?v35) rfl (by kernel_rfl) (by kernel_rfl) (by kernel_rfl) (fun _ _ _ h => h) (Or.inl ⟨by rfl, ?hy35⟩) hHeld ?rest35
    case hy35 => (intro w hSw; (try dsimp only at hSw); go_simp; (first | done | with_reducible rfl))
    try simp only [Act.put, List.setIfInBounds_toArray, List.set_cons_zero, List.set_cons_succ]
    refine wpAnyH_take (i := 9) (oi := { dst := some 79, op := Go.Op.binOp Go.BinOp.neq 3 (Go.Operand.tmp 77) (Go.Operand.tmp 78) 3, type := 4, pos := "law.go:92", after := #[{ on := 7, ground := Go.Ground.data }, { on := 8, ground := Go.Ground.data }], guard := none }) (v := ?v36) rfl (by kernel_rfl) (by kernel_rfl) (by kernel_rfl) (fun _ _ _ h => h) (Or.inl ⟨by rfl, ?hy36⟩) hHeld ?rest36
    case hy36 => (intro w hSw; (try dsimp only at hSw); go_simp; (first | done | with_reducible rfl))
    try simp only [Act.put, List.setIfInBounds_toArray, List.set_cons_zero, List.set_cons_succ]
    refine wpAnyH_ready (rs := [5]) (by kernel_rfl) (by simp) ?_
    refine AllReadyH.cons (o := { dst := some 75, op := Go.Op.call { callee := Go.Callee.value (Go.Operand.func 19), args := #[Go.Operand.tmp 71, Go.Operand.const (Go.Value.int Go.IntKind.i64 1), Go.Operand.tmp 72, Go.Operand.tmp 73, Go.Operand.tmp 74], argTypes := #[41, 3, 3, 3, 4] }, type := 4, pos := "law.go:92", after := #[{ on := 1, ground := Go.Ground.data }, { on := 2, ground := Go.Ground.data }, { on := 3, ground := Go.Ground.data }, { on := 4, ground := Go.Ground.data }], guard := none }) rfl (fun K hK => ?_) (AllReadyH.nil)
    go_simp
    refine (kld _ _ HV.is).mono ?_
    rintro e w75 ⟨rfl, x⟩
    have z37 := x.size
    replace E := E.trans x
    replace LB5 := LB5.ext x
    replace cB5_1 := cell_ext (x) cB5_1
    replace HV := HV.ext x
    replace LB11 := LB11.ext x
    clear x
    clear hHeld
    have hHeld := LB11
    refine hK.out _ _ hHeld (fun _ => ?_)
    clear hK K
    try simp only [Act.put, List.setIfInBounds_toArray, List.set_cons_zero, List.set_cons_succ]
    refine wpAnyH_take (i := 6) (oi := { dst := some 76, op := Go.Op.binOp Go.BinOp.neq 4 (Go.Operand.tmp 70) (Go.Operand.tmp 75) 4, type := 4, pos := "law.go:92", after := #[{ on := 0, ground := Go.Ground.data }, { on := 5, ground := Go.Ground.data }], guard := none }) (v := ?v38) rfl (by kernel_rfl) (by kernel_rfl) (by kernel_rfl) (fun _ _ _ h => h) (Or.inl ⟨by rfl, ?hy38⟩) hHeld ?rest38
    case hy38 => (intro w hSw; (try dsimp only at hSw); go_simp; (first | done | with_reducible rfl))
    try simp only [Act.put, List.setIfInBounds_toArray, List.set_cons_zero, List.set_cons_succ]
    refine wpAnyH_take (i := 10) (oi := { dst := some 80, op := Go.Op.binOp Go.BinOp.eql 4 (Go.Operand.tmp 76) (Go.Operand.tmp 79) 4, type := 4, pos := "law.go:92", after := #[{ on := 6, ground := Go.Ground.data }, { on := 9, ground := Go.Ground.data }], guard := none }) (v := ?v39) rfl (by kernel_rfl) (by kernel_rfl) (by kernel_rfl) (fun _ _ _ h => h) (Or.inl ⟨by rfl, ?hy39⟩) hHeld ?rest39
    case hy39 => (intro w hSw; (try dsimp only at hSw); go_simp; (first | done | with_reducible rfl))
    try simp only [Act.put, List.setIfInBounds_toArray, List.set_cons_zero, List.set_cons_succ]
    refine wpAnyH_take (i := 11) (oi := { dst := some 81, op := Go.Op.move (Go.Operand.tmp 80), type := 4, pos := "law.go:92", after := #[{ on := 10, ground := Go.Ground.data }, { on := 5, ground := Go.Ground.chain }], guard := none }) (v := ?v40) rfl (by kernel_rfl) (by kernel_rfl) (by kernel_rfl) (fun _ _ _ h => h) (Or.inl ⟨by rfl, ?hy40⟩) hHeld ?rest40
    case hy40 => (intro w hSw; (try dsimp only at hSw); go_simp; (first | done | with_reducible rfl))
    try simp only [Act.put, List.setIfInBounds_toArray, List.set_cons_zero, List.set_cons_succ]
    refine wpAnyH_take (i := 12) (oi := { dst := some 82, op := Go.Op.move (Go.Operand.tmp 12), type := 4, pos := "law.go:92", after := #[{ on := 11, ground := Go.Ground.guard }], guard := some (11, true) }) (v := ?v41) rfl (by kernel_rfl) (by kernel_rfl) (by kernel_rfl) (fun _ _ _ h => h) (Or.inl ⟨by rfl, ?hy41⟩) hHeld ?rest41
    case hy41 => (intro w hSw; (try dsimp only at hSw); go_simp; (first | done | with_reducible rfl))
    try simp only [Act.put, List.setIfInBounds_toArray, List.set_cons_zero, List.set_cons_succ]
    refine wpAnyH_take (i := 13) (oi := { dst := some 83, op := Go.Op.unOp Go.UnOp.not 4 (Go.Operand.tmp 82), type := 4, pos := "law.go:92", after := #[{ on := 12, ground := Go.Ground.data }, { on := 11, ground := Go.Ground.guard }], guard := some (11, true) }) (v := ?v42) rfl (by kernel_rfl) (by kernel_rfl) (by kernel_rfl) (fun _ _ _ h => h) (Or.inl ⟨by rfl, ?hy42⟩) hHeld ?rest42
    case hy42 => (intro w hSw; (try dsimp only at hSw); go_simp; (first | done | with_reducible rfl))
    try simp only [Act.put, List.setIfInBounds_toArray, List.set_cons_zero, List.set_cons_succ]
    refine wpAnyH_take (i := 14) (oi := { dst := some 84, op := Go.Op.move (Go.Operand.tmp 83), type := 4, pos := "law.go:92", after := #[{ on := 13, ground := Go.Ground.data }, { on := 11, ground := Go.Ground.chain }, { on := 11, ground := Go.Ground.guard }], guard := some (11, true) }) (v := ?v43) rfl (by kernel_rfl) (by kernel_rfl) (by kernel_rfl) (fun _ _ _ h => h) (Or.inl ⟨by rfl, ?hy43⟩) hHeld ?rest43
    case hy43 => (intro w hSw; (try dsimp only at hSw); go_simp; (first | done | with_reducible rfl))
    try simp only [Act.put, List.setIfInBounds_toArray, List.set_cons_zero, List.set_cons_succ]
    refine wpAnyH_take (i := 15) (oi := { dst := some 85, op := Go.Op.move (Go.Operand.tmp 13), type := 4, pos := "law.go:92", after := #[{ on := 14, ground := Go.Ground.guard }], guard := some (14, false) }) (v := ?v44) rfl (by kernel_rfl) (by kernel_rfl) (by kernel_rfl) (fun _ _ _ h => h) (Or.inl ⟨by rfl, ?hy44⟩) hHeld ?rest44
    case hy44 => (intro w hSw; (try dsimp only at hSw); go_simp; (first | done | with_reducible rfl))
    try simp only [Act.put, List.setIfInBounds_toArray, List.set_cons_zero, List.set_cons_succ]
    refine wpAnyH_take (i := 16) (oi := { dst := some 86, op := Go.Op.unOp Go.UnOp.not 4 (Go.Operand.tmp 85), type := 4, pos := "law.go:92", after := #[{ on := 15, ground := Go.Ground.data }, { on := 14, ground := Go.Ground.guard }], guard := some (14, false) }) (v := ?v45) rfl (by kernel_rfl) (by kernel_rfl) (by kernel_rfl) (fun _ _ _ h => h) (Or.inl ⟨by rfl, ?hy45⟩) hHeld ?rest45
    case hy45 => (intro w hSw; (try dsimp only at hSw); go_simp; (first | done | with_reducible rfl))
    try simp only [Act.put, List.setIfInBounds_toArray, List.set_cons_zero, List.set_cons_succ]
    refine wpAnyH_take (i := 17) (oi := { dst := some 87, op := Go.Op.pick (Go.Operand.tmp 84) (Go.Operand.const (Go.Value.bool true)) (Go.Operand.tmp 86), type := 4, pos := "law.go:92", after := #[{ on := 14, ground := Go.Ground.data }, { on := 16, ground := Go.Ground.data }, { on := 11, ground := Go.Ground.guard }], guard := some (11, true) }) (v := ?v46) rfl (by kernel_rfl) (by kernel_rfl) (by kernel_rfl) (fun _ _ _ h => h) (Or.inl ⟨by rfl, ?hy46⟩) hHeld ?rest46
    case hy46 => (intro w hSw; (try dsimp only at hSw); go_simp; (first | done | with_reducible rfl))
    try simp only [Act.put, List.setIfInBounds_toArray, List.set_cons_zero, List.set_cons_succ]
    refine wpAnyH_take (i := 18) (oi := { dst := some 88, op := Go.Op.move (Go.Operand.tmp 87), type := 4, pos := "law.go:92", after := #[{ on := 17, ground := Go.Ground.data }, { on := 14, ground := Go.Ground.chain }, { on := 11, ground := Go.Ground.guard }], guard := some (11, true) }) (v := ?v47) rfl (by kernel_rfl) (by kernel_rfl) (by kernel_rfl) (fun _ _ _ h => h) (Or.inl ⟨by rfl, ?hy47⟩) hHeld ?rest47
    case hy47 => (intro w hSw; (try dsimp only at hSw); go_simp; (first | done | with_reducible rfl))
    try simp only [Act.put, List.setIfInBounds_toArray, List.set_cons_zero, List.set_cons_succ]
    refine wpAnyH_take (i := 19) (oi := { dst := some 89, op := Go.Op.move (Go.Operand.tmp 14), type := 4, pos := "law.go:92", after := #[{ on := 18, ground := Go.Ground.guard }], guard := some (18, false) }) (v := ?v48) rfl (by kernel_rfl) (by kernel_rfl) (by kernel_rfl) (fun _ _ _ h => h) (Or.inl ⟨by rfl, ?hy48⟩) hHeld ?rest48
    case hy48 => (intro w hSw; (try dsimp only at hSw); go_simp; (first | done | with_reducible rfl))
    try simp only [Act.put, List.setIfInBounds_toArray, List.set_cons_zero, List.set_cons_succ]
    refine wpAnyH_take (i := 20) (oi := { dst := some 90, op := Go.Op.pick (Go.Operand.tmp 88) (Go.Operand.const (Go.Value.bool true)) (Go.Operand.tmp 89), type := 4, pos := "law.go:92", after := #[{ on := 18, ground := Go.Ground.data }, { on := 19, ground := Go.Ground.data }, { on := 11, ground := Go.Ground.guard }], guard := some (11, true) }) (v := ?v49) rfl (by kernel_rfl) (by kernel_rfl) (by kernel_rfl) (fun _ _ _ h => h) (Or.inl ⟨by rfl, ?hy49⟩) hHeld ?rest49
    case hy49 => (intro w hSw; (try dsimp only at hSw); go_simp; (first | done | with_reducible rfl))
    try simp only [Act.put, List.setIfInBounds_toArray, List.set_cons_zero, List.set_cons_succ]
    refine wpAnyH_take (i := 21) (oi := { dst := some 91, op := Go.Op.pick (Go.Operand.tmp 81) (Go.Operand.tmp 90) (Go.Operand.const (Go.Value.bool false)), type := 4, pos := "law.go:92", after := #[{ on := 11, ground := Go.Ground.data }, { on := 20, ground := Go.Ground.data }], guard := none }) (v := ?v50) rfl (by kernel_rfl) (by kernel_rfl) (by kernel_rfl) (fun _ _ _ h => h) (Or.inl ⟨by rfl, ?hy50⟩) hHeld ?rest50
    case hy50 => (intro w hSw; (try dsimp only at hSw); go_simp; (first | done | with_reducible rfl))
    try simp only [Act.put, List.setIfInBounds_toArray, List.set_cons_zero, List.set_cons_succ]
    refine wpAnyH_take (i := 22) (oi := { dst := some 92, op := Go.Op.move (Go.Operand.tmp 91), type := 4, pos := "law.go:92", after := #[{ on := 21, ground := Go.Ground.data }, { on := 18, ground := Go.Ground.chain }], guard := none }) (v := ?v51) rfl (by kernel_rfl) (by kernel_rfl) (by kernel_rfl) (fun _ _ _ h => h) (Or.inl ⟨by rfl, ?hy51⟩) hHeld ?rest51
    case hy51 => (intro w hSw; (try dsimp only at hSw); go_simp; (first | done | with_reducible rfl))
    try simp only [Act.put, List.setIfInBounds_toArray, List.set_cons_zero, List.set_cons_succ]
    refine wpAnyH_take (i := 23) (oi := { dst := some 93, op := Go.Op.load 41 (Go.Operand.tmp 11), type := 41, pos := "law.go:92", after := #[{ on := 22, ground := Go.Ground.guard }], guard := some (22, true) }) (v := (.agg #[c1, c2, c3, c4, c5, c6, c7, c8])) rfl (by kernel_rfl) (by kernel_rfl) (by kernel_rfl) (fun _ _ _ h => h) (yieldV (by rfl) rfl rfl fun w' hx => hx) hHeld ?_
    try simp only [Act.put, List.setIfInBounds_toArray, List.set_cons_zero, List.set_cons_succ]
    refine wpAnyH_take (i := 24) (oi := { dst := some 94, op := Go.Op.move (Go.Operand.tmp 1), type := 3, pos := "law.go:92", after := #[{ on := 22, ground := Go.Ground.guard }], guard := some (22, true) }) (v := ?v53) rfl (by kernel_rfl) (by kernel_rfl) (by kernel_rfl) (fun _ _ _ h => h) (Or.inl ⟨by rfl, ?hy53⟩) hHeld ?rest53
    case hy53 => (intro w hSw; (try dsimp only at hSw); go_simp; (first | done | with_reducible rfl))
    try simp only [Act.put, List.setIfInBounds_toArray, List.set_cons_zero, List.set_cons_succ]
    refine wpAnyH_take (i := 25) (oi := { dst := some 95, op := Go.Op.move (Go.Operand.tmp 2), type := 3, pos := "law.go:92", after := #[{ on := 22, ground := Go.Ground.guard }], guard := some (22, true) }) (v := ?v54) rfl (by kernel_rfl) (by kernel_rfl) (by kernel_rfl) (fun _ _ _ h => h) (Or.inl ⟨by rfl, ?hy54⟩) hHeld ?rest54
    case hy54 => (intro w hSw; (try dsimp only at hSw); go_simp; (first | done | with_reducible rfl))
    try simp only [Act.put, List.setIfInBounds_toArray, List.set_cons_zero, List.set_cons_succ]
    refine wpAnyH_take (i := 27) (oi := { dst := some 97, op := Go.Op.load 41 (Go.Operand.tmp 11), type := 41, pos := "law.go:92", after := #[{ on := 22, ground := Go.Ground.guard }], guard := some (22, true) }) (v := (.agg #[c1, c2, c3, c4, c5, c6, c7, c8])) rfl (by kernel_rfl) (by kernel_rfl) (by kernel_rfl) (fun _ _ _ h => h) (yieldV (by rfl) rfl rfl fun w' hx => hx) hHeld ?_
    try simp only [Act.put, List.setIfInBounds_toArray, List.set_cons_zero, List.set_cons_succ]
    refine wpAnyH_take (i := 28) (oi := { dst := some 98, op := Go.Op.move (Go.Operand.tmp 2), type := 3, pos := "law.go:92", after := #[{ on := 22, ground := Go.Ground.guard }], guard := some (22, true) }) (v := ?v56) rfl (by kernel_rfl) (by kernel_rfl) (by kernel_rfl) (fun _ _ _ h => h) (Or.inl ⟨by rfl, ?hy56⟩) hHeld ?rest56
    case hy56 => (intro w hSw; (try dsimp only at hSw); go_simp; (first | done | with_reducible rfl))
    try simp only [Act.put, List.setIfInBounds_toArray, List.set_cons_zero, List.set_cons_succ]
    refine wpAnyH_take (i := 29) (oi := { dst := some 99, op := Go.Op.move (Go.Operand.tmp 1), type := 3, pos := "law.go:92", after := #[{ on := 22, ground := Go.Ground.guard }], guard := some (22, true) }) (v := ?v57) rfl (by kernel_rfl) (by kernel_rfl) (by kernel_rfl) (fun _ _ _ h => h) (Or.inl ⟨by rfl, ?hy57⟩) hHeld ?rest57
    case hy57 => (intro w hSw; (try dsimp only at hSw); go_simp; (first | done | with_reducible rfl))
    try simp only [Act.put, List.setIfInBounds_toArray, List.set_cons_zero, List.set_cons_succ]
    refine wpAnyH_ready (rs := [26]) (by kernel_rfl) (by simp) ?_
    refine AllReadyH.cons (o := { dst := some 96, op := Go.Op.call { callee := Go.Callee.value (Go.Operand.func 17), args := #[Go.Operand.tmp 93, Go.Operand.const (Go.Value.int Go.IntKind.i64 1), Go.Operand.tmp 94, Go.Operand.tmp 95], argTypes := #[41, 3, 3, 3] }, type := 3, pos := "law.go:92", after := #[{ on := 23, ground := Go.Ground.data }, { on := 24, ground := Go.Ground.data }, { on := 25, ground := Go.Ground.data }, { on := 22, ground := Go.Ground.chain }, { on := 22, ground := Go.Ground.guard }], guard := some (22, true) }) rfl (fun K hK => ?_) (AllReadyH.nil)
    go_simp
    refine (kca _ _ HV.is).mono ?_
    rintro e w96 ⟨rfl, x⟩
    have z58 := x.size
    replace E := E.trans x
    replace LB5 := LB5.ext x
    replace cB5_1 := cell_ext (x) cB5_1
    replace HV := HV.ext x
    replace LB11 := LB11.ext x
    clear x
    clear hHeld
    have hHeld := LB11
    refine hK.out _ _ hHeld (fun _ => ?_)
    clear hK K
    try simp only [Act.put, List.setIfInBounds_toArray, List.set_cons_zero, List.set_cons_succ]
    refine wpAnyH_ready (rs := [30]) (by kernel_rfl) (by simp) ?_
    refine AllReadyH.cons (o := { dst := some 100, op := Go.Op.call { callee := Go.Callee.value (Go.Operand.func 17), args := #[Go.Operand.tmp 97, Go.Operand.const (Go.Value.int Go.IntKind.i64 1), Go.Operand.tmp 98, Go.Operand.tmp 99], argTypes := #[41, 3, 3, 3] }, type := 3, pos := "law.go:92", after := #[{ on := 27, ground := Go.Ground.data }, { on := 28, ground := Go.Ground.data }, { on := 29, ground := Go.Ground.data }, { on := 26, ground := Go.Ground.chain }, { on := 22, ground := Go.Ground.guard }], guard := some (22, true) }) rfl (fun K hK => ?_) (AllReadyH.nil)
    go_simp
    refine (kcb _ _ HV.is).mono ?_
    rintro e w100 ⟨rfl, x⟩
    have z59 := x.size
    replace E := E.trans x
    replace LB5 := LB5.ext x
    replace cB5_1 := cell_ext (x) cB5_1
    replace HV := HV.ext x
    replace LB11 := LB11.ext x
    clear x
    clear hHeld
    have hHeld := LB11
    refine hK.out _ _ hHeld (fun _ => ?_)
    clear hK K
    try simp only [Act.put, List.setIfInBounds_toArray, List.set_cons_zero, List.set_cons_succ]
    refine wpAnyH_take (i := 31) (oi := { dst := some 101, op := Go.Op.unOp Go.UnOp.neg 3 (Go.Operand.tmp 100), type := 3, pos := "law.go:92", after := #[{ on := 30, ground := Go.Ground.data }, { on := 22, ground := Go.Ground.guard }], guard := some (22, true) }) (v := ?v60) rfl (by kernel_rfl) (by kernel_rfl) (by kernel_rfl) (fun _ _ _ h => h) (Or.inl ⟨by rfl, ?hy60⟩) hHeld ?rest60
    case hy60 => (intro w hSw; (try dsimp only at hSw); go_simp; (first | done | with_reducible rfl))
    try simp only [Act.put, List.setIfInBounds_toArray, List.set_cons_zero, List.set_cons_succ]
    refine wpAnyH_take (i := 32) (oi := { dst := some 102, op := Go.Op.binOp Go.BinOp.eql 3 (Go.Operand.tmp 96) (Go.Operand.tmp 101) 3, type := 4, pos := "law.go:92", after := #[{ on := 26, ground := Go.Ground.data }, { on := 31, ground := Go.Ground.data }, { on := 22, ground := Go.Ground.guard }], guard := some (22, true) }) (v := ?v61) rfl (by kernel_rfl) (by kernel_rfl) (by kernel_rfl) (fun _ _ _ h => h) (Or.inl ⟨by rfl, ?hy61⟩) hHeld ?rest61
    case hy61 => (intro w hSw; (try dsimp only at hSw); go_simp; (first | done | with_reducible rfl))
    try simp only [Act.put, List.setIfInBounds_toArray, List.set_cons_zero, List.set_cons_succ]
    refine wpAnyH_take (i := 33) (oi := { dst := some 103, op := Go.Op.pick (Go.Operand.tmp 92) (Go.Operand.tmp 102) (Go.Operand.const (Go.Value.bool false)), type := 4, pos := "law.go:92", after := #[{ on := 22, ground := Go.Ground.data }, { on := 32, ground := Go.Ground.data }], guard := none }) (v := ?v62) rfl (by kernel_rfl) (by kernel_rfl) (by kernel_rfl) (fun _ _ _ h => h) (Or.inl ⟨by rfl, ?hy62⟩) hHeld ?rest62
    case hy62 => (intro w hSw; (try dsimp only at hSw); go_simp; (first | done | with_reducible rfl))
    try simp only [Act.put, List.setIfInBounds_toArray, List.set_cons_zero, List.set_cons_succ]
    refine wpAnyH_take (i := 34) (oi := { dst := some 104, op := Go.Op.move (Go.Operand.tmp 103), type := 4, pos := "law.go:92", after := #[{ on := 33, ground := Go.Ground.data }, { on := 30, ground := Go.Ground.chain }], guard := none }) (v := ?v63) rfl (by kernel_rfl) (by kernel_rfl) (by kernel_rfl) (fun _ _ _ h => h) (Or.inl ⟨by rfl, ?hy63⟩) hHeld ?rest63
    case hy63 => (intro w hSw; (try dsimp only at hSw); go_simp; (first | done | with_reducible rfl))
    try simp only [Act.put, List.setIfInBounds_toArray, List.set_cons_zero, List.set_cons_succ]
    refine wpAnyH_ready (rs := [35]) (by kernel_rfl) (by simp) ?_
    refine AllReadyH.cons (o := { dst := some 105, op := Go.Op.call { callee := Go.Callee.value (Go.Operand.func 11), args := #[], argTypes := #[] }, type := 4, pos := "law.go:92", after := #[{ on := 34, ground := Go.Ground.chain }, { on := 34, ground := Go.Ground.guard }], guard := some (34, true) }) rfl (fun K hK => ?_) (AllReadyH.nil)
    go_simp
    rw [if_pos (by rw [IntKind.wrap_i64]; omega)]
    refine (oawake_any _).mono ?_
    rintro e w105 ⟨rfl, x⟩
    have z64 := x.size
    replace E := E.trans x
    replace LB5 := LB5.ext x
    replace cB5_1 := cell_ext (x) cB5_1
    replace HV := HV.ext x
    replace LB11 := LB11.ext x
    clear x
    clear hHeld
    have hHeld := LB11
    refine hK.out _ _ hHeld (fun _ => ?_)
    clear hK K
    try simp only [Act.put, List.setIfInBounds_toArray, List.set_cons_zero, List.set_cons_succ]
    refine wpAnyH_take (i := 36) (oi := { dst := some 106, op := Go.Op.pick (Go.Operand.tmp 104) (Go.Operand.tmp 105) (Go.Operand.const (Go.Value.bool false)), type := 4, pos := "law.go:92", after := #[{ on := 34, ground := Go.Ground.data }, { on := 35, ground := Go.Ground.data }], guard := none }) (v := ?v65) rfl (by kernel_rfl) (by kernel_rfl) (by kernel_rfl) (fun _ _ _ h => h) (Or.inl ⟨by rfl, ?hy65⟩) hHeld ?rest65
    case hy65 => (intro w hSw; (try dsimp only at hSw); go_simp; (first | done | with_reducible rfl))
    try simp only [Act.put, List.setIfInBounds_toArray, List.set_cons_zero, List.set_cons_succ]
    refine wpAnyH_take (i := 37) (oi := { dst := some 10, op := Go.Op.assign (Go.Operand.tmp 106), type := 4, pos := "law.go:92", after := #[{ on := 36, ground := Go.Ground.data }, { on := 35, ground := Go.Ground.chain }, { on := 0, ground := Go.Ground.phase }, { on := 1, ground := Go.Ground.phase }, { on := 2, ground := Go.Ground.phase }, { on := 3, ground := Go.Ground.phase }, { on := 4, ground := Go.Ground.phase }, { on := 5, ground := Go.Ground.phase }, { on := 6, ground := Go.Ground.phase }, { on := 7, ground := Go.Ground.phase }, { on := 8, ground := Go.Ground.phase }, { on := 9, ground := Go.Ground.phase }, { on := 10, ground := Go.Ground.phase }, { on := 11, ground := Go.Ground.phase }, { on := 12, ground := Go.Ground.phase }, { on := 13, ground := Go.Ground.phase }, { on := 14, ground := Go.Ground.phase }, { on := 15, ground := Go.Ground.phase }, { on := 16, ground := Go.Ground.phase }, { on := 17, ground := Go.Ground.phase }, { on := 18, ground := Go.Ground.phase }, { on := 19, ground := Go.Ground.phase }, { on := 20, ground := Go.Ground.phase }, { on := 21, ground := Go.Ground.phase }, { on := 22, ground := Go.Ground.phase }, { on := 23, ground := Go.Ground.phase }, { on := 24, ground := Go.Ground.phase }, { on := 25, ground := Go.Ground.phase }, { on := 26, ground := Go.Ground.phase }, { on := 27, ground := Go.Ground.phase }, { on := 28, ground := Go.Ground.phase }, { on := 29, ground := Go.Ground.phase }, { on := 30, ground := Go.Ground.phase }, { on := 31, ground := Go.Ground.phase }, { on := 32, ground := Go.Ground.phase }, { on := 33, ground := Go.Ground.phase }, { on := 34, ground := Go.Ground.phase }, { on := 35, ground := Go.Ground.phase }, { on := 36, ground := Go.Ground.phase }], guard := none }) (v := ?v66) rfl (by kernel_rfl) (by kernel_rfl) (by kernel_rfl) (fun _ _ _ h => h) (Or.inl ⟨by rfl, ?hy66⟩) hHeld ?rest66
    case hy66 => (intro w hSw; (try dsimp only at hSw); go_simp; (first | done | with_reducible rfl))
    try simp only [Act.put, List.setIfInBounds_toArray, List.set_cons_zero, List.set_cons_succ]
    refine wpAnyH_done (by kernel_rfl) ?_ _
    go_wp2_with fail
    go_ret
    have e102 : (-cz == IntKind.i64.wrap (-cz)) = true := by rw [IntKind.wrap_i64]; simp; omega
    exact ⟨by show Ending.returned (.bool (-cz == IntKind.i64.wrap (-cz))) = _; rw [e102], E⟩
end Go.Proofs.Ytidnikndjhfgaaa
