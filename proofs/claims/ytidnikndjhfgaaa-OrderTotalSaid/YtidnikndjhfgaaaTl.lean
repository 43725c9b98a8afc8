/- OrderCells. -/
import Derived.Test.YtidnikndjhfgaaaTk
import Derived.Test.YtidnikndjhfgaaaTe
namespace Go.Proofs.Ytidnikndjhfgaaa
open Go.ChangeShapes Go.WideShapes Go.RowKit Bv Fl
set_option maxHeartbeats 2000000
set_option maxRecDepth 100000
theorem joinK12 {A0 A1 A2 A3 A4 A5 A6 A7 A8 A9 A10 A11 : Type} {F KA : World → A0 → A1 → A2 → A3 → A4 → A5 → A6 → A7 → A8 → A9 → A10 → A11 → Prop} {G : Prop} (h : (∀ w a0 a1 a2 a3 a4 a5 a6 a7 a8 a9 a10 a11, F w a0 a1 a2 a3 a4 a5 a6 a7 a8 a9 a10 a11 → KA w a0 a1 a2 a3 a4 a5 a6 a7 a8 a9 a10 a11) → G) (t : ∀ w a0 a1 a2 a3 a4 a5 a6 a7 a8 a9 a10 a11, F w a0 a1 a2 a3 a4 a5 a6 a7 a8 a9 a10 a11 → KA w a0 a1 a2 a3 a4 a5 a6 a7 a8 a9 a10 a11) : G := h t
theorem ocells_b1 (sA : Option Addr) (ns sc : Nat) (iA : Option Addr) (m ic : Nat) (fl zc : Int) (w : World)
    (cg : ∀ w', Ext w w' → Calls Try.prog 14 #[(.agg #[.slice sA ns sc, .slice iA m ic, .int .i64 fl])] w' (GoodB m zc fl w')) (size i k : Int) (down : Bool) (h1 : size < 1) : Calls Try.prog 4 #[(.agg #[.slice sA ns sc, .slice iA m ic, .int .i64 fl]), .int .i64 size, .int .i64 i, .int .i64 k, .bool down] w fun e w' => e = .returned (.bool true) ∧ Ext w w' := by
  have hF := pl_flat sA ns sc iA m ic fl
  have E := Ext.refl w
  go_enter Try.func4, Try.ntmps4
  have TB5 : True := trivial
  go_wp2_with (first | (clear TB5; refine boxsP (v := (.agg #[.slice sA ns sc, .slice iA m ic, .int .i64 fl])) rfl rfl rfl hF ?_; intro B5 w5 bB5 cB5 XB5 LB5 RB5; have z1 := XB5.size; replace E := E.trans XB5; have cB5_1 := lay_cell LB5 (j := 1) rfl; clear RB5) | (refine loadsP (B := B5) (by rfl) rfl rfl LB5 ?_))
  refine (cg _ E).mono ?_
  rintro e w14 ⟨g, rfl, hg, x⟩
  cases g
  · have z2 := x.size
    replace E := E.trans x
    replace LB5 := LB5.ext x
    replace cB5_1 := cell_ext (x) cB5_1
    clear x
    go_wp2_with fail
    refine (oawake_any _).mono ?_
    rintro e w50 ⟨rfl, x⟩
    have z3 := x.size
    replace E := E.trans x
    replace LB5 := LB5.ext x
    replace cB5_1 := cell_ext (x) cB5_1
    clear x
    go_wp2_with fail
    go_ret
    exact ⟨rfl, E⟩
  · have z2 := x.size
    replace E := E.trans x
    replace LB5 := LB5.ext x
    replace cB5_1 := cell_ext (x) cB5_1
    clear x
    go_wp2_with fail
    refine (oawake_any _).mono ?_
    rintro e w50 ⟨rfl, x⟩
    have z3 := x.size
    replace E := E.trans x
    replace LB5 := LB5.ext x
    replace cB5_1 := cell_ext (x) cB5_1
    clear x
    go_wp2_with fail
    go_ret
    exact ⟨rfl, E⟩
theorem ocells_b2 (sA : Option Addr) (ns sc : Nat) (iA : Option Addr) (m ic : Nat) (fl zc : Int) (w : World)
    (cg : ∀ w', Ext w w' → Calls Try.prog 14 #[(.agg #[.slice sA ns sc, .slice iA m ic, .int .i64 fl])] w' (GoodB m zc fl w')) (size i k : Int) (down : Bool) (h1 : ¬ size < 1) (h2 : 300 < size) : Calls Try.prog 4 #[(.agg #[.slice sA ns sc, .slice iA m ic, .int .i64 fl]), .int .i64 size, .int .i64 i, .int .i64 k, .bool down] w fun e w' => e = .returned (.bool true) ∧ Ext w w' := by
  have hF := pl_flat sA ns sc iA m ic fl
  have E := Ext.refl w
  go_enter Try.func4, Try.ntmps4
  have TB5 : True := trivial
  go_wp2_with (first | (clear TB5; refine boxsP (v := (.agg #[.slice sA ns sc, .slice iA m ic, .int .i64 fl])) rfl rfl rfl hF ?_; intro B5 w5 bB5 cB5 XB5 LB5 RB5; have z1 := XB5.size; replace E := E.trans XB5; have cB5_1 := lay_cell LB5 (j := 1) rfl; clear RB5) | (refine loadsP (B := B5) (by rfl) rfl rfl LB5 ?_))
  refine (cg _ E).mono ?_
  rintro e w14 ⟨g, rfl, hg, x⟩
  cases g
  · have z2 := x.size
    replace E := E.trans x
    replace LB5 := LB5.ext x
    replace cB5_1 := cell_ext (x) cB5_1
    clear x
    go_wp2_with fail
    refine (oawake_any _).mono ?_
    rintro e w50 ⟨rfl, x⟩
    have z3 := x.size
    replace E := E.trans x
    replace LB5 := LB5.ext x
    replace cB5_1 := cell_ext (x) cB5_1
    clear x
    go_wp2_with fail
    go_ret
    exact ⟨rfl, E⟩
  · have z2 := x.size
    replace E := E.trans x
    replace LB5 := LB5.ext x
    replace cB5_1 := cell_ext (x) cB5_1
    clear x
    go_wp2_with fail
    refine (oawake_any _).mono ?_
    rintro e w50 ⟨rfl, x⟩
    have z3 := x.size
    replace E := E.trans x
    replace LB5 := LB5.ext x
    replace cB5_1 := cell_ext (x) cB5_1
    clear x
    go_wp2_with fail
    go_ret
    exact ⟨rfl, E⟩
theorem ocells_b3 (sA : Option Addr) (ns sc : Nat) (iA : Option Addr) (m ic : Nat) (fl zc : Int) (w : World)
    (cg : ∀ w', Ext w w' → Calls Try.prog 14 #[(.agg #[.slice sA ns sc, .slice iA m ic, .int .i64 fl])] w' (GoodB m zc fl w')) (size i k : Int) (down : Bool) (h1 : ¬ size < 1) (h2 : ¬ 300 < size) (h3 : i < 0) : Calls Try.prog 4 #[(.agg #[.slice sA ns sc, .slice iA m ic, .int .i64 fl]), .int .i64 size, .int .i64 i, .int .i64 k, .bool down] w fun e w' => e = .returned (.bool true) ∧ Ext w w' := by
  have hF := pl_flat sA ns sc iA m ic fl
  have E := Ext.refl w
  go_enter Try.func4, Try.ntmps4
  have TB5 : True := trivial
  go_wp2_with (first | (clear TB5; refine boxsP (v := (.agg #[.slice sA ns sc, .slice iA m ic, .int .i64 fl])) rfl rfl rfl hF ?_; intro B5 w5 bB5 cB5 XB5 LB5 RB5; have z1 := XB5.size; replace E := E.trans XB5; have cB5_1 := lay_cell LB5 (j := 1) rfl; clear RB5) | (refine loadsP (B := B5) (by rfl) rfl rfl LB5 ?_))
  refine (cg _ E).mono ?_
  rintro e w14 ⟨g, rfl, hg, x⟩
  cases g
  · have z2 := x.size
    replace E := E.trans x
    replace LB5 := LB5.ext x
    replace cB5_1 := cell_ext (x) cB5_1
    clear x
    go_wp2_with fail
    refine (oawake_any _).mono ?_
    rintro e w50 ⟨rfl, x⟩
    have z3 := x.size
    replace E := E.trans x
    replace LB5 := LB5.ext x
    replace cB5_1 := cell_ext (x) cB5_1
    clear x
    go_wp2_with fail
    go_ret
    exact ⟨rfl, E⟩
  · have z2 := x.size
    replace E := E.trans x
    replace LB5 := LB5.ext x
    replace cB5_1 := cell_ext (x) cB5_1
    clear x
    go_wp2_with fail
    refine (oawake_any _).mono ?_
    rintro e w50 ⟨rfl, x⟩
    have z3 := x.size
    replace E := E.trans x
    replace LB5 := LB5.ext x
    replace cB5_1 := cell_ext (x) cB5_1
    clear x
    go_wp2_with fail
    go_ret
    exact ⟨rfl, E⟩
theorem ocells_b4 (sA : Option Addr) (ns sc : Nat) (iA : Option Addr) (m ic : Nat) (fl zc : Int) (w : World)
    (cg : ∀ w', Ext w w' → Calls Try.prog 14 #[(.agg #[.slice sA ns sc, .slice iA m ic, .int .i64 fl])] w' (GoodB m zc fl w')) (size i k : Int) (down : Bool) (h1 : ¬ size < 1) (h2 : ¬ 300 < size) (h3 : ¬ i < 0) (h4 : k < 0) : Calls Try.prog 4 #[(.agg #[.slice sA ns sc, .slice iA m ic, .int .i64 fl]), .int .i64 size, .int .i64 i, .int .i64 k, .bool down] w fun e w' => e = .returned (.bool true) ∧ Ext w w' := by
  have hF := pl_flat sA ns sc iA m ic fl
  have E := Ext.refl w
  go_enter Try.func4, Try.ntmps4
  have TB5 : True := trivial
  go_wp2_with (first | (clear TB5; refine boxsP (v := (.agg #[.slice sA ns sc, .slice iA m ic, .int .i64 fl])) rfl rfl rfl hF ?_; intro B5 w5 bB5 cB5 XB5 LB5 RB5; have z1 := XB5.size; replace E := E.trans XB5; have cB5_1 := lay_cell LB5 (j := 1) rfl; clear RB5) | (refine loadsP (B := B5) (by rfl) rfl rfl LB5 ?_))
  refine (cg _ E).mono ?_
  rintro e w14 ⟨g, rfl, hg, x⟩
  cases g
  · have z2 := x.size
    replace E := E.trans x
    replace LB5 := LB5.ext x
    replace cB5_1 := cell_ext (x) cB5_1
    clear x
    go_wp2_with fail
    refine (oawake_any _).mono ?_
    rintro e w50 ⟨rfl, x⟩
    have z3 := x.size
    replace E := E.trans x
    replace LB5 := LB5.ext x
    replace cB5_1 := cell_ext (x) cB5_1
    clear x
    go_wp2_with fail
    go_ret
    exact ⟨rfl, E⟩
  · have z2 := x.size
    replace E := E.trans x
    replace LB5 := LB5.ext x
    replace cB5_1 := cell_ext (x) cB5_1
    clear x
    go_wp2_with fail
    refine (oawake_any _).mono ?_
    rintro e w50 ⟨rfl, x⟩
    have z3 := x.size
    replace E := E.trans x
    replace LB5 := LB5.ext x
    replace cB5_1 := cell_ext (x) cB5_1
    clear x
    go_wp2_with fail
    go_ret
    exact ⟨rfl, E⟩
theorem ocells_b5 (sA : Option Addr) (ns sc : Nat) (iA : Option Addr) (m ic : Nat) (fl zc : Int) (w : World)
    (cg : ∀ w', Ext w w' → Calls Try.prog 14 #[(.agg #[.slice sA ns sc, .slice iA m ic, .int .i64 fl])] w' (GoodB m zc fl w')) (z Q i k : Nat) (down : Bool) (hz : 1 ≤ z) (hz2 : z ≤ 300) (hm : m ≤ 9223372036854775807) (hQ : m / z = Q) (h5 : Q ≤ i) : Calls Try.prog 4 #[(.agg #[.slice sA ns sc, .slice iA m ic, .int .i64 fl]), .int .i64 (z : Int), .int .i64 (i : Int), .int .i64 (k : Int), .bool down] w fun e w' => e = .returned (.bool true) ∧ Ext w w' := by
  have hF := pl_flat sA ns sc iA m ic fl
  have E := Ext.refl w
  have eQ : (m : Int).tdiv (z : Int) = (Q : Int) := by rw [Int.tdiv_eq_ediv_of_nonneg (by omega), ← hQ]; rfl
  have eQ2 : (m : Int) / (z : Int) = (Q : Int) := by rw [← hQ]; rfl
  have e18 : decide ((z : Int) < 1) = false := decide_eq_false (by omega)
  have e22 : decide ((300 : Int) < (z : Int)) = false := decide_eq_false (by omega)
  have e26 : decide ((i : Int) < 0) = false := decide_eq_false (by omega)
  have e30 : decide ((k : Int) < 0) = false := decide_eq_false (by omega)
  have hQm : Q ≤ m := by rw [← hQ]; exact Nat.div_le_self _ _
  have ez : ((z : Int) == 0) = false := by simp; omega
  clear hQ
  have e39 : decide (Q ≤ i) = true := decide_eq_true h5
  go_enter Try.func4, Try.ntmps4
  have TB5 : True := trivial
  go_wp2_with (first | (clear TB5; refine boxsP (v := (.agg #[.slice sA ns sc, .slice iA m ic, .int .i64 fl])) rfl rfl rfl hF ?_; intro B5 w5 bB5 cB5 XB5 LB5 RB5; have z1 := XB5.size; replace E := E.trans XB5; have cB5_1 := lay_cell LB5 (j := 1) rfl; clear RB5) | (refine loadsP (B := B5) (by rfl) rfl rfl LB5 ?_))
  refine (cg _ E).mono ?_
  rintro e w14 ⟨g, rfl, hg, x⟩
  cases g
  · have z2 := x.size
    replace E := E.trans x
    replace LB5 := LB5.ext x
    replace cB5_1 := cell_ext (x) cB5_1
    clear x
    go_wp2_with fail
    refine (oawake_any _).mono ?_
    rintro e w50 ⟨rfl, x⟩
    have z3 := x.size
    replace E := E.trans x
    replace LB5 := LB5.ext x
    replace cB5_1 := cell_ext (x) cB5_1
    clear x
    go_wp2_with fail
    go_ret
    exact ⟨rfl, E⟩
  · have z2 := x.size
    replace E := E.trans x
    replace LB5 := LB5.ext x
    replace cB5_1 := cell_ext (x) cB5_1
    clear x
    go_wp2_with fail
    refine (oawake_any _).mono ?_
    rintro e w50 ⟨rfl, x⟩
    have z3 := x.size
    replace E := E.trans x
    replace LB5 := LB5.ext x
    replace cB5_1 := cell_ext (x) cB5_1
    clear x
    go_wp2_with fail
    go_ret
    exact ⟨rfl, E⟩
theorem ocells_b6 (sA : Option Addr) (ns sc : Nat) (iA : Option Addr) (m ic : Nat) (fl zc : Int) (w : World)
    (cg : ∀ w', Ext w w' → Calls Try.prog 14 #[(.agg #[.slice sA ns sc, .slice iA m ic, .int .i64 fl])] w' (GoodB m zc fl w')) (z Q i k : Nat) (down : Bool) (hz : 1 ≤ z) (hz2 : z ≤ 300) (hm : m ≤ 9223372036854775807) (hQ : m / z = Q) (h5 : ¬ Q ≤ i) (h6 : Q ≤ k) : Calls Try.prog 4 #[(.agg #[.slice sA ns sc, .slice iA m ic, .int .i64 fl]), .int .i64 (z : Int), .int .i64 (i : Int), .int .i64 (k : Int), .bool down] w fun e w' => e = .returned (.bool true) ∧ Ext w w' := by
  have hF := pl_flat sA ns sc iA m ic fl
  have E := Ext.refl w
  have eQ : (m : Int).tdiv (z : Int) = (Q : Int) := by rw [Int.tdiv_eq_ediv_of_nonneg (by omega), ← hQ]; rfl
  have eQ2 : (m : Int) / (z : Int) = (Q : Int) := by rw [← hQ]; rfl
  have e18 : decide ((z : Int) < 1) = false := decide_eq_false (by omega)
  have e22 : decide ((300 : Int) < (z : Int)) = false := decide_eq_false (by omega)
  have e26 : decide ((i : Int) < 0) = false := decide_eq_false (by omega)
  have e30 : decide ((k : Int) < 0) = false := decide_eq_false (by omega)
  have hQm : Q ≤ m := by rw [← hQ]; exact Nat.div_le_self _ _
  have ez : ((z : Int) == 0) = false := by simp; omega
  clear hQ
  have e39 : decide (Q ≤ i) = false := decide_eq_false h5
  have e48 : decide (Q ≤ k) = true := decide_eq_true h6
  go_enter Try.func4, Try.ntmps4
  have TB5 : True := trivial
  go_wp2_with (first | (clear TB5; refine boxsP (v := (.agg #[.slice sA ns sc, .slice iA m ic, .int .i64 fl])) rfl rfl rfl hF ?_; intro B5 w5 bB5 cB5 XB5 LB5 RB5; have z1 := XB5.size; replace E := E.trans XB5; have cB5_1 := lay_cell LB5 (j := 1) rfl; clear RB5) | (refine loadsP (B := B5) (by rfl) rfl rfl LB5 ?_))
  refine (cg _ E).mono ?_
  rintro e w14 ⟨g, rfl, hg, x⟩
  cases g
  · have z2 := x.size
    replace E := E.trans x
    replace LB5 := LB5.ext x
    replace cB5_1 := cell_ext (x) cB5_1
    clear x
    go_wp2_with fail
    refine (oawake_any _).mono ?_
    rintro e w50 ⟨rfl, x⟩
    have z3 := x.size
    replace E := E.trans x
    replace LB5 := LB5.ext x
    replace cB5_1 := cell_ext (x) cB5_1
    clear x
    go_wp2_with fail
    go_ret
    exact ⟨rfl, E⟩
  · have z2 := x.size
    replace E := E.trans x
    replace LB5 := LB5.ext x
    replace cB5_1 := cell_ext (x) cB5_1
    clear x
    go_wp2_with fail
    refine (oawake_any _).mono ?_
    rintro e w50 ⟨rfl, x⟩
    have z3 := x.size
    replace E := E.trans x
    replace LB5 := LB5.ext x
    replace cB5_1 := cell_ext (x) cB5_1
    clear x
    go_wp2_with fail
    go_ret
    exact ⟨rfl, E⟩
end Go.Proofs.Ytidnikndjhfgaaa
