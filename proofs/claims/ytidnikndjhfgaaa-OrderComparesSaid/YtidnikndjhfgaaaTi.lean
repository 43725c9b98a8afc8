/- rebusref16.Less, rebusref07.Check, rebuslaw16.good, value.Of, rebuslaw07.Of. -/
import Derived.Test.YtidnikndjhfgaaaTh
import Derived.Test.YtidnikndjhfgaaaYe
import Derived.Test.YtidnikndjhfgaaaYh
namespace Go.Proofs.Ytidnikndjhfgaaa
open Go.ChangeShapes Go.WideShapes Go.RowKit Bv Fl
set_option maxHeartbeats 2000000
set_option maxRecDepth 100000
theorem cmpZ_rng (a b : Int) : cmpZ a b = -1 ∨ cmpZ a b = 0 ∨ cmpZ a b = 1 := by unfold cmpZ; split; exact .inl rfl; split; exact .inr (.inr rfl); exact .inr (.inl rfl)
theorem cellZ_rng (X : List Int) (a b n : Nat) : cellZ X a b n = -1 ∨ cellZ X a b n = 0 ∨ cellZ X a b n = 1 := by
  induction n with
  | zero => exact .inr (.inl rfl)
  | succ n ih => unfold cellZ; split; exact ih; exact cmpZ_rng _ _
theorem rless_any (A : Option Addr) (n c : Nat) (IT : Nat → It) (X : List Int) (size i k : Nat) (down : Bool) (w : World) (ho : OI w A n IT X) (hs : size ≤ 1048576) (hi : i * size + size ≤ n) (hk : k * size + size ≤ n) :
    Calls Try.prog 20 #[.slice A n c, .int .i64 (size : Int), .int .i64 (i : Int), .int .i64 (k : Int), .bool down] w fun e w' => e = .returned (.bool (lessZ X size i k down)) ∧ Ext w w' := by
  have cc := fun w' (h : Ext w w') => rcells_any A n c IT X size i k _ _ w' ⟨ho.len, ho.lim, fun w2 h2 => ho.it w2 (h.trans h2), ho.below⟩ hs rfl rfl hi hk
  have hr : cellZ X (i * size) (k * size) size = -1 ∨ cellZ X (i * size) (k * size) size = 0 ∨ cellZ X (i * size) (k * size) size = 1 := cellZ_rng X _ _ _
  clear ho hs hi hk
  unfold lessZ
  generalize cellZ X (i * size) (k * size) size = cz at *
  have E := Ext.refl w
  rcases hr with rfl | rfl | rfl
  · cases down
    · go_enter Try.func20, Try.ntmps20
      go_wp2_with fail
      refine (cc _ E).mono ?_
      rintro e w16 ⟨rfl, x⟩
      have z1 := x.size
      replace E := E.trans x
      clear x
      go_wp2_with fail
      go_ret
      exact ⟨by first | rfl | simp, E⟩
    · go_enter Try.func20, Try.ntmps20
      go_wp2_with fail
      refine (cc _ E).mono ?_
      rintro e w16 ⟨rfl, x⟩
      have z1 := x.size
      replace E := E.trans x
      clear x
      go_wp2_with fail
      go_ret
      exact ⟨by first | rfl | simp, E⟩
  · cases down
    · go_enter Try.func20, Try.ntmps20
      go_wp2_with fail
      refine (cc _ E).mono ?_
      rintro e w16 ⟨rfl, x⟩
      have z1 := x.size
      replace E := E.trans x
      clear x
      go_wp2_with fail
      go_ret
      exact ⟨by first | rfl | simp, E⟩
    · go_enter Try.func20, Try.ntmps20
      go_wp2_with fail
      refine (cc _ E).mono ?_
      rintro e w16 ⟨rfl, x⟩
      have z1 := x.size
      replace E := E.trans x
      clear x
      go_wp2_with fail
      go_ret
      exact ⟨by first | rfl | simp, E⟩
  · cases down
    · go_enter Try.func20, Try.ntmps20
      go_wp2_with fail
      refine (cc _ E).mono ?_
      rintro e w16 ⟨rfl, x⟩
      have z1 := x.size
      replace E := E.trans x
      clear x
      go_wp2_with fail
      go_ret
      exact ⟨by first | rfl | simp, E⟩
    · go_enter Try.func20, Try.ntmps20
      go_wp2_with fail
      refine (cc _ E).mono ?_
      rintro e w16 ⟨rfl, x⟩
      have z1 := x.size
      replace E := E.trans x
      clear x
      go_wp2_with fail
      go_ret
      exact ⟨by first | rfl | simp, E⟩
theorem plCheck (n : Nat) (w : World) (p : Pl) (h : Deep n w p) : ∃ z : Int, (z = 0 → GoodD 40 w p) ∧ ∀ w1, Ext w w1 → Calls Try.prog 25 #[p.val] w1 fun e w' => e = .returned (.int .i64 z) ∧ Ext w1 w' := by
  obtain ⟨z, h1, h2⟩ := plcheck n w p 40 (by omega) (by omega) h
  refine ⟨z, h1, fun w1 hx => ?_⟩
  have hF : Flat 3 p.val := pl_flat _ _ _ _ _ _ _
  clear h h1
  generalize p.val = pv at *
  have cc := fun w' (hy : Ext w1 w') => h2 w' (hx.trans hy)
  clear h2 hx
  have E := Ext.refl w1
  go_enter Try.func25, Try.ntmps25
  have TB1 : True := trivial
  go_wp2_with (first | (clear TB1; refine boxsP (v := pv) rfl rfl rfl hF ?_; intro B1 w1 bB1 cB1 XB1 LB1 RB1; have z1 := XB1.size; replace E := E.trans XB1; clear RB1) | (refine loadsP (B := B1) (by rfl) rfl rfl LB1 ?_))
  clear LB1
  refine (cc _ E).mono ?_
  rintro e w4 ⟨rfl, x⟩
  have z2 := x.size
  replace E := E.trans x
  clear x
  go_wp2_with fail
  go_ret
  exact ⟨rfl, E⟩
def GoodB (m : Nat) (zc fl : Int) (w : World) (e : Ending) (w' : World) : Prop := ∃ g, e = .returned (.bool g) ∧ (g = true → m ≤ 300 ∧ zc = 0 ∧ fl < 2) ∧ Ext w w'
theorem ogood_any (sA : Option Addr) (ns sc : Nat) (iA : Option Addr) (m ic : Nat) (fl zc : Int) (w : World)
    (cn : ∀ w', Ext w w' → Calls Try.prog 24 #[(.agg #[.slice sA ns sc, .slice iA m ic, .int .i64 fl]), .int .i64 3000] w' fun e w2 => ∃ z, e = .returned (.int .i64 z) ∧ Ext w' w2)
    (ck : ∀ w', Ext w w' → Calls Try.prog 25 #[(.agg #[.slice sA ns sc, .slice iA m ic, .int .i64 fl])] w' fun e w2 => e = .returned (.int .i64 zc) ∧ Ext w' w2) :
    Calls Try.prog 14 #[(.agg #[.slice sA ns sc, .slice iA m ic, .int .i64 fl])] w (GoodB m zc fl w) := by
  have hF := pl_flat sA ns sc iA m ic fl
  have E := Ext.refl w
  have no : ∀ {P : Prop}, (false = true → P) := fun h => by cases h
  go_enter Try.func14, Try.ntmps14
  have TB1 : True := trivial
  go_wp2_with (first | (clear TB1; refine boxsP (v := (.agg #[.slice sA ns sc, .slice iA m ic, .int .i64 fl])) rfl rfl rfl hF ?_; intro B1 w1 bB1 cB1 XB1 LB1 RB1; have z1 := XB1.size; replace E := E.trans XB1; have cB1_1 := lay_cell LB1 (j := 1) rfl; have cB1_2 := lay_cell LB1 (j := 2) rfl; clear RB1) | (refine loadsP (B := B1) (by rfl) rfl rfl LB1 ?_))
  refine (cn _ E).mono ?_
  rintro e w4 ⟨z, rfl, x⟩
  have hcase : decide (z ≤ 1000) = false ∨ (decide (z ≤ 1000) = true ∧ decide ((m : Int) ≤ 300) = false) ∨ (decide (z ≤ 1000) = true ∧ decide ((m : Int) ≤ 300) = true ∧ (zc == 0) = false) ∨ (decide (z ≤ 1000) = true ∧ decide ((m : Int) ≤ 300) = true ∧ (zc == 0) = true ∧ decide (fl < 2) = false) ∨ (decide (z ≤ 1000) = true ∧ decide ((m : Int) ≤ 300) = true ∧ (zc == 0) = true ∧ decide (fl < 2) = true) := by
    generalize decide (z ≤ 1000) = p1
    generalize decide ((m : Int) ≤ 300) = p2
    generalize (zc == 0) = p3
    generalize decide (fl < 2) = p4
    revert p1 p2 p3 p4
    decide
  rcases hcase with h5 | ⟨h5, h10⟩ | ⟨h5, h10, h15⟩ | ⟨h5, h10, h15, h20⟩ | ⟨h5, h10, h15, h20⟩
  · have z2 := x.size
    replace E := E.trans x
    replace LB1 := LB1.ext x
    replace cB1_1 := cell_ext (x) cB1_1
    replace cB1_2 := cell_ext (x) cB1_2
    clear x
    go_wp2_with fail
    go_ret
    exact ⟨false, rfl, no, E⟩
  · have z2 := x.size
    replace E := E.trans x
    replace LB1 := LB1.ext x
    replace cB1_1 := cell_ext (x) cB1_1
    replace cB1_2 := cell_ext (x) cB1_2
    clear x
    go_wp2_with fail
    go_ret
    exact ⟨false, rfl, no, E⟩
  · have z2 := x.size
    replace E := E.trans x
    replace LB1 := LB1.ext x
    replace cB1_1 := cell_ext (x) cB1_1
    replace cB1_2 := cell_ext (x) cB1_2
    clear x
    go_wp2_with (refine loadgP (B := B1) (by rfl) rfl rfl LB1 ?_)
    refine (ck _ E).mono ?_
    rintro e w14 ⟨rfl, x⟩
    have z3 := x.size
    replace E := E.trans x
    replace LB1 := LB1.ext x
    replace cB1_1 := cell_ext (x) cB1_1
    replace cB1_2 := cell_ext (x) cB1_2
    clear x
    go_wp2_with fail
    go_ret
    exact ⟨false, rfl, no, E⟩
  · have z2 := x.size
    replace E := E.trans x
    replace LB1 := LB1.ext x
    replace cB1_1 := cell_ext (x) cB1_1
    replace cB1_2 := cell_ext (x) cB1_2
    clear x
    go_wp2_with (refine loadgP (B := B1) (by rfl) rfl rfl LB1 ?_)
    refine (ck _ E).mono ?_
    rintro e w14 ⟨rfl, x⟩
    have z3 := x.size
    replace E := E.trans x
    replace LB1 := LB1.ext x
    replace cB1_1 := cell_ext (x) cB1_1
    replace cB1_2 := cell_ext (x) cB1_2
    clear x
    go_wp2_with fail
    go_ret
    exact ⟨false, rfl, no, E⟩
  · have z2 := x.size
    replace E := E.trans x
    replace LB1 := LB1.ext x
    replace cB1_1 := cell_ext (x) cB1_1
    replace cB1_2 := cell_ext (x) cB1_2
    clear x
    go_wp2_with (refine loadgP (B := B1) (by rfl) rfl rfl LB1 ?_)
    refine (ck _ E).mono ?_
    rintro e w14 ⟨rfl, x⟩
    have z3 := x.size
    replace E := E.trans x
    replace LB1 := LB1.ext x
    replace cB1_1 := cell_ext (x) cB1_1
    replace cB1_2 := cell_ext (x) cB1_2
    clear x
    go_wp2_with fail
    go_ret
    exact ⟨true, rfl, fun _ => ⟨by have := of_decide_eq_true h10; omega, by simpa using h15, of_decide_eq_true h20⟩, E⟩
end Go.Proofs.Ytidnikndjhfgaaa
