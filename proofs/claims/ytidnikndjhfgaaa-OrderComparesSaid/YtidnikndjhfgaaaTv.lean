/- OrderCompares. -/
import Derived.Test.YtidnikndjhfgaaaTu
namespace Go.Proofs.Ytidnikndjhfgaaa
open Go.ChangeShapes Go.WideShapes Go.RowKit Bv Fl
set_option maxHeartbeats 2000000
set_option maxRecDepth 100000
theorem ocomp_b1 (sA : Option Addr) (ns sc : Nat) (iA : Option Addr) (m ic : Nat) (fl : Int) (tA : Option Addr) (nt tc : Nat) (jA : Option Addr) (r jc : Nat) (fq : Int) (zc zd : Int) (w : World)
    (cn : ∀ w', Ext w w' → Calls Try.prog 24 #[(.agg #[.slice sA ns sc, .slice iA m ic, .int .i64 fl]), .int .i64 3000] w' fun e w2 => ∃ z, e = .returned (.int .i64 z) ∧ Ext w' w2)
    (ck : ∀ w', Ext w w' → Calls Try.prog 25 #[(.agg #[.slice sA ns sc, .slice iA m ic, .int .i64 fl])] w' fun e w2 => e = .returned (.int .i64 zc) ∧ Ext w' w2)
    (_ : ∀ w', Ext w w' → Calls Try.prog 24 #[(.agg #[.slice tA nt tc, .slice jA r jc, .int .i64 fq]), .int .i64 3000] w' fun e w2 => ∃ z, e = .returned (.int .i64 z) ∧ Ext w' w2)
    (_ : ∀ w', Ext w w' → Calls Try.prog 25 #[(.agg #[.slice tA nt tc, .slice jA r jc, .int .i64 fq])] w' fun e w2 => e = .returned (.int .i64 zd) ∧ Ext w' w2) (i k : Int) (h1 : (zc != 0) = true) : Calls Try.prog 7 #[(.agg #[.slice sA ns sc, .slice iA m ic, .int .i64 fl]), (.agg #[.slice tA nt tc, .slice jA r jc, .int .i64 fq]), .int .i64 i, .int .i64 k] w fun e w' => e = .returned (.bool true) ∧ Ext w w' := by
  have hF := pl_flat sA ns sc iA m ic fl
  have hG := pl_flat tA nt tc jA r jc fq
  have E := Ext.refl w
  go_enter Try.func7, Try.ntmps7
  have TB4 : True := trivial
  have TB5 : True := trivial
  go_wp2_with (first | (clear TB4; refine boxsP (v := (.agg #[.slice sA ns sc, .slice iA m ic, .int .i64 fl])) rfl rfl rfl hF ?_; intro B4 w4 bB4 cB4 XB4 LB4 RB4; have z1 := XB4.size; replace E := E.trans XB4; have cB4_1 := lay_cell LB4 (j := 1) rfl; have cB4_2 := lay_cell LB4 (j := 2) rfl; clear RB4) | (clear TB5; refine boxsP (v := (.agg #[.slice tA nt tc, .slice jA r jc, .int .i64 fq])) rfl rfl rfl hG ?_; intro B5 w5 bB5 cB5 XB5 LB5 RB5; have z2 := XB5.size; replace E := E.trans XB5; replace LB4 := LB4.ext XB5; replace cB4_1 := cell_ext (XB5) cB4_1; replace cB4_2 := cell_ext (XB5) cB4_2; have cB5_1 := lay_cell LB5 (j := 1) rfl; have cB5_2 := lay_cell LB5 (j := 2) rfl; clear RB5) | (refine loadsP (B := B4) (by rfl) rfl rfl LB4 ?_))
  refine (cn _ E).mono ?_
  rintro e w15 ⟨z, rfl, x⟩
  have hz1 : decide (1000 < z) = true ∨ decide (1000 < z) = false := by cases decide (1000 < z) <;> simp
  rcases hz1 with hz1 | hz1
  · have z3 := x.size
    replace E := E.trans x
    replace LB4 := LB4.ext x
    replace cB4_1 := cell_ext (x) cB4_1
    replace cB4_2 := cell_ext (x) cB4_2
    replace LB5 := LB5.ext x
    replace cB5_1 := cell_ext (x) cB5_1
    replace cB5_2 := cell_ext (x) cB5_2
    clear x
    go_wp2_with fail
    refine (oawake_any _).mono ?_
    rintro e w54 ⟨rfl, x⟩
    have z4 := x.size
    replace E := E.trans x
    replace LB4 := LB4.ext x
    replace cB4_1 := cell_ext (x) cB4_1
    replace cB4_2 := cell_ext (x) cB4_2
    replace LB5 := LB5.ext x
    replace cB5_1 := cell_ext (x) cB5_1
    replace cB5_2 := cell_ext (x) cB5_2
    clear x
    go_wp2_with fail
    go_ret
    exact ⟨rfl, E⟩
  · have z3 := x.size
    replace E := E.trans x
    replace LB4 := LB4.ext x
    replace cB4_1 := cell_ext (x) cB4_1
    replace cB4_2 := cell_ext (x) cB4_2
    replace LB5 := LB5.ext x
    replace cB5_1 := cell_ext (x) cB5_1
    replace cB5_2 := cell_ext (x) cB5_2
    clear x
    go_wp2_with (refine loadgP (B := B4) (by rfl) rfl rfl LB4 ?_)
    refine (ck _ E).mono ?_
    rintro e w19 ⟨rfl, x⟩
    have z4 := x.size
    replace E := E.trans x
    replace LB4 := LB4.ext x
    replace cB4_1 := cell_ext (x) cB4_1
    replace cB4_2 := cell_ext (x) cB4_2
    replace LB5 := LB5.ext x
    replace cB5_1 := cell_ext (x) cB5_1
    replace cB5_2 := cell_ext (x) cB5_2
    clear x
    go_wp2_with fail
    refine (oawake_any _).mono ?_
    rintro e w54 ⟨rfl, x⟩
    have z5 := x.size
    replace E := E.trans x
    replace LB4 := LB4.ext x
    replace cB4_1 := cell_ext (x) cB4_1
    replace cB4_2 := cell_ext (x) cB4_2
    replace LB5 := LB5.ext x
    replace cB5_1 := cell_ext (x) cB5_1
    replace cB5_2 := cell_ext (x) cB5_2
    clear x
    go_wp2_with fail
    go_ret
    exact ⟨rfl, E⟩
theorem ocomp_b3 (sA : Option Addr) (ns sc : Nat) (iA : Option Addr) (m ic : Nat) (fl : Int) (tA : Option Addr) (nt tc : Nat) (jA : Option Addr) (r jc : Nat) (fq : Int) (zc zd : Int) (w : World)
    (cn : ∀ w', Ext w w' → Calls Try.prog 24 #[(.agg #[.slice sA ns sc, .slice iA m ic, .int .i64 fl]), .int .i64 3000] w' fun e w2 => ∃ z, e = .returned (.int .i64 z) ∧ Ext w' w2)
    (ck : ∀ w', Ext w w' → Calls Try.prog 25 #[(.agg #[.slice sA ns sc, .slice iA m ic, .int .i64 fl])] w' fun e w2 => e = .returned (.int .i64 zc) ∧ Ext w' w2)
    (dn : ∀ w', Ext w w' → Calls Try.prog 24 #[(.agg #[.slice tA nt tc, .slice jA r jc, .int .i64 fq]), .int .i64 3000] w' fun e w2 => ∃ z, e = .returned (.int .i64 z) ∧ Ext w' w2)
    (dk : ∀ w', Ext w w' → Calls Try.prog 25 #[(.agg #[.slice tA nt tc, .slice jA r jc, .int .i64 fq])] w' fun e w2 => e = .returned (.int .i64 zd) ∧ Ext w' w2) (i k : Int) (h1 : (zc != 0) = false) (h3 : (zd != 0) = true) : Calls Try.prog 7 #[(.agg #[.slice sA ns sc, .slice iA m ic, .int .i64 fl]), (.agg #[.slice tA nt tc, .slice jA r jc, .int .i64 fq]), .int .i64 i, .int .i64 k] w fun e w' => e = .returned (.bool true) ∧ Ext w w' := by
  have hF := pl_flat sA ns sc iA m ic fl
  have hG := pl_flat tA nt tc jA r jc fq
  have E := Ext.refl w
  go_enter Try.func7, Try.ntmps7
  have TB4 : True := trivial
  have TB5 : True := trivial
  go_wp2_with (first | (clear TB4; refine boxsP (v := (.agg #[.slice sA ns sc, .slice iA m ic, .int .i64 fl])) rfl rfl rfl hF ?_; intro B4 w4 bB4 cB4 XB4 LB4 RB4; have z1 := XB4.size; replace E := E.trans XB4; have cB4_1 := lay_cell LB4 (j := 1) rfl; have cB4_2 := lay_cell LB4 (j := 2) rfl; clear RB4) | (clear TB5; refine boxsP (v := (.agg #[.slice tA nt tc, .slice jA r jc, .int .i64 fq])) rfl rfl rfl hG ?_; intro B5 w5 bB5 cB5 XB5 LB5 RB5; have z2 := XB5.size; replace E := E.trans XB5; replace LB4 := LB4.ext XB5; replace cB4_1 := cell_ext (XB5) cB4_1; replace cB4_2 := cell_ext (XB5) cB4_2; have cB5_1 := lay_cell LB5 (j := 1) rfl; have cB5_2 := lay_cell LB5 (j := 2) rfl; clear RB5) | (refine loadsP (B := B4) (by rfl) rfl rfl LB4 ?_))
  refine (cn _ E).mono ?_
  rintro e w15 ⟨z, rfl, x⟩
  have hz1 : decide (1000 < z) = true ∨ decide (1000 < z) = false := by cases decide (1000 < z) <;> simp
  rcases hz1 with hz1 | hz1
  · have z3 := x.size
    replace E := E.trans x
    replace LB4 := LB4.ext x
    replace cB4_1 := cell_ext (x) cB4_1
    replace cB4_2 := cell_ext (x) cB4_2
    replace LB5 := LB5.ext x
    replace cB5_1 := cell_ext (x) cB5_1
    replace cB5_2 := cell_ext (x) cB5_2
    clear x
    go_wp2_with fail
    refine (oawake_any _).mono ?_
    rintro e w54 ⟨rfl, x⟩
    have z4 := x.size
    replace E := E.trans x
    replace LB4 := LB4.ext x
    replace cB4_1 := cell_ext (x) cB4_1
    replace cB4_2 := cell_ext (x) cB4_2
    replace LB5 := LB5.ext x
    replace cB5_1 := cell_ext (x) cB5_1
    replace cB5_2 := cell_ext (x) cB5_2
    clear x
    go_wp2_with fail
    go_ret
    exact ⟨rfl, E⟩
  · have z3 := x.size
    replace E := E.trans x
    replace LB4 := LB4.ext x
    replace cB4_1 := cell_ext (x) cB4_1
    replace cB4_2 := cell_ext (x) cB4_2
    replace LB5 := LB5.ext x
    replace cB5_1 := cell_ext (x) cB5_1
    replace cB5_2 := cell_ext (x) cB5_2
    clear x
    go_wp2_with (refine loadgP (B := B4) (by rfl) rfl rfl LB4 ?_)
    refine (ck _ E).mono ?_
    rintro e w19 ⟨rfl, x⟩
    have z4 := x.size
    replace E := E.trans x
    replace LB4 := LB4.ext x
    replace cB4_1 := cell_ext (x) cB4_1
    replace cB4_2 := cell_ext (x) cB4_2
    replace LB5 := LB5.ext x
    replace cB5_1 := cell_ext (x) cB5_1
    replace cB5_2 := cell_ext (x) cB5_2
    clear x
    go_wp2_with (refine loadgP (B := B5) (by rfl) rfl rfl LB5 ?_)
    refine (dn _ E).mono ?_
    rintro e w24 ⟨z2, rfl, x⟩
    have hz2 : decide (1000 < z2) = true ∨ decide (1000 < z2) = false := by cases decide (1000 < z2) <;> simp
    rcases hz2 with hz2 | hz2
    · have z5 := x.size
      replace E := E.trans x
      replace LB4 := LB4.ext x
      replace cB4_1 := cell_ext (x) cB4_1
      replace cB4_2 := cell_ext (x) cB4_2
      replace LB5 := LB5.ext x
      replace cB5_1 := cell_ext (x) cB5_1
      replace cB5_2 := cell_ext (x) cB5_2
      clear x
      go_wp2_with fail
      refine (oawake_any _).mono ?_
      rintro e w54 ⟨rfl, x⟩
      have z6 := x.size
      replace E := E.trans x
      replace LB4 := LB4.ext x
      replace cB4_1 := cell_ext (x) cB4_1
      replace cB4_2 := cell_ext (x) cB4_2
      replace LB5 := LB5.ext x
      replace cB5_1 := cell_ext (x) cB5_1
      replace cB5_2 := cell_ext (x) cB5_2
      clear x
      go_wp2_with fail
      go_ret
      exact ⟨rfl, E⟩
    · have z5 := x.size
      replace E := E.trans x
      replace LB4 := LB4.ext x
      replace cB4_1 := cell_ext (x) cB4_1
      replace cB4_2 := cell_ext (x) cB4_2
      replace LB5 := LB5.ext x
      replace cB5_1 := cell_ext (x) cB5_1
      replace cB5_2 := cell_ext (x) cB5_2
      clear x
      go_wp2_with (refine loadgP (B := B5) (by rfl) rfl rfl LB5 ?_)
      refine (dk _ E).mono ?_
      rintro e w29 ⟨rfl, x⟩
      have z6 := x.size
      replace E := E.trans x
      replace LB4 := LB4.ext x
      replace cB4_1 := cell_ext (x) cB4_1
      replace cB4_2 := cell_ext (x) cB4_2
      replace LB5 := LB5.ext x
      replace cB5_1 := cell_ext (x) cB5_1
      replace cB5_2 := cell_ext (x) cB5_2
      clear x
      go_wp2_with fail
      refine (oawake_any _).mono ?_
      rintro e w54 ⟨rfl, x⟩
      have z7 := x.size
      replace E := E.trans x
      replace LB4 := LB4.ext x
      replace cB4_1 := cell_ext (x) cB4_1
      replace cB4_2 := cell_ext (x) cB4_2
      replace LB5 := LB5.ext x
      replace cB5_1 := cell_ext (x) cB5_1
      replace cB5_2 := cell_ext (x) cB5_2
      clear x
      go_wp2_with fail
      go_ret
      exact ⟨rfl, E⟩
theorem ocomp_b4 (sA : Option Addr) (ns sc : Nat) (iA : Option Addr) (m ic : Nat) (fl : Int) (tA : Option Addr) (nt tc : Nat) (jA : Option Addr) (r jc : Nat) (fq : Int) (zc zd : Int) (w : World)
    (cn : ∀ w', Ext w w' → Calls Try.prog 24 #[(.agg #[.slice sA ns sc, .slice iA m ic, .int .i64 fl]), .int .i64 3000] w' fun e w2 => ∃ z, e = .returned (.int .i64 z) ∧ Ext w' w2)
    (ck : ∀ w', Ext w w' → Calls Try.prog 25 #[(.agg #[.slice sA ns sc, .slice iA m ic, .int .i64 fl])] w' fun e w2 => e = .returned (.int .i64 zc) ∧ Ext w' w2)
    (dn : ∀ w', Ext w w' → Calls Try.prog 24 #[(.agg #[.slice tA nt tc, .slice jA r jc, .int .i64 fq]), .int .i64 3000] w' fun e w2 => ∃ z, e = .returned (.int .i64 z) ∧ Ext w' w2)
    (dk : ∀ w', Ext w w' → Calls Try.prog 25 #[(.agg #[.slice tA nt tc, .slice jA r jc, .int .i64 fq])] w' fun e w2 => e = .returned (.int .i64 zd) ∧ Ext w' w2) (i k : Int) (h1 : (zc != 0) = false) (h3 : (zd != 0) = false) (h4 : i < 0) : Calls Try.prog 7 #[(.agg #[.slice sA ns sc, .slice iA m ic, .int .i64 fl]), (.agg #[.slice tA nt tc, .slice jA r jc, .int .i64 fq]), .int .i64 i, .int .i64 k] w fun e w' => e = .returned (.bool true) ∧ Ext w w' := by
  have hF := pl_flat sA ns sc iA m ic fl
  have hG := pl_flat tA nt tc jA r jc fq
  have E := Ext.refl w
  have e34 : decide (i < 0) = true := decide_eq_true h4
  go_enter Try.func7, Try.ntmps7
  have TB4 : True := trivial
  have TB5 : True := trivial
  go_wp2_with (first | (clear TB4; refine boxsP (v := (.agg #[.slice sA ns sc, .slice iA m ic, .int .i64 fl])) rfl rfl rfl hF ?_; intro B4 w4 bB4 cB4 XB4 LB4 RB4; have z1 := XB4.size; replace E := E.trans XB4; have cB4_1 := lay_cell LB4 (j := 1) rfl; have cB4_2 := lay_cell LB4 (j := 2) rfl; clear RB4) | (clear TB5; refine boxsP (v := (.agg #[.slice tA nt tc, .slice jA r jc, .int .i64 fq])) rfl rfl rfl hG ?_; intro B5 w5 bB5 cB5 XB5 LB5 RB5; have z2 := XB5.size; replace E := E.trans XB5; replace LB4 := LB4.ext XB5; replace cB4_1 := cell_ext (XB5) cB4_1; replace cB4_2 := cell_ext (XB5) cB4_2; have cB5_1 := lay_cell LB5 (j := 1) rfl; have cB5_2 := lay_cell LB5 (j := 2) rfl; clear RB5) | (refine loadsP (B := B4) (by rfl) rfl rfl LB4 ?_))
  refine (cn _ E).mono ?_
  rintro e w15 ⟨z, rfl, x⟩
  have hz1 : decide (1000 < z) = true ∨ decide (1000 < z) = false := by cases decide (1000 < z) <;> simp
  rcases hz1 with hz1 | hz1
  · have z3 := x.size
    replace E := E.trans x
    replace LB4 := LB4.ext x
    replace cB4_1 := cell_ext (x) cB4_1
    replace cB4_2 := cell_ext (x) cB4_2
    replace LB5 := LB5.ext x
    replace cB5_1 := cell_ext (x) cB5_1
    replace cB5_2 := cell_ext (x) cB5_2
    clear x
    go_wp2_with fail
    refine (oawake_any _).mono ?_
    rintro e w54 ⟨rfl, x⟩
    have z4 := x.size
    replace E := E.trans x
    replace LB4 := LB4.ext x
    replace cB4_1 := cell_ext (x) cB4_1
    replace cB4_2 := cell_ext (x) cB4_2
    replace LB5 := LB5.ext x
    replace cB5_1 := cell_ext (x) cB5_1
    replace cB5_2 := cell_ext (x) cB5_2
    clear x
    go_wp2_with fail
    go_ret
    exact ⟨rfl, E⟩
  · have z3 := x.size
    replace E := E.trans x
    replace LB4 := LB4.ext x
    replace cB4_1 := cell_ext (x) cB4_1
    replace cB4_2 := cell_ext (x) cB4_2
    replace LB5 := LB5.ext x
    replace cB5_1 := cell_ext (x) cB5_1
    replace cB5_2 := cell_ext (x) cB5_2
    clear x
    go_wp2_with (refine loadgP (B := B4) (by rfl) rfl rfl LB4 ?_)
    refine (ck _ E).mono ?_
    rintro e w19 ⟨rfl, x⟩
    have z4 := x.size
    replace E := E.trans x
    replace LB4 := LB4.ext x
    replace cB4_1 := cell_ext (x) cB4_1
    replace cB4_2 := cell_ext (x) cB4_2
    replace LB5 := LB5.ext x
    replace cB5_1 := cell_ext (x) cB5_1
    replace cB5_2 := cell_ext (x) cB5_2
    clear x
    go_wp2_with (refine loadgP (B := B5) (by rfl) rfl rfl LB5 ?_)
    refine (dn _ E).mono ?_
    rintro e w24 ⟨z2, rfl, x⟩
    have hz2 : decide (1000 < z2) = true ∨ decide (1000 < z2) = false := by cases decide (1000 < z2) <;> simp
    rcases hz2 with hz2 | hz2
    · have z5 := x.size
      replace E := E.trans x
      replace LB4 := LB4.ext x
      replace cB4_1 := cell_ext (x) cB4_1
      replace cB4_2 := cell_ext (x) cB4_2
      replace LB5 := LB5.ext x
      replace cB5_1 := cell_ext (x) cB5_1
      replace cB5_2 := cell_ext (x) cB5_2
      clear x
      go_wp2_with fail
      refine (oawake_any _).mono ?_
      rintro e w54 ⟨rfl, x⟩
      have z6 := x.size
      replace E := E.trans x
      replace LB4 := LB4.ext x
      replace cB4_1 := cell_ext (x) cB4_1
      replace cB4_2 := cell_ext (x) cB4_2
      replace LB5 := LB5.ext x
      replace cB5_1 := cell_ext (x) cB5_1
      replace cB5_2 := cell_ext (x) cB5_2
      clear x
      go_wp2_with fail
      go_ret
      exact ⟨rfl, E⟩
    · have z5 := x.size
      replace E := E.trans x
      replace LB4 := LB4.ext x
      replace cB4_1 := cell_ext (x) cB4_1
      replace cB4_2 := cell_ext (x) cB4_2
      replace LB5 := LB5.ext x
      replace cB5_1 := cell_ext (x) cB5_1
      replace cB5_2 := cell_ext (x) cB5_2
      clear x
      go_wp2_with (refine loadgP (B := B5) (by rfl) rfl rfl LB5 ?_)
      refine (dk _ E).mono ?_
      rintro e w29 ⟨rfl, x⟩
      have z6 := x.size
      replace E := E.trans x
      replace LB4 := LB4.ext x
      replace cB4_1 := cell_ext (x) cB4_1
      replace cB4_2 := cell_ext (x) cB4_2
      replace LB5 := LB5.ext x
      replace cB5_1 := cell_ext (x) cB5_1
      replace cB5_2 := cell_ext (x) cB5_2
      clear x
      go_wp2_with fail
      refine (oawake_any _).mono ?_
      rintro e w54 ⟨rfl, x⟩
      have z7 := x.size
      replace E := E.trans x
      replace LB4 := LB4.ext x
      replace cB4_1 := cell_ext (x) cB4_1
      replace cB4_2 := cell_ext (x) cB4_2
      replace LB5 := LB5.ext x
      replace cB5_1 := cell_ext (x) cB5_1
      replace cB5_2 := cell_ext (x) cB5_2
      clear x
      go_wp2_with fail
      go_ret
      exact ⟨rfl, E⟩
theorem ocomp_b5 (sA : Option Addr) (ns sc : Nat) (iA : Option Addr) (m ic : Nat) (fl : Int) (tA : Option Addr) (nt tc : Nat) (jA : Option Addr) (r jc : Nat) (fq : Int) (zc zd : Int) (w : World)
    (cn : ∀ w', Ext w w' → Calls Try.prog 24 #[(.agg #[.slice sA ns sc, .slice iA m ic, .int .i64 fl]), .int .i64 3000] w' fun e w2 => ∃ z, e = .returned (.int .i64 z) ∧ Ext w' w2)
    (ck : ∀ w', Ext w w' → Calls Try.prog 25 #[(.agg #[.slice sA ns sc, .slice iA m ic, .int .i64 fl])] w' fun e w2 => e = .returned (.int .i64 zc) ∧ Ext w' w2)
    (dn : ∀ w', Ext w w' → Calls Try.prog 24 #[(.agg #[.slice tA nt tc, .slice jA r jc, .int .i64 fq]), .int .i64 3000] w' fun e w2 => ∃ z, e = .returned (.int .i64 z) ∧ Ext w' w2)
    (dk : ∀ w', Ext w w' → Calls Try.prog 25 #[(.agg #[.slice tA nt tc, .slice jA r jc, .int .i64 fq])] w' fun e w2 => e = .returned (.int .i64 zd) ∧ Ext w' w2) (i k : Int) (h1 : (zc != 0) = false) (h3 : (zd != 0) = false) (h4 : ¬ i < 0) (h5 : k < 0) : Calls Try.prog 7 #[(.agg #[.slice sA ns sc, .slice iA m ic, .int .i64 fl]), (.agg #[.slice tA nt tc, .slice jA r jc, .int .i64 fq]), .int .i64 i, .int .i64 k] w fun e w' => e = .returned (.bool true) ∧ Ext w w' := by
  have hF := pl_flat sA ns sc iA m ic fl
  have hG := pl_flat tA nt tc jA r jc fq
  have E := Ext.refl w
  have e34 : decide (i < 0) = false := decide_eq_false h4
  have e38 : decide (k < 0) = true := decide_eq_true h5
  go_enter Try.func7, Try.ntmps7
  have TB4 : True := trivial
  have TB5 : True := trivial
  go_wp2_with (first | (clear TB4; refine boxsP (v := (.agg #[.slice sA ns sc, .slice iA m ic, .int .i64 fl])) rfl rfl rfl hF ?_; intro B4 w4 bB4 cB4 XB4 LB4 RB4; have z1 := XB4.size; replace E := E.trans XB4; have cB4_1 := lay_cell LB4 (j := 1) rfl; have cB4_2 := lay_cell LB4 (j := 2) rfl; clear RB4) | (clear TB5; refine boxsP (v := (.agg #[.slice tA nt tc, .slice jA r jc, .int .i64 fq])) rfl rfl rfl hG ?_; intro B5 w5 bB5 cB5 XB5 LB5 RB5; have z2 := XB5.size; replace E := E.trans XB5; replace LB4 := LB4.ext XB5; replace cB4_1 := cell_ext (XB5) cB4_1; replace cB4_2 := cell_ext (XB5) cB4_2; have cB5_1 := lay_cell LB5 (j := 1) rfl; have cB5_2 := lay_cell LB5 (j := 2) rfl; clear RB5) | (refine loadsP (B := B4) (by rfl) rfl rfl LB4 ?_))
  refine (cn _ E).mono ?_
  rintro e w15 ⟨z, rfl, x⟩
  have hz1 : decide (1000 < z) = true ∨ decide (1000 < z) = false := by cases decide (1000 < z) <;> simp
  rcases hz1 with hz1 | hz1
  · have z3 := x.size
    replace E := E.trans x
    replace LB4 := LB4.ext x
    replace cB4_1 := cell_ext (x) cB4_1
    replace cB4_2 := cell_ext (x) cB4_2
    replace LB5 := LB5.ext x
    replace cB5_1 := cell_ext (x) cB5_1
    replace cB5_2 := cell_ext (x) cB5_2
    clear x
    go_wp2_with fail
    refine (oawake_any _).mono ?_
    rintro e w54 ⟨rfl, x⟩
    have z4 := x.size
    replace E := E.trans x
    replace LB4 := LB4.ext x
    replace cB4_1 := cell_ext (x) cB4_1
    replace cB4_2 := cell_ext (x) cB4_2
    replace LB5 := LB5.ext x
    replace cB5_1 := cell_ext (x) cB5_1
    replace cB5_2 := cell_ext (x) cB5_2
    clear x
    go_wp2_with fail
    go_ret
    exact ⟨rfl, E⟩
  · have z3 := x.size
    replace E := E.trans x
    replace LB4 := LB4.ext x
    replace cB4_1 := cell_ext (x) cB4_1
    replace cB4_2 := cell_ext (x) cB4_2
    replace LB5 := LB5.ext x
    replace cB5_1 := cell_ext (x) cB5_1
    replace cB5_2 := cell_ext (x) cB5_2
    clear x
    go_wp2_with (refine loadgP (B := B4) (by rfl) rfl rfl LB4 ?_)
    refine (ck _ E).mono ?_
    rintro e w19 ⟨rfl, x⟩
    have z4 := x.size
    replace E := E.trans x
    replace LB4 := LB4.ext x
    replace cB4_1 := cell_ext (x) cB4_1
    replace cB4_2 := cell_ext (x) cB4_2
    replace LB5 := LB5.ext x
    replace cB5_1 := cell_ext (x) cB5_1
    replace cB5_2 := cell_ext (x) cB5_2
    clear x
    go_wp2_with (refine loadgP (B := B5) (by rfl) rfl rfl LB5 ?_)
    refine (dn _ E).mono ?_
    rintro e w24 ⟨z2, rfl, x⟩
    have hz2 : decide (1000 < z2) = true ∨ decide (1000 < z2) = false := by cases decide (1000 < z2) <;> simp
    rcases hz2 with hz2 | hz2
    · have z5 := x.size
      replace E := E.trans x
      replace LB4 := LB4.ext x
      replace cB4_1 := cell_ext (x) cB4_1
      replace cB4_2 := cell_ext (x) cB4_2
      replace LB5 := LB5.ext x
      replace cB5_1 := cell_ext (x) cB5_1
      replace cB5_2 := cell_ext (x) cB5_2
      clear x
      go_wp2_with fail
      refine (oawake_any _).mono ?_
      rintro e w54 ⟨rfl, x⟩
      have z6 := x.size
      replace E := E.trans x
      replace LB4 := LB4.ext x
      replace cB4_1 := cell_ext (x) cB4_1
      replace cB4_2 := cell_ext (x) cB4_2
      replace LB5 := LB5.ext x
      replace cB5_1 := cell_ext (x) cB5_1
      replace cB5_2 := cell_ext (x) cB5_2
      clear x
      go_wp2_with fail
      go_ret
      exact ⟨rfl, E⟩
    · have z5 := x.size
      replace E := E.trans x
      replace LB4 := LB4.ext x
      replace cB4_1 := cell_ext (x) cB4_1
      replace cB4_2 := cell_ext (x) cB4_2
      replace LB5 := LB5.ext x
      replace cB5_1 := cell_ext (x) cB5_1
      replace cB5_2 := cell_ext (x) cB5_2
      clear x
      go_wp2_with (refine loadgP (B := B5) (by rfl) rfl rfl LB5 ?_)
      refine (dk _ E).mono ?_
      rintro e w29 ⟨rfl, x⟩
      have z6 := x.size
      replace E := E.trans x
      replace LB4 := LB4.ext x
      replace cB4_1 := cell_ext (x) cB4_1
      replace cB4_2 := cell_ext (x) cB4_2
      replace LB5 := LB5.ext x
      replace cB5_1 := cell_ext (x) cB5_1
      replace cB5_2 := cell_ext (x) cB5_2
      clear x
      go_wp2_with fail
      refine (oawake_any _).mono ?_
      rintro e w54 ⟨rfl, x⟩
      have z7 := x.size
      replace E := E.trans x
      replace LB4 := LB4.ext x
      replace cB4_1 := cell_ext (x) cB4_1
      replace cB4_2 := cell_ext (x) cB4_2
      replace LB5 := LB5.ext x
      replace cB5_1 := cell_ext (x) cB5_1
      replace cB5_2 := cell_ext (x) cB5_2
      clear x
      go_wp2_with fail
      go_ret
      exact ⟨rfl, E⟩
theorem ocomp_b6 (sA : Option Addr) (ns sc : Nat) (iA : Option Addr) (m ic : Nat) (fl : Int) (tA : Option Addr) (nt tc : Nat) (jA : Option Addr) (r jc : Nat) (fq : Int) (zc zd : Int) (w : World)
    (cn : ∀ w', Ext w w' → Calls Try.prog 24 #[(.agg #[.slice sA ns sc, .slice iA m ic, .int .i64 fl]), .int .i64 3000] w' fun e w2 => ∃ z, e = .returned (.int .i64 z) ∧ Ext w' w2)
    (ck : ∀ w', Ext w w' → Calls Try.prog 25 #[(.agg #[.slice sA ns sc, .slice iA m ic, .int .i64 fl])] w' fun e w2 => e = .returned (.int .i64 zc) ∧ Ext w' w2)
    (dn : ∀ w', Ext w w' → Calls Try.prog 24 #[(.agg #[.slice tA nt tc, .slice jA r jc, .int .i64 fq]), .int .i64 3000] w' fun e w2 => ∃ z, e = .returned (.int .i64 z) ∧ Ext w' w2)
    (dk : ∀ w', Ext w w' → Calls Try.prog 25 #[(.agg #[.slice tA nt tc, .slice jA r jc, .int .i64 fq])] w' fun e w2 => e = .returned (.int .i64 zd) ∧ Ext w' w2) (i k : Int) (h1 : (zc != 0) = false) (h3 : (zd != 0) = false) (h4 : ¬ i < 0) (h5 : ¬ k < 0) (h6 : (m : Int) ≤ i) : Calls Try.prog 7 #[(.agg #[.slice sA ns sc, .slice iA m ic, .int .i64 fl]), (.agg #[.slice tA nt tc, .slice jA r jc, .int .i64 fq]), .int .i64 i, .int .i64 k] w fun e w' => e = .returned (.bool true) ∧ Ext w w' := by
  have hF := pl_flat sA ns sc iA m ic fl
  have hG := pl_flat tA nt tc jA r jc fq
  have E := Ext.refl w
  have e34 : decide (i < 0) = false := decide_eq_false h4
  have e38 : decide (k < 0) = false := decide_eq_false h5
  have e45 : decide ((m : Int) ≤ i) = true := decide_eq_true h6
  go_enter Try.func7, Try.ntmps7
  have TB4 : True := trivial
  have TB5 : True := trivial
  go_wp2_with (first | (clear TB4; refine boxsP (v := (.agg #[.slice sA ns sc, .slice iA m ic, .int .i64 fl])) rfl rfl rfl hF ?_; intro B4 w4 bB4 cB4 XB4 LB4 RB4; have z1 := XB4.size; replace E := E.trans XB4; have cB4_1 := lay_cell LB4 (j := 1) rfl; have cB4_2 := lay_cell LB4 (j := 2) rfl; clear RB4) | (clear TB5; refine boxsP (v := (.agg #[.slice tA nt tc, .slice jA r jc, .int .i64 fq])) rfl rfl rfl hG ?_; intro B5 w5 bB5 cB5 XB5 LB5 RB5; have z2 := XB5.size; replace E := E.trans XB5; replace LB4 := LB4.ext XB5; replace cB4_1 := cell_ext (XB5) cB4_1; replace cB4_2 := cell_ext (XB5) cB4_2; have cB5_1 := lay_cell LB5 (j := 1) rfl; have cB5_2 := lay_cell LB5 (j := 2) rfl; clear RB5) | (refine loadsP (B := B4) (by rfl) rfl rfl LB4 ?_))
  refine (cn _ E).mono ?_
  rintro e w15 ⟨z, rfl, x⟩
  have hz1 : decide (1000 < z) = true ∨ decide (1000 < z) = false := by cases decide (1000 < z) <;> simp
  rcases hz1 with hz1 | hz1
  · have z3 := x.size
    replace E := E.trans x
    replace LB4 := LB4.ext x
    replace cB4_1 := cell_ext (x) cB4_1
    replace cB4_2 := cell_ext (x) cB4_2
    replace LB5 := LB5.ext x
    replace cB5_1 := cell_ext (x) cB5_1
    replace cB5_2 := cell_ext (x) cB5_2
    clear x
    go_wp2_with fail
    refine (oawake_any _).mono ?_
    rintro e w54 ⟨rfl, x⟩
    have z4 := x.size
    replace E := E.trans x
    replace LB4 := LB4.ext x
    replace cB4_1 := cell_ext (x) cB4_1
    replace cB4_2 := cell_ext (x) cB4_2
    replace LB5 := LB5.ext x
    replace cB5_1 := cell_ext (x) cB5_1
    replace cB5_2 := cell_ext (x) cB5_2
    clear x
    go_wp2_with fail
    go_ret
    exact ⟨rfl, E⟩
  · have z3 := x.size
    replace E := E.trans x
    replace LB4 := LB4.ext x
    replace cB4_1 := cell_ext (x) cB4_1
    replace cB4_2 := cell_ext (x) cB4_2
    replace LB5 := LB5.ext x
    replace cB5_1 := cell_ext (x) cB5_1
    replace cB5_2 := cell_ext (x) cB5_2
    clear x
    go_wp2_with (refine loadgP (B := B4) (by rfl) rfl rfl LB4 ?_)
    refine (ck _ E).mono ?_
    rintro e w19 ⟨rfl, x⟩
    have z4 := x.size
    replace E := E.trans x
    replace LB4 := LB4.ext x
    replace cB4_1 := cell_ext (x) cB4_1
    replace cB4_2 := cell_ext (x) cB4_2
    replace LB5 := LB5.ext x
    replace cB5_1 := cell_ext (x) cB5_1
    replace cB5_2 := cell_ext (x) cB5_2
    clear x
    go_wp2_with (refine loadgP (B := B5) (by rfl) rfl rfl LB5 ?_)
    refine (dn _ E).mono ?_
    rintro e w24 ⟨z2, rfl, x⟩
    have hz2 : decide (1000 < z2) = true ∨ decide (1000 < z2) = false := by cases decide (1000 < z2) <;> simp
    rcases hz2 with hz2 | hz2
    · have z5 := x.size
      replace E := E.trans x
      replace LB4 := LB4.ext x
      replace cB4_1 := cell_ext (x) cB4_1
      replace cB4_2 := cell_ext (x) cB4_2
      replace LB5 := LB5.ext x
      replace cB5_1 := cell_ext (x) cB5_1
      replace cB5_2 := cell_ext (x) cB5_2
      clear x
      go_wp2_with fail
      refine (oawake_any _).mono ?_
      rintro e w54 ⟨rfl, x⟩
      have z6 := x.size
      replace E := E.trans x
      replace LB4 := LB4.ext x
      replace cB4_1 := cell_ext (x) cB4_1
      replace cB4_2 := cell_ext (x) cB4_2
      replace LB5 := LB5.ext x
      replace cB5_1 := cell_ext (x) cB5_1
      replace cB5_2 := cell_ext (x) cB5_2
      clear x
      go_wp2_with fail
      go_ret
      exact ⟨rfl, E⟩
    · have z5 := x.size
      replace E := E.trans x
      replace LB4 := LB4.ext x
      replace cB4_1 := cell_ext (x) cB4_1
      replace cB4_2 := cell_ext (x) cB4_2
      replace LB5 := LB5.ext x
      replace cB5_1 := cell_ext (x) cB5_1
      replace cB5_2 := cell_ext (x) cB5_2
      clear x
      go_wp2_with (refine loadgP (B := B5) (by rfl) rfl rfl LB5 ?_)
      refine (dk _ E).mono ?_
      rintro e w29 ⟨rfl, x⟩
      have z6 := x.size
      replace E := E.trans x
      replace LB4 := LB4.ext x
      replace cB4_1 := cell_ext (x) cB4_1
      replace cB4_2 := cell_ext (x) cB4_2
      replace LB5 := LB5.ext x
      replace cB5_1 := cell_ext (x) cB5_1
      replace cB5_2 := cell_ext (x) cB5_2
      clear x
      go_wp2_with fail
      refine (oawake_any _).mono ?_
      rintro e w54 ⟨rfl, x⟩
      have z7 := x.size
      replace E := E.trans x
      replace LB4 := LB4.ext x
      replace cB4_1 := cell_ext (x) cB4_1
      replace cB4_2 := cell_ext (x) cB4_2
      replace LB5 := LB5.ext x
      replace cB5_1 := cell_ext (x) cB5_1
      replace cB5_2 := cell_ext (x) cB5_2
      clear x
      go_wp2_with fail
      go_ret
      exact ⟨rfl, E⟩
theorem ocomp_b7 (sA : Option Addr) (ns sc : Nat) (iA : Option Addr) (m ic : Nat) (fl : Int) (tA : Option Addr) (nt tc : Nat) (jA : Option Addr) (r jc : Nat) (fq : Int) (zc zd : Int) (w : World)
    (cn : ∀ w', Ext w w' → Calls Try.prog 24 #[(.agg #[.slice sA ns sc, .slice iA m ic, .int .i64 fl]), .int .i64 3000] w' fun e w2 => ∃ z, e = .returned (.int .i64 z) ∧ Ext w' w2)
    (ck : ∀ w', Ext w w' → Calls Try.prog 25 #[(.agg #[.slice sA ns sc, .slice iA m ic, .int .i64 fl])] w' fun e w2 => e = .returned (.int .i64 zc) ∧ Ext w' w2)
    (dn : ∀ w', Ext w w' → Calls Try.prog 24 #[(.agg #[.slice tA nt tc, .slice jA r jc, .int .i64 fq]), .int .i64 3000] w' fun e w2 => ∃ z, e = .returned (.int .i64 z) ∧ Ext w' w2)
    (dk : ∀ w', Ext w w' → Calls Try.prog 25 #[(.agg #[.slice tA nt tc, .slice jA r jc, .int .i64 fq])] w' fun e w2 => e = .returned (.int .i64 zd) ∧ Ext w' w2) (i k : Int) (h1 : (zc != 0) = false) (h3 : (zd != 0) = false) (h4 : ¬ i < 0) (h5 : ¬ k < 0) (h6 : ¬ (m : Int) ≤ i) (h7 : (r : Int) ≤ k) : Calls Try.prog 7 #[(.agg #[.slice sA ns sc, .slice iA m ic, .int .i64 fl]), (.agg #[.slice tA nt tc, .slice jA r jc, .int .i64 fq]), .int .i64 i, .int .i64 k] w fun e w' => e = .returned (.bool true) ∧ Ext w w' := by
  have hF := pl_flat sA ns sc iA m ic fl
  have hG := pl_flat tA nt tc jA r jc fq
  have E := Ext.refl w
  have e34 : decide (i < 0) = false := decide_eq_false h4
  have e38 : decide (k < 0) = false := decide_eq_false h5
  have e45 : decide ((m : Int) ≤ i) = false := decide_eq_false h6
  have e52 : decide ((r : Int) ≤ k) = true := decide_eq_true h7
  go_enter Try.func7, Try.ntmps7
  have TB4 : True := trivial
  have TB5 : True := trivial
  go_wp2_with (first | (clear TB4; refine boxsP (v := (.agg #[.slice sA ns sc, .slice iA m ic, .int .i64 fl])) rfl rfl rfl hF ?_; intro B4 w4 bB4 cB4 XB4 LB4 RB4; have z1 := XB4.size; replace E := E.trans XB4; have cB4_1 := lay_cell LB4 (j := 1) rfl; have cB4_2 := lay_cell LB4 (j := 2) rfl; clear RB4) | (clear TB5; refine boxsP (v := (.agg #[.slice tA nt tc, .slice jA r jc, .int .i64 fq])) rfl rfl rfl hG ?_; intro B5 w5 bB5 cB5 XB5 LB5 RB5; have z2 := XB5.size; replace E := E.trans XB5; replace LB4 := LB4.ext XB5; replace cB4_1 := cell_ext (XB5) cB4_1; replace cB4_2 := cell_ext (XB5) cB4_2; have cB5_1 := lay_cell LB5 (j := 1) rfl; have cB5_2 := lay_cell LB5 (j := 2) rfl; clear RB5) | (refine loadsP (B := B4) (by rfl) rfl rfl LB4 ?_))
  refine (cn _ E).mono ?_
  rintro e w15 ⟨z, rfl, x⟩
  have hz1 : decide (1000 < z) = true ∨ decide (1000 < z) = false := by cases decide (1000 < z) <;> simp
  rcases hz1 with hz1 | hz1
  · have z3 := x.size
    replace E := E.trans x
    replace LB4 := LB4.ext x
    replace cB4_1 := cell_ext (x) cB4_1
    replace cB4_2 := cell_ext (x) cB4_2
    replace LB5 := LB5.ext x
    replace cB5_1 := cell_ext (x) cB5_1
    replace cB5_2 := cell_ext (x) cB5_2
    clear x
    go_wp2_with fail
    refine (oawake_any _).mono ?_
    rintro e w54 ⟨rfl, x⟩
    have z4 := x.size
    replace E := E.trans x
    replace LB4 := LB4.ext x
    replace cB4_1 := cell_ext (x) cB4_1
    replace cB4_2 := cell_ext (x) cB4_2
    replace LB5 := LB5.ext x
    replace cB5_1 := cell_ext (x) cB5_1
    replace cB5_2 := cell_ext (x) cB5_2
    clear x
    go_wp2_with fail
    go_ret
    exact ⟨rfl, E⟩
  · have z3 := x.size
    replace E := E.trans x
    replace LB4 := LB4.ext x
    replace cB4_1 := cell_ext (x) cB4_1
    replace cB4_2 := cell_ext (x) cB4_2
    replace LB5 := LB5.ext x
    replace cB5_1 := cell_ext (x) cB5_1
    replace cB5_2 := cell_ext (x) cB5_2
    clear x
    go_wp2_with (refine loadgP (B := B4) (by rfl) rfl rfl LB4 ?_)
    refine (ck _ E).mono ?_
    rintro e w19 ⟨rfl, x⟩
    have z4 := x.size
    replace E := E.trans x
    replace LB4 := LB4.ext x
    replace cB4_1 := cell_ext (x) cB4_1
    replace cB4_2 := cell_ext (x) cB4_2
    replace LB5 := LB5.ext x
    replace cB5_1 := cell_ext (x) cB5_1
    replace cB5_2 := cell_ext (x) cB5_2
    clear x
    go_wp2_with (refine loadgP (B := B5) (by rfl) rfl rfl LB5 ?_)
    refine (dn _ E).mono ?_
    rintro e w24 ⟨z2, rfl, x⟩
    have hz2 : decide (1000 < z2) = true ∨ decide (1000 < z2) = false := by cases decide (1000 < z2) <;> simp
    rcases hz2 with hz2 | hz2
    · have z5 := x.size
      replace E := E.trans x
      replace LB4 := LB4.ext x
      replace cB4_1 := cell_ext (x) cB4_1
      replace cB4_2 := cell_ext (x) cB4_2
      replace LB5 := LB5.ext x
      replace cB5_1 := cell_ext (x) cB5_1
      replace cB5_2 := cell_ext (x) cB5_2
      clear x
      go_wp2_with fail
      refine (oawake_any _).mono ?_
      rintro e w54 ⟨rfl, x⟩
      have z6 := x.size
      replace E := E.trans x
      replace LB4 := LB4.ext x
      replace cB4_1 := cell_ext (x) cB4_1
      replace cB4_2 := cell_ext (x) cB4_2
      replace LB5 := LB5.ext x
      replace cB5_1 := cell_ext (x) cB5_1
      replace cB5_2 := cell_ext (x) cB5_2
      clear x
      go_wp2_with fail
      go_ret
      exact ⟨rfl, E⟩
    · have z5 := x.size
      replace E := E.trans x
      replace LB4 := LB4.ext x
      replace cB4_1 := cell_ext (x) cB4_1
      replace cB4_2 := cell_ext (x) cB4_2
      replace LB5 := LB5.ext x
      replace cB5_1 := cell_ext (x) cB5_1
      replace cB5_2 := cell_ext (x) cB5_2
      clear x
      go_wp2_with (refine loadgP (B := B5) (by rfl) rfl rfl LB5 ?_)
      refine (dk _ E).mono ?_
      rintro e w29 ⟨rfl, x⟩
      have z6 := x.size
      replace E := E.trans x
      replace LB4 := LB4.ext x
      replace cB4_1 := cell_ext (x) cB4_1
      replace cB4_2 := cell_ext (x) cB4_2
      replace LB5 := LB5.ext x
      replace cB5_1 := cell_ext (x) cB5_1
      replace cB5_2 := cell_ext (x) cB5_2
      clear x
      go_wp2_with fail
      refine (oawake_any _).mono ?_
      rintro e w54 ⟨rfl, x⟩
      have z7 := x.size
      replace E := E.trans x
      replace LB4 := LB4.ext x
      replace cB4_1 := cell_ext (x) cB4_1
      replace cB4_2 := cell_ext (x) cB4_2
      replace LB5 := LB5.ext x
      replace cB5_1 := cell_ext (x) cB5_1
      replace cB5_2 := cell_ext (x) cB5_2
      clear x
      go_wp2_with fail
      go_ret
      exact ⟨rfl, E⟩
end Go.Proofs.Ytidnikndjhfgaaa
