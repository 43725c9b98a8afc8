/- NumRests, for every input: what is left of every whole number by every other one, of int64 and of floats. No condition. -/
import Derived.Test.YtnpmjchbelhgfaaNh
namespace Go.Proofs.Ytnpmjchbelhgfaa
open Go.ChangeShapes Go.WideShapes Go.ChangeAt Go.RowKit Fl

set_option maxHeartbeats 400000
theorem i64_of_wf {x : Int} (h : (Lit.int .i64 x).wf = true) : -9223372036854775808 ≤ x ∧ x ≤ 9223372036854775807 := by
  have e1 : IntKind.i64.min = -9223372036854775808 := by decide
  have e2 : IntKind.i64.max = 9223372036854775807 := by decide
  simp only [Lit.wf, e1, e2, Bool.and_eq_true, decide_eq_true_eq] at h
  exact h
theorem small_dn {b : Nat} (h : fin b) : whole (dn b) ↔ whole b := by
  rw [dn_of h]
  unfold norm
  split
  · rename_i e
    have h1 : whole 0 := by decide +kernel
    have h2 : whole b := by
      unfold whole small
      rw [e, mg_zero]
      exact ⟨by omega, by simp⟩
    exact ⟨fun _ => h2, fun _ => h1⟩
  · exact Iff.rfl
theorem numRests_walk (a0 a1 : Nat) (a2 a3 : Int) (w0 : (Lit.float .f64 a0).wf = true) (w1 : (Lit.float .f64 a1).wf = true) (w2 : (Lit.int .i64 a2).wf = true) (w3 : (Lit.int .i64 a3).wf = true) (w : World) :
    Calls Try.prog 4 #[.float .f64 a0, .float .f64 a1, .int .i64 a2, .int .i64 a3] w fun e w' => e = .returned (.bool true) ∧ Grown w w' := by
  have m2 := i64_of_wf w2
  have m3 := i64_of_wf w3
  have c1 := restInt_any a2 a3 (by omega) (by omega) w
  have c2 := rrest_any a2 a3 (by omega) (by omega) (by omega) (by omega) w
  have hz : Hid (Grown w w) := Grown.refl w
  have ca := awake_any w
  have t1 := rtidy_any a0 w
  have t2 := rtidy_any a1 w
  clear w2 w3 m2 m3
  generalize restI a2 a3 = R0 at *
  have l0 := lt64_of_wf w0
  have l1 := lt64_of_wf w1
  clear w0 w1
  by_cases f0 : fin a0
  · rw [decide_eq_true f0] at t1
    by_cases f1 : fin a1
    · rw [decide_eq_true f1] at t2
      have d0 := dn_tidy a0 l0
      have d1 := dn_tidy a1 l1
      generalize dn a0 = x at *
      generalize dn a1 = y at *
      have cr := rest_any x y w
      have p1 := rwhole_any x w
      have p2 := rwhole_any y w
      unfold rsN rsE at cr
      by_cases g0 : whole x
      · rw [decide_eq_true g0] at p1
        have tx := trn_le g0.1
        have rx := @run_toInt Try.prog x g0.1 22 2 (by kernel_rfl) (by kernel_rfl)
        by_cases g1 : whole y
        · rw [decide_eq_true g1] at p2
          rw [if_pos ⟨g0, g1⟩, if_pos ⟨g0, g1⟩] at cr
          have ty := trn_le g1.1
          have ry := @run_toInt Try.prog y g1.1 22 2 (by kernel_rfl) (by kernel_rfl)
          have cq := rrest_any (trn x) (trn y) (by omega) (by omega) (by omega) (by omega) w
          have hG : G (restI (trn x) (trn y)) := restI_G ⟨tx.1, tx.2⟩ ⟨ty.1, ty.2⟩
          have te : (FloatKind.f64.format.order (fi (restI (trn x) (trn y))) (floatOfInt .f64 (restI (trn x) (trn y))) == some .eq) = true := by
            rw [fi_conv, c_eq (fi_fin hG.1 hG.2).nn (fi_fin hG.1 hG.2).nn]; simp
          clear hG tx ty g0 g1 d0 d1 l0 l1 f0 f1
          go_enter Try.func4, Try.ntmps4
          go_wp2_with fail
          refine c1.mono ?_
          rintro e w' ⟨rfl, rfl⟩
          go_wp2_with fail
          refine c2.mono ?_
          rintro e w' ⟨rfl, rfl⟩
          go_wp2_with fail
          refine t1.mono ?_
          rintro e w' ⟨rfl, rfl⟩
          go_wp2_with fail
          refine t2.mono ?_
          rintro e w' ⟨rfl, rfl⟩
          go_wp2_with fail
          refine cr.mono ?_
          rintro e w' ⟨rfl, rfl⟩
          go_wp2_with fail
          refine p1.mono ?_
          rintro e w' ⟨rfl, rfl⟩
          go_wp2_with fail
          refine p2.mono ?_
          rintro e w' ⟨rfl, rfl⟩
          go_wp2_with fail
          refine cq.mono ?_
          rintro e w' ⟨rfl, rfl⟩
          go_wp2_with fail
          refine ca.mono ?_
          rintro e w' ⟨rfl, rfl⟩
          go_wp2
          go_ret
          exact ⟨rfl, hz.out⟩
        · rw [decide_eq_false g1] at p2
          rw [if_neg (fun h => g1 h.2), if_neg (fun h => g1 h.2)] at cr
          have te : (FloatKind.f64.format.order 0 0 == some .eq) = true := by decide
          clear tx g0 g1 d0 d1 l0 l1 f0 f1
          go_enter Try.func4, Try.ntmps4
          go_wp2_with fail
          refine c1.mono ?_
          rintro e w' ⟨rfl, rfl⟩
          go_wp2_with fail
          refine c2.mono ?_
          rintro e w' ⟨rfl, rfl⟩
          go_wp2_with fail
          refine t1.mono ?_
          rintro e w' ⟨rfl, rfl⟩
          go_wp2_with fail
          refine t2.mono ?_
          rintro e w' ⟨rfl, rfl⟩
          go_wp2_with fail
          refine cr.mono ?_
          rintro e w' ⟨rfl, rfl⟩
          go_wp2_with fail
          refine p1.mono ?_
          rintro e w' ⟨rfl, rfl⟩
          go_wp2_with fail
          refine p2.mono ?_
          rintro e w' ⟨rfl, rfl⟩
          go_wp2_with fail
          refine ca.mono ?_
          rintro e w' ⟨rfl, rfl⟩
          go_wp2
          go_ret
          exact ⟨rfl, hz.out⟩
      · rw [decide_eq_false g0] at p1
        rw [if_neg (fun h => g0 h.1), if_neg (fun h => g0 h.1)] at cr
        have te : (FloatKind.f64.format.order 0 0 == some .eq) = true := by decide
        clear g0 d0 d1 l0 l1 f0 f1
        go_enter Try.func4, Try.ntmps4
        go_wp2_with fail
        refine c1.mono ?_
        rintro e w' ⟨rfl, rfl⟩
        go_wp2_with fail
        refine c2.mono ?_
        rintro e w' ⟨rfl, rfl⟩
        go_wp2_with fail
        refine t1.mono ?_
        rintro e w' ⟨rfl, rfl⟩
        go_wp2_with fail
        refine t2.mono ?_
        rintro e w' ⟨rfl, rfl⟩
        go_wp2_with fail
        refine cr.mono ?_
        rintro e w' ⟨rfl, rfl⟩
        go_wp2_with fail
        refine p1.mono ?_
        rintro e w' ⟨rfl, rfl⟩
        go_wp2_with fail
        refine ca.mono ?_
        rintro e w' ⟨rfl, rfl⟩
        go_wp2
        go_ret
        exact ⟨rfl, hz.out⟩
    · rw [decide_eq_false f1] at t2
      clear l0 l1 f0 f1
      go_enter Try.func4, Try.ntmps4
      go_wp2_with fail
      refine c1.mono ?_
      rintro e w' ⟨rfl, rfl⟩
      go_wp2_with fail
      refine c2.mono ?_
      rintro e w' ⟨rfl, rfl⟩
      go_wp2_with fail
      refine t1.mono ?_
      rintro e w' ⟨rfl, rfl⟩
      go_wp2_with fail
      refine t2.mono ?_
      rintro e w' ⟨rfl, rfl⟩
      go_wp2_with fail
      refine ca.mono ?_
      rintro e w' ⟨rfl, rfl⟩
      go_wp2
      go_ret
      exact ⟨rfl, hz.out⟩
  · rw [decide_eq_false f0] at t1
    clear l0 l1 f0
    generalize decide (fin a1) = b at *
    go_enter Try.func4, Try.ntmps4
    go_wp2_with fail
    refine c1.mono ?_
    rintro e w' ⟨rfl, rfl⟩
    go_wp2_with fail
    refine c2.mono ?_
    rintro e w' ⟨rfl, rfl⟩
    go_wp2_with fail
    refine t1.mono ?_
    rintro e w' ⟨rfl, rfl⟩
    go_wp2_with fail
    refine t2.mono ?_
    rintro e w' ⟨rfl, rfl⟩
    go_wp2_with fail
    refine ca.mono ?_
    rintro e w' ⟨rfl, rfl⟩
    go_wp2
    go_ret
    exact ⟨rfl, hz.out⟩

set_option maxRecDepth 100000 in
theorem numRests_lifted (os : Os) (started : os.Started) (H : Type) (enc : TypeId × Value → H) :
    ReturnsInHanded {} Try.checked os 4 .any (Rows.numRestsSpec.pre6 enc Try.prog Try.f4 Rows.numRestsRow.domain false) (Rows.numRestsSpec.post enc Try.prog Try.f4 false true false false) := by
  refine returnsInHanded_of_change (C := Try.checked) own started (by kernel_rfl) Try.func4
    (ChangeSpec.witness6 (enc := enc) (C := Try.checked) false ⟨#[], #[.float .f64 0, .float .f64 0, .int .i64 0, .int .i64 0], []⟩ 8 (by kernel_rfl) (by kernel_rfl) (by kernel_rfl) (by kernel_rfl)) ?_
  intro W base args ds gs before hval0 hW hcnd _
  have hval : ∀ (j : Nat) t v, Try.f4.params[j]? = some t → args[j]? = some v → Value.okWide Try.prog W .any base t v := hval0
  have hW' := hW
  obtain ⟨p, q, hA0, hV, rfl, hfz, hnd⟩ := hW
  have hA : DataW.TrodAll enc Try.prog W 0 (fun _ => true) true Try.f4.params.toList args.toList ds p := hA0
  rw [Try.params4] at hA hval
  obtain ⟨v0, vs0, d0, ds0, p0, q0, hargs, rfl, rfl, h0, r0⟩ := trodAll_cons hA
  obtain ⟨v1, vs1, d1, ds1, p1, q1, rfl, rfl, rfl, h1, r1⟩ := trodAll_cons r0
  obtain ⟨v2, vs2, d2, ds2, p2, q2, rfl, rfl, rfl, h2, r2⟩ := trodAll_cons r1
  obtain ⟨v3, vs3, d3, ds3, p3, q3, rfl, rfl, rfl, h3, r3⟩ := trodAll_cons r2
  obtain ⟨rfl, rfl, rfl⟩ := trodAll_nil r3
  obtain rfl : args = #[v0, v1, v2, v3] := by cases args; simp_all
  obtain ⟨rfl, rfl⟩ := trodVars_none hV
  obtain ⟨a0, rfl, rfl, rfl, w0⟩ := open_float Try.underlying22 (hval 0 22 v0 rfl rfl) h0
  obtain ⟨a1, rfl, rfl, rfl, w1⟩ := open_float Try.underlying22 (hval 1 22 v1 rfl rfl) h1
  obtain ⟨a2, rfl, rfl, rfl, w2⟩ := open_int Try.underlying2 (hval 2 2 v2 rfl rfl) h2
  obtain ⟨a3, rfl, rfl, rfl, w3⟩ := open_int Try.underlying2 (hval 3 2 v3 rfl rfl) h3
  clear hA0 hval0
  simp only [List.append_nil] at hW'
  refine (numRests_walk a0 a1 a2 a3 w0 w1 w2 w3 W).mono fun e W' ⟨he, hg⟩ => ?_
  subst he
  exact ⟨_, rfl, post_of_same (pa := []) (pv := []) hW' (fun _ _ _ => (trodAll_cons_mk (shut_bool Try.underlying4 _) trodAll_mk0)) (fun sp _ => (trodAll_cons_mk (shut_float Try.underlying22 w0) (trodAll_cons_mk (shut_float Try.underlying22 w1) (trodAll_cons_mk (shut_int Try.underlying2 w2) (trodAll_cons_mk (shut_int Try.underlying2 w3) trodAll_mk0))))) (fun _ _ => rfl) rfl
    (hg.frame _) hg.2.1 (ok_one (by kernel_rfl) rfl (okWide_bool_mk Try.underlying4 _))⟩

/-- The statement of NumRests, whole: for every input the law returns true, and its arguments read as before. -/
theorem numRests_holds : Rows.NumRestsSaid :=
  OpenClaim.holds_of_wide 4 Try.f4 rfl rfl rfl rfl rfl rfl rfl ⟨rfl, rfl, rfl, rfl, rfl⟩ rfl rfl rfl rfl rfl (by kernel_rfl) Try.func4 (by kernel_rfl)
    (of_decide_eq_true (by kernel_rfl)) (by unfold Func.isWrapper; first | (rw [if_pos (by decide +kernel)]; kernel_rfl) | (rw [if_neg (by decide +kernel)]; exact ⟨rfl, rfl⟩))
    (fun os started H enc _ => numRests_lifted os started H enc)
end Go.Proofs.Ytnpmjchbelhgfaa
