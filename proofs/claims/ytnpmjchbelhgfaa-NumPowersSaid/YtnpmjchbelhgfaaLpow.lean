/- NumPowers, for every two words of floats: every number multiplied with itself. No condition. -/
import Derived.Test.YtnpmjchbelhgfaaNh
namespace Go.Proofs.Ytnpmjchbelhgfaa
open Go.ChangeShapes Go.WideShapes Go.ChangeAt Go.RowKit Fl

set_option maxHeartbeats 400000
theorem fdiv_one_ok {o : Nat} (hf : fin o) (hz : ¬ rung o = 0) : nn (fdiv 4607182418800017408 o) ∧ fdiv 4607182418800017408 o < 18446744073709551616 :=
  (div_some fin_one hf (fun h => hz h.2)).2
theorem powL_ok (f : Nat) : ∀ (k o x : Nat), oneSide o x → nn (powL f k o x) ∧ powL f k o x < 18446744073709551616 := by
  induction f with
  | zero =>
    intro k o x h
    rcases h with ⟨h, _⟩ | ⟨h, _⟩
    · exact ⟨h.1, h.2.2⟩
    · exact ⟨h.fin.nn, h.2⟩
  | succ f ih =>
    intro k o x h
    unfold powL
    by_cases k0 : k = 0
    · rw [if_pos k0]
      rcases h with ⟨h, _⟩ | ⟨h, _⟩
      · exact ⟨h.1, h.2.2⟩
      · exact ⟨h.fin.nn, h.2⟩
    · rw [if_neg k0]
      refine ih _ _ _ ?_
      by_cases a : k % 2 = 1
      · rw [if_pos a]
        by_cases b : 1 < k
        · rw [if_pos b]; exact h.mul.2.1.square.2
        · rw [if_neg b]; exact h.mul.2.1
      · rw [if_neg a]
        by_cases b : 1 < k
        · rw [if_pos b]; exact h.square.2
        · rw [if_neg b]; exact h
theorem powN_ok (k a : Nat) (ha : nn a) (hl : a < 18446744073709551616) : nn (powN k a) ∧ powN k a < 18446744073709551616 :=
  powL_ok k k _ _ (oneSide_one ha hl)
theorem zero_tidy : tidy 0 := ⟨by decide, by decide, fun _ => rfl⟩
theorem pwN_tidy (a b : Nat) (ha : nn a) (hl : a < 18446744073709551616) : tidy (pwN a b) := by
  unfold pwN
  by_cases hb : whole b
  · rw [if_pos hb]
    unfold powE
    split
    · exact zero_tidy
    · split
      · exact dn_tidy _ (powN_ok _ _ ha hl).2
      · split
        · exact zero_tidy
        · rename_i h
          have hf : fin (powN (trn b).natAbs a) := Decidable.byContradiction fun h' => h (Or.inl h')
          exact dn_tidy _ (fdiv_one_ok hf (fun h' => h (Or.inr h'))).2
  · rw [if_neg hb]; exact zero_tidy

theorem numPowers_walk (a0 a1 : Nat) (w0 : (Lit.float .f64 a0).wf = true) (w1 : (Lit.float .f64 a1).wf = true) (w : World) :
    Calls Try.prog 5 #[.float .f64 a0, .float .f64 a1] w fun e w' => e = .returned (.bool true) ∧ Grown w w' := by
  have hz : Hid (Grown w w) := Grown.refl w
  have ca := awake_any w
  have t1 := rtidy_any a0 w
  have t2 := rtidy_any a1 w
  have l0 := lt64_of_wf w0
  have l1 := lt64_of_wf w1
  clear w0 w1
  by_cases f0 : fin a0
  · rw [decide_eq_true f0] at t1
    by_cases f1 : fin a1
    · rw [decide_eq_true f1] at t2
      have d0 := dn_tidy a0 l0
      generalize dn a0 = x at *
      generalize dn a1 = y at *
      have c1 := power_any x y d0.1.nn d0.2.1 w
      have c2 := rpower_any x y d0.1.nn d0.2.1 w
      have dp := pwN_tidy x y d0.1.nn d0.2.1
      have cb := bits_any _ _ dp.1.nn dp.1.nn dp.2.1 dp.2.1 w
      rw [decide_eq_true rfl] at cb
      clear dp d0 l0 l1 f0 f1
      generalize pwN x y = r at *
      generalize pwE x y = q at *
      go_enter Try.func5, Try.ntmps5
      go_wp2_with fail
      refine (t1).mono ?_
      rintro e w' ⟨rfl, rfl⟩
      go_wp2_with fail
      refine (t2).mono ?_
      rintro e w' ⟨rfl, rfl⟩
      go_wp2_with fail
      refine (c1).mono ?_
      rintro e w' ⟨rfl, rfl⟩
      go_wp2_with fail
      refine (c2).mono ?_
      rintro e w' ⟨rfl, rfl⟩
      go_wp2_with fail
      refine (cb).mono ?_
      rintro e w' ⟨rfl, rfl⟩
      go_wp2_with fail
      refine (ca).mono ?_
      rintro e w' ⟨rfl, rfl⟩
      go_wp2
      go_ret
      exact ⟨rfl, hz.out⟩
    · rw [decide_eq_false f1] at t2
      clear l0 l1 f0 f1
      go_enter Try.func5, Try.ntmps5
      go_wp2_with fail
      refine (t1).mono ?_
      rintro e w' ⟨rfl, rfl⟩
      go_wp2_with fail
      refine (t2).mono ?_
      rintro e w' ⟨rfl, rfl⟩
      go_wp2_with fail
      refine (ca).mono ?_
      rintro e w' ⟨rfl, rfl⟩
      go_wp2
      go_ret
      exact ⟨rfl, hz.out⟩
  · rw [decide_eq_false f0] at t1
    clear l0 l1 f0
    generalize decide (fin a1) = b at *
    go_enter Try.func5, Try.ntmps5
    go_wp2_with fail
    refine (t1).mono ?_
    rintro e w' ⟨rfl, rfl⟩
    go_wp2_with fail
    refine (t2).mono ?_
    rintro e w' ⟨rfl, rfl⟩
    go_wp2_with fail
    refine (ca).mono ?_
    rintro e w' ⟨rfl, rfl⟩
    go_wp2
    go_ret
    exact ⟨rfl, hz.out⟩

set_option maxRecDepth 100000 in
theorem numPowers_lifted (os : Os) (started : os.Started) (H : Type) (enc : TypeId × Value → H) :
    ReturnsInHanded {} Try.checked os 5 .any (Rows.numPowersSpec.pre6 enc Try.prog Try.f5 Rows.numPowersRow.domain false) (Rows.numPowersSpec.post enc Try.prog Try.f5 false true false false) := by
  refine returnsInHanded_of_change (C := Try.checked) own started (by kernel_rfl) Try.func5
    (ChangeSpec.witness6 (enc := enc) (C := Try.checked) false ⟨#[], #[.float .f64 0, .float .f64 0], []⟩ 8 (by kernel_rfl) (by kernel_rfl) (by kernel_rfl) (by kernel_rfl)) ?_
  intro W base args ds gs before hval0 hW hcnd _
  have hval : ∀ (j : Nat) t v, Try.f5.params[j]? = some t → args[j]? = some v → Value.okWide Try.prog W .any base t v := hval0
  have hW' := hW
  obtain ⟨p, q, hA0, hV, rfl, hfz, hnd⟩ := hW
  have hA : DataW.TrodAll enc Try.prog W 0 (fun _ => true) true Try.f5.params.toList args.toList ds p := hA0
  rw [Try.params5] at hA hval
  obtain ⟨v0, vs0, d0, ds0, p0, q0, hargs, rfl, rfl, h0, r0⟩ := trodAll_cons hA
  obtain ⟨v1, vs1, d1, ds1, p1, q1, rfl, rfl, rfl, h1, r1⟩ := trodAll_cons r0
  obtain ⟨rfl, rfl, rfl⟩ := trodAll_nil r1
  obtain rfl : args = #[v0, v1] := by cases args; simp_all
  obtain ⟨rfl, rfl⟩ := trodVars_none hV
  obtain ⟨a0, rfl, rfl, rfl, w0⟩ := open_float Try.underlying22 (hval 0 22 v0 rfl rfl) h0
  obtain ⟨a1, rfl, rfl, rfl, w1⟩ := open_float Try.underlying22 (hval 1 22 v1 rfl rfl) h1
  clear hA0 hval0
  simp only [List.append_nil] at hW'
  refine (numPowers_walk a0 a1 w0 w1 W).mono fun e W' ⟨he, hg⟩ => ?_
  subst he
  exact ⟨_, rfl, post_of_same (pa := []) (pv := []) hW' (fun _ _ _ => (trodAll_cons_mk (shut_bool Try.underlying4 _) trodAll_mk0)) (fun sp _ => (trodAll_cons_mk (shut_float Try.underlying22 w0) (trodAll_cons_mk (shut_float Try.underlying22 w1) trodAll_mk0))) (fun _ _ => rfl) rfl
    (hg.frame _) hg.2.1 (ok_one (by kernel_rfl) rfl (okWide_bool_mk Try.underlying4 _))⟩

/-- The statement of NumPowers, whole: for every input the law returns true, and its arguments read as before. -/
theorem numPowers_holds : Rows.NumPowersSaid :=
  OpenClaim.holds_of_wide 5 Try.f5 rfl rfl rfl rfl rfl rfl rfl ⟨rfl, rfl, rfl, rfl, rfl⟩ rfl rfl rfl rfl rfl (by kernel_rfl) Try.func5 (by kernel_rfl)
    (of_decide_eq_true (by kernel_rfl)) (by unfold Func.isWrapper; first | (rw [if_pos (by decide +kernel)]; kernel_rfl) | (rw [if_neg (by decide +kernel)]; exact ⟨rfl, rfl⟩))
    (fun os started H enc _ => numPowers_lifted os started H enc)
end Go.Proofs.Ytnpmjchbelhgfaa
