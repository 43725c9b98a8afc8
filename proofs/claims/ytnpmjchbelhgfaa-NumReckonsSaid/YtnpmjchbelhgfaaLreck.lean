/- NumReckons, for every two words of floats: sums, differences, products and quotients of all numbers, and where there are none. No condition. -/
import Derived.Test.YtnpmjchbelhgfaaNh
namespace Go.Proofs.Ytnpmjchbelhgfaa
open Go.ChangeShapes Go.WideShapes Go.ChangeAt Go.RowKit Fl

set_option maxHeartbeats 400000
theorem dvN_tidy {a b : Nat} (ha : fin a) (hb : fin b) : tidy (dvN a b) := by
  unfold dvN
  split
  · split
    · exact ⟨by decide, by decide, fun h => absurd h (by decide)⟩
    · exact ⟨by decide, by decide, fun _ => rfl⟩
  · exact dn_tidy _ (div_some ha hb (by omega)).2.2
theorem numReckons_walk (a0 a1 : Nat) (w0 : (Lit.float .f64 a0).wf = true) (w1 : (Lit.float .f64 a1).wf = true) (w : World) :
    Calls Try.prog 6 #[.float .f64 a0, .float .f64 a1] w fun e w' => e = .returned (.bool true) ∧ Grown w w' := by
  have hz : Hid (Grown w w) := Grown.refl w
  have ca := awake_any w
  have t1 := rtidy_any a0 w
  have t2 := rtidy_any a1 w
  have l0 := lt64_of_wf w0
  have l1 := lt64_of_wf w1
  clear w0 w1
  by_cases f0 : fin a0
  · rw [decide_eq_true f0] at t1
    by_cases f1 : fin a1
    · rw [decide_eq_true f1] at t2
      have d0 := (dn_tidy a0 l0).1
      have d1 := (dn_tidy a1 l1).1
      generalize dn a0 = x at *
      generalize dn a1 = y at *
      have c1 := add_any x y d0 d1 w
      have c2 := sub_any x y d0 d1 w
      have c3 := mul_any x y d0 d1 w
      have c4 := div_any x y d0 d1 w
      have r1 := reckon_add x y d0 d1 w
      have r2 := reckon_sub x y d0 d1 w
      have r3 := reckon_mul x y d0 d1 w
      have r4 := reckon_div x y d0 d1 w
      have p1 := dn_tidy _ (add_some d0 d1).2.2
      have p2 := dn_tidy _ (sub_some d0 d1).2.2
      have p3 := dn_tidy _ (mul_some d0 d1).2.2
      have p4 := dvN_tidy d0 d1
      have b1 := bits_any _ _ p1.1.nn p1.1.nn p1.2.1 p1.2.1 w
      have b2 := bits_any _ _ p2.1.nn p2.1.nn p2.2.1 p2.2.1 w
      have b3 := bits_any _ _ p3.1.nn p3.1.nn p3.2.1 p3.2.1 w
      have b4 := bits_any _ _ p4.1.nn p4.1.nn p4.2.1 p4.2.1 w
      rw [decide_eq_true rfl] at b1 b2 b3 b4
      clear p1 p2 p3 p4 d0 d1 l0 l1 f0 f1
      generalize dn (fadd x y) = u1 at *
      generalize de (fadd x y) = e1 at *
      generalize dn (fsub x y) = u2 at *
      generalize de (fsub x y) = e2 at *
      generalize dn (fmul x y) = u3 at *
      generalize de (fmul x y) = e3 at *
      generalize dvN x y = u4 at *
      generalize dvE x y = e4 at *
      go_enter Try.func6, Try.ntmps6
      go_wp2_with fail
      refine (t1).mono ?_
      rintro e w' ⟨rfl, rfl⟩
      go_wp2_with fail
      refine (t2).mono ?_
      rintro e w' ⟨rfl, rfl⟩
      go_wp2_with fail
      refine (c1).mono ?_
      rintro e w' ⟨rfl, rfl⟩
      go_wp2_with fail
      refine (c2).mono ?_
      rintro e w' ⟨rfl, rfl⟩
      go_wp2_with fail
      refine (c3).mono ?_
      rintro e w' ⟨rfl, rfl⟩
      go_wp2_with fail
      refine (c4).mono ?_
      rintro e w' ⟨rfl, rfl⟩
      go_wp2_with fail
      refine (r1).mono ?_
      rintro e w' ⟨rfl, rfl⟩
      go_wp2_with fail
      refine (r2).mono ?_
      rintro e w' ⟨rfl, rfl⟩
      go_wp2_with fail
      refine (r3).mono ?_
      rintro e w' ⟨rfl, rfl⟩
      go_wp2_with fail
      refine (r4).mono ?_
      rintro e w' ⟨rfl, rfl⟩
      go_wp2_with fail
      refine (b1).mono ?_
      rintro e w' ⟨rfl, rfl⟩
      go_wp2_with fail
      refine (b2).mono ?_
      rintro e w' ⟨rfl, rfl⟩
      go_wp2_with fail
      refine (b3).mono ?_
      rintro e w' ⟨rfl, rfl⟩
      go_wp2_with fail
      refine (b4).mono ?_
      rintro e w' ⟨rfl, rfl⟩
      go_wp2_with fail
      refine (ca).mono ?_
      rintro e w' ⟨rfl, rfl⟩
      go_wp2
      go_ret
      exact ⟨rfl, hz.out⟩
    · rw [decide_eq_false f1] at t2
      clear l0 l1 f0 f1
      go_enter Try.func6, Try.ntmps6
      go_wp2_with fail
      refine (t1).mono ?_
      rintro e w' ⟨rfl, rfl⟩
      go_wp2_with fail
      refine (t2).mono ?_
      rintro e w' ⟨rfl, rfl⟩
      go_wp2_with fail
      refine (ca).mono ?_
      rintro e w' ⟨rfl, rfl⟩
      go_wp2
      go_ret
      exact ⟨rfl, hz.out⟩
  · rw [decide_eq_false f0] at t1
    clear l0 l1 f0
    generalize decide (fin a1) = b at *
    go_enter Try.func6, Try.ntmps6
    go_wp2_with fail
    refine (t1).mono ?_
    rintro e w' ⟨rfl, rfl⟩
    go_wp2_with fail
    refine (t2).mono ?_
    rintro e w' ⟨rfl, rfl⟩
    go_wp2_with fail
    refine (ca).mono ?_
    rintro e w' ⟨rfl, rfl⟩
    go_wp2
    go_ret
    exact ⟨rfl, hz.out⟩

set_option maxRecDepth 100000 in
theorem numReckons_lifted (os : Os) (started : os.Started) (H : Type) (enc : TypeId × Value → H) :
    ReturnsInHanded {} Try.checked os 6 .any (Rows.numReckonsSpec.pre6 enc Try.prog Try.f6 Rows.numReckonsRow.domain false) (Rows.numReckonsSpec.post enc Try.prog Try.f6 false true false false) := by
  refine returnsInHanded_of_change (C := Try.checked) own started (by kernel_rfl) Try.func6
    (ChangeSpec.witness6 (enc := enc) (C := Try.checked) false ⟨#[], #[.float .f64 0, .float .f64 0], []⟩ 8 (by kernel_rfl) (by kernel_rfl) (by kernel_rfl) (by kernel_rfl)) ?_
  intro W base args ds gs before hval0 hW hcnd _
  have hval : ∀ (j : Nat) t v, Try.f6.params[j]? = some t → args[j]? = some v → Value.okWide Try.prog W .any base t v := hval0
  have hW' := hW
  obtain ⟨p, q, hA0, hV, rfl, hfz, hnd⟩ := hW
  have hA : DataW.TrodAll enc Try.prog W 0 (fun _ => true) true Try.f6.params.toList args.toList ds p := hA0
  rw [Try.params6] at hA hval
  obtain ⟨v0, vs0, d0, ds0, p0, q0, hargs, rfl, rfl, h0, r0⟩ := trodAll_cons hA
  obtain ⟨v1, vs1, d1, ds1, p1, q1, rfl, rfl, rfl, h1, r1⟩ := trodAll_cons r0
  obtain ⟨rfl, rfl, rfl⟩ := trodAll_nil r1
  obtain rfl : args = #[v0, v1] := by cases args; simp_all
  obtain ⟨rfl, rfl⟩ := trodVars_none hV
  obtain ⟨a0, rfl, rfl, rfl, w0⟩ := open_float Try.underlying22 (hval 0 22 v0 rfl rfl) h0
  obtain ⟨a1, rfl, rfl, rfl, w1⟩ := open_float Try.underlying22 (hval 1 22 v1 rfl rfl) h1
  clear hA0 hval0
  simp only [List.append_nil] at hW'
  refine (numReckons_walk a0 a1 w0 w1 W).mono fun e W' ⟨he, hg⟩ => ?_
  subst he
  exact ⟨_, rfl, post_of_same (pa := []) (pv := []) hW' (fun _ _ _ => (trodAll_cons_mk (shut_bool Try.underlying4 _) trodAll_mk0)) (fun sp _ => (trodAll_cons_mk (shut_float Try.underlying22 w0) (trodAll_cons_mk (shut_float Try.underlying22 w1) trodAll_mk0))) (fun _ _ => rfl) rfl
    (hg.frame _) hg.2.1 (ok_one (by kernel_rfl) rfl (okWide_bool_mk Try.underlying4 _))⟩

/-- The statement of NumReckons, whole: for every input the law returns true, and its arguments read as before. -/
theorem numReckons_holds : Rows.NumReckonsSaid :=
  OpenClaim.holds_of_wide 6 Try.f6 rfl rfl rfl rfl rfl rfl rfl ⟨rfl, rfl, rfl, rfl, rfl⟩ rfl rfl rfl rfl rfl (by kernel_rfl) Try.func6 (by kernel_rfl)
    (of_decide_eq_true (by kernel_rfl)) (by unfold Func.isWrapper; first | (rw [if_pos (by decide +kernel)]; kernel_rfl) | (rw [if_neg (by decide +kernel)]; exact ⟨rfl, rfl⟩))
    (fun os started H enc _ => numReckons_lifted os started H enc)
end Go.Proofs.Ytnpmjchbelhgfaa
