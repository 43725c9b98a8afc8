/- NumTurns, for every two words of floats: sums, products, the greater and the lesser of two numbers don't mind which comes first, and a number less itself is 0. No condition. -/
import Derived.Test.YtnpmjchbelhgfaaNh
namespace Go.Proofs.Ytnpmjchbelhgfaa
open Go.ChangeShapes Go.WideShapes Go.ChangeAt Go.RowKit Fl

set_option maxHeartbeats 400000
theorem fmax_key (a b : Nat) : key (fmax a b) = key (fmax b a) := by
  unfold fmax; split <;> split <;> omega
theorem fmin_key (a b : Nat) : key (fmin a b) = key (fmin b a) := by
  unfold fmin; split <;> split <;> omega
theorem fmax_nn {a b : Nat} (ha : nn a) (hb : nn b) : nn (fmax a b) := by unfold fmax; split <;> assumption
theorem fmin_nn {a b : Nat} (ha : nn a) (hb : nn b) : nn (fmin a b) := by unfold fmin; split <;> assumption
theorem fsub_self {a : Nat} (ha : fin a) : dn (fsub a a) = 0 ∧ de (fsub a a) = 0 := by
  have h1 := sub_some ha ha
  have hk : key (fsub a a) = key 0 := fsub_key ha ha nn_zero (by rw [Int.sub_self]; decide)
  have hf : fin (fsub a a) := by
    rw [key_zero] at hk
    unfold key at hk
    unfold fin
    split at hk <;> omega
  rw [dn_of hf, show de (fsub a a) = 0 from if_pos hf]
  refine ⟨?_, rfl⟩
  rw [norm_key h1.2.2 (by decide) hk]
  decide
theorem numTurns_walk (a0 a1 : Nat) (w0 : (Lit.float .f64 a0).wf = true) (w1 : (Lit.float .f64 a1).wf = true) (w : World) :
    Calls Try.prog 7 #[.float .f64 a0, .float .f64 a1] w fun e w' => e = .returned (.bool true) ∧ Grown w w' := by
  have hz : Hid (Grown w w) := Grown.refl w
  have ca := awake_any w
  have t1 := rtidy_any a0 w
  have t2 := rtidy_any a1 w
  have l0 := lt64_of_wf w0
  have l1 := lt64_of_wf w1
  clear w0 w1
  by_cases f0 : fin a0
  · rw [decide_eq_true f0] at t1
    by_cases f1 : fin a1
    · rw [decide_eq_true f1] at t2
      have d0 := (dn_tidy a0 l0).1
      have d1 := (dn_tidy a1 l1).1
      generalize dn a0 = x at *
      generalize dn a1 = y at *
      have c1 := add_any x y d0 d1 w
      have c2 := add_any y x d1 d0 w
      have c3 := mul_any x y d0 d1 w
      have c4 := mul_any y x d1 d0 w
      have c5 := sub_any x x d0 d0 w
      rw [fadd_comm y x] at c2
      rw [fmul_comm y x] at c4
      rw [(fsub_self d0).1, (fsub_self d0).2] at c5
      have m1 := max_any x y d0.nn d1.nn w
      have m2 := max_any y x d1.nn d0.nn w
      have m3 := min_any x y d0.nn d1.nn w
      have m4 := min_any y x d1.nn d0.nn w
      have k1 : (FloatKind.f64.format.order (fmax x y) (fmax y x) == some .eq) = true := by
        rw [c_eq (fmax_nn d0.nn d1.nn) (fmax_nn d1.nn d0.nn), fmax_key]; simp
      have k2 : (FloatKind.f64.format.order (fmin x y) (fmin y x) == some .eq) = true := by
        rw [c_eq (fmin_nn d0.nn d1.nn) (fmin_nn d1.nn d0.nn), fmin_key]; simp
      have p1 := dn_tidy _ (add_some d0 d1).2.2
      have p3 := dn_tidy _ (mul_some d0 d1).2.2
      have b1 := bits_any _ _ p1.1.nn p1.1.nn p1.2.1 p1.2.1 w
      have b3 := bits_any _ _ p3.1.nn p3.1.nn p3.2.1 p3.2.1 w
      have b0 := bits_any 0 0 nn_zero nn_zero (by decide) (by decide) w
      rw [decide_eq_true rfl] at b1 b3 b0
      clear p1 p3 d0 d1 l0 l1 f0 f1
      generalize dn (fadd x y) = u1 at *
      generalize de (fadd x y) = e1 at *
      generalize dn (fmul x y) = u3 at *
      generalize de (fmul x y) = e3 at *
      go_enter Try.func7, Try.ntmps7
      go_wp2_with fail
      refine (t1).mono ?_
      rintro e w' ⟨rfl, rfl⟩
      go_wp2_with fail
      refine (t2).mono ?_
      rintro e w' ⟨rfl, rfl⟩
      go_wp2_with fail
      refine (c1).mono ?_
      rintro e w' ⟨rfl, rfl⟩
      go_wp2_with fail
      refine (c2).mono ?_
      rintro e w' ⟨rfl, rfl⟩
      go_wp2_with fail
      refine (c3).mono ?_
      rintro e w' ⟨rfl, rfl⟩
      go_wp2_with fail
      refine (c4).mono ?_
      rintro e w' ⟨rfl, rfl⟩
      go_wp2_with fail
      refine (c5).mono ?_
      rintro e w' ⟨rfl, rfl⟩
      go_wp2_with fail
      refine (b1).mono ?_
      rintro e w' ⟨rfl, rfl⟩
      go_wp2_with fail
      refine (b3).mono ?_
      rintro e w' ⟨rfl, rfl⟩
      go_wp2_with fail
      refine (m1).mono ?_
      rintro e w' ⟨rfl, rfl⟩
      go_wp2_with fail
      refine (m2).mono ?_
      rintro e w' ⟨rfl, rfl⟩
      go_wp2_with fail
      refine (m3).mono ?_
      rintro e w' ⟨rfl, rfl⟩
      go_wp2_with fail
      refine (m4).mono ?_
      rintro e w' ⟨rfl, rfl⟩
      go_wp2_with fail
      refine (b0).mono ?_
      rintro e w' ⟨rfl, rfl⟩
      go_wp2_with fail
      refine (ca).mono ?_
      rintro e w' ⟨rfl, rfl⟩
      go_wp2
      go_ret
      exact ⟨rfl, hz.out⟩
    · rw [decide_eq_false f1] at t2
      clear l0 l1 f0 f1
      go_enter Try.func7, Try.ntmps7
      go_wp2_with fail
      refine (t1).mono ?_
      rintro e w' ⟨rfl, rfl⟩
      go_wp2_with fail
      refine (t2).mono ?_
      rintro e w' ⟨rfl, rfl⟩
      go_wp2_with fail
      refine (ca).mono ?_
      rintro e w' ⟨rfl, rfl⟩
      go_wp2
      go_ret
      exact ⟨rfl, hz.out⟩
  · rw [decide_eq_false f0] at t1
    clear l0 l1 f0
    generalize decide (fin a1) = b at *
    go_enter Try.func7, Try.ntmps7
    go_wp2_with fail
    refine (t1).mono ?_
    rintro e w' ⟨rfl, rfl⟩
    go_wp2_with fail
    refine (t2).mono ?_
    rintro e w' ⟨rfl, rfl⟩
    go_wp2_with fail
    refine (ca).mono ?_
    rintro e w' ⟨rfl, rfl⟩
    go_wp2
    go_ret
    exact ⟨rfl, hz.out⟩

set_option maxRecDepth 100000 in
theorem numTurns_lifted (os : Os) (started : os.Started) (H : Type) (enc : TypeId × Value → H) :
    ReturnsInHanded {} Try.checked os 7 .any (Rows.numTurnsSpec.pre6 enc Try.prog Try.f7 Rows.numTurnsRow.domain false) (Rows.numTurnsSpec.post enc Try.prog Try.f7 false true false false) := by
  refine returnsInHanded_of_change (C := Try.checked) own started (by kernel_rfl) Try.func7
    (ChangeSpec.witness6 (enc := enc) (C := Try.checked) false ⟨#[], #[.float .f64 0, .float .f64 0], []⟩ 8 (by kernel_rfl) (by kernel_rfl) (by kernel_rfl) (by kernel_rfl)) ?_
  intro W base args ds gs before hval0 hW hcnd _
  have hval : ∀ (j : Nat) t v, Try.f7.params[j]? = some t → args[j]? = some v → Value.okWide Try.prog W .any base t v := hval0
  have hW' := hW
  obtain ⟨p, q, hA0, hV, rfl, hfz, hnd⟩ := hW
  have hA : DataW.TrodAll enc Try.prog W 0 (fun _ => true) true Try.f7.params.toList args.toList ds p := hA0
  rw [Try.params7] at hA hval
  obtain ⟨v0, vs0, d0, ds0, p0, q0, hargs, rfl, rfl, h0, r0⟩ := trodAll_cons hA
  obtain ⟨v1, vs1, d1, ds1, p1, q1, rfl, rfl, rfl, h1, r1⟩ := trodAll_cons r0
  obtain ⟨rfl, rfl, rfl⟩ := trodAll_nil r1
  obtain rfl : args = #[v0, v1] := by cases args; simp_all
  obtain ⟨rfl, rfl⟩ := trodVars_none hV
  obtain ⟨a0, rfl, rfl, rfl, w0⟩ := open_float Try.underlying22 (hval 0 22 v0 rfl rfl) h0
  obtain ⟨a1, rfl, rfl, rfl, w1⟩ := open_float Try.underlying22 (hval 1 22 v1 rfl rfl) h1
  clear hA0 hval0
  simp only [List.append_nil] at hW'
  refine (numTurns_walk a0 a1 w0 w1 W).mono fun e W' ⟨he, hg⟩ => ?_
  subst he
  exact ⟨_, rfl, post_of_same (pa := []) (pv := []) hW' (fun _ _ _ => (trodAll_cons_mk (shut_bool Try.underlying4 _) trodAll_mk0)) (fun sp _ => (trodAll_cons_mk (shut_float Try.underlying22 w0) (trodAll_cons_mk (shut_float Try.underlying22 w1) trodAll_mk0))) (fun _ _ => rfl) rfl
    (hg.frame _) hg.2.1 (ok_one (by kernel_rfl) rfl (okWide_bool_mk Try.underlying4 _))⟩

/-- The statement of NumTurns, whole: for every input the law returns true, and its arguments read as before. -/
theorem numTurns_holds : Rows.NumTurnsSaid :=
  OpenClaim.holds_of_wide 7 Try.f7 rfl rfl rfl rfl rfl rfl rfl ⟨rfl, rfl, rfl, rfl, rfl⟩ rfl rfl rfl rfl rfl (by kernel_rfl) Try.func7 (by kernel_rfl)
    (of_decide_eq_true (by kernel_rfl)) (by unfold Func.isWrapper; first | (rw [if_pos (by decide +kernel)]; kernel_rfl) | (rw [if_neg (by decide +kernel)]; exact ⟨rfl, rfl⟩))
    (fun os started H enc _ => numTurns_lifted os started H enc)
end Go.Proofs.Ytnpmjchbelhgfaa
