/- NumWhole, for every two int64: sums, differences and products of whole numbers, and which come to too much; reckoning with floats tells the same. No condition. -/
import Derived.Test.YtnpmjchbelhgfaaNh
namespace Go.Proofs.Ytnpmjchbelhgfaa
open Go.ChangeShapes Go.WideShapes Go.ChangeAt Go.RowKit Fl

set_option maxHeartbeats 400000
/-- a number that is not an infinity: of a key within the numbers -/
theorem fin_of_key {a b : Nat} (hb : fin b) (h : key a = key b) : fin a := by
  have h1 : rung a = rung b := by
    unfold key at h
    cases h2 : neg a <;> cases h3 : neg b <;> simp [h2, h3] at h <;> omega
  unfold fin at *
  omega
/-- what the float's way of a whole result tells -/
theorem fi_way {r : Nat} {n : Int} (hr : r < 18446744073709551616) (hn : G n) (hk : key r = key (fi n)) : dn r = fi n ∧ de r = 0 := by
  have hf := fin_of_key (fi_fin hn.1 hn.2) hk
  rw [dn_of hf, show de r = 0 from if_pos hf]
  refine ⟨?_, rfl⟩
  rw [norm_key hr (fi_lt64 n) hk, norm_tidy (fi_tidy hn.1 hn.2)]
theorem fadd_le {a b r : Nat} (ha : fin a) (hb : fin b) (h : (sv a + sv b).natAbs ≤ mg r) : rung (fadd a b) ≤ r := by
  obtain ⟨m, e, ra, va⟩ := read_fin ha
  obtain ⟨n, f, rb, vb⟩ := read_fin hb
  obtain ⟨x, e1, e2⟩ := sum_fin (neg a) (neg b) m n e f
  have h1 : fadd a b = Ieee.double.nearest (if x = 0 then neg a && neg b else x < 0) x.natAbs (-1074 + ((min e f : Nat) : Int)) := by
    unfold fadd Ieee.Format.add; rw [ra, rb, e1]; rfl
  rw [h1, nearest_eq, rung_word _ (rnd_inf _ _)]
  refine rnd_le ?_
  rw [va, vb] at e2
  have h2 : x.natAbs * 2 ^ (min e f) = (sv a + sv b).natAbs := by
    unfold sv
    rw [← e2, Int.natAbs_mul, Int.natAbs_natCast]
  unfold atMost
  have e3 : (-1074 + ((min e f : Nat) : Int) + 1074).toNat = min e f := by omega
  have e4 : (-(-1074 + ((min e f : Nat) : Int) + 1074)).toNat = 0 := by omega
  rw [e3, e4, h2]; simpa using h
theorem fsub_le {a b r : Nat} (ha : fin a) (hb : fin b) (h : (sv a - sv b).natAbs ≤ mg r) : rung (fsub a b) ≤ r := by
  obtain ⟨m, e, ra, va⟩ := read_fin ha
  obtain ⟨n, f, rb, vb⟩ := read_fin hb
  obtain ⟨x, e1, e2⟩ := sum_fin (neg a) (!neg b) m n e f
  have h1 : fsub a b = Ieee.double.nearest (if x = 0 then neg a && !neg b else x < 0) x.natAbs (-1074 + ((min e f : Nat) : Int)) := by
    unfold fsub Ieee.Format.sub; rw [ra, rb]
    show ((Ieee.Datum.sum _ (Ieee.Datum.number (!neg b) n _)).map _).getD 0 = _
    rw [e1]; rfl
  rw [h1, nearest_eq, rung_word _ (rnd_inf _ _)]
  refine rnd_le ?_
  rw [va, vb] at e2
  have h2 : x.natAbs * 2 ^ (min e f) = (sv a - sv b).natAbs := by
    have h3 : sg (!neg b) (mg (rung b)) = - sv b := by unfold sv; cases neg b <;> simp [sg]
    rw [h3] at e2
    have h4 : sv a - sv b = sg (neg a) (mg (rung a)) + - sv b := by unfold sv; omega
    rw [h4, ← e2, Int.natAbs_mul, Int.natAbs_natCast]
  unfold atMost
  have e3 : (-1074 + ((min e f : Nat) : Int) + 1074).toNat = min e f := by omega
  have e4 : (-(-1074 + ((min e f : Nat) : Int) + 1074)).toNat = 0 := by omega
  rw [e3, e4, h2]; simpa using h
/-- sums, differences and products of whole numbers of at most 2^53 are numbers -/
theorem lim_words {a b : Int} (ha : G a) (hb : G b) : fin (fadd (fi a) (fi b)) ∧ fin (fsub (fi a) (fi b)) ∧ fin (fmul (fi a) (fi b)) := by
  have fa := fi_fin ha.1 ha.2
  have fb := fi_fin hb.1 hb.2
  have ra := (fi_rung ha.1 ha.2).1
  have rb := (fi_rung hb.1 hb.2).1
  have m1 : mg 4850376798678024192 = 18014398509481984 * U := by decide +kernel
  have m2 : mg 5084563979301289984 = 81129638414606681695789005144064 * U := by decide +kernel
  have sa := fi_sv ha.1 ha.2
  have sb := fi_sv hb.1 hb.2
  unfold G at ha hb
  refine ⟨?_, ?_, ?_⟩
  · have h := @fadd_le _ _ 4850376798678024192 fa fb (by
      rw [sa, sb, m1, ← Int.add_mul, Int.natAbs_mul, Int.natAbs_natCast]
      exact Nat.mul_le_mul_right _ (by omega))
    unfold fin; omega
  · have h := @fsub_le _ _ 4850376798678024192 fa fb (by
      rw [sa, sb, m1, ← Int.sub_mul, Int.natAbs_mul, Int.natAbs_natCast]
      exact Nat.mul_le_mul_right _ (by omega))
    unfold fin; omega
  · have h := @mul_le _ _ 5084563979301289984 fa fb (by
      rw [ra, rb, m2]
      have h3 : a.natAbs * b.natAbs ≤ 9007199254740992 * 9007199254740992 := Nat.mul_le_mul (by omega) (by omega)
      have h4 : a.natAbs * U * (b.natAbs * U) = a.natAbs * b.natAbs * U * U := by simp [Nat.mul_assoc, Nat.mul_left_comm]
      rw [h4]
      exact Nat.mul_le_mul_right _ (Nat.mul_le_mul_right _ (by omega)))
    unfold fin; omega

set_option maxRecDepth 100000 in
set_option maxHeartbeats 4000000 in
theorem numWhole_walk (a0 a1 : Int) (_w0 : (Lit.int .i64 a0).wf = true) (_w1 : (Lit.int .i64 a1).wf = true) (w : World) :
    Calls Try.prog 8 #[.int .i64 a0, .int .i64 a1] w fun e w' => e = .returned (.bool true) ∧ Grown w w' := by
  have hz : Hid (Grown w w) := Grown.refl w
  have ca := awake_any w
  have c1 := addInt_any a0 a1 w
  have c2 := subInt_any a0 a1 w
  have c3 := mulInt_any a0 a1 w
  have s0 := rsmall_any a0 w
  have s1 := rsmall_any a1 w
  by_cases g0 : G a0
  · rw [decide_eq_true g0] at s0
    by_cases g1 : G a1
    · rw [decide_eq_true g1] at s1
      rw [if_pos ⟨g0, g1⟩] at c1 c2 c3
      rw [show decide (G a0 ∧ G a1 ∧ G (a0 + a1)) = decide (G (a0 + a1)) by simp [g0, g1]] at c1
      rw [show decide (G a0 ∧ G a1 ∧ G (a0 - a1)) = decide (G (a0 - a1)) by simp [g0, g1]] at c2
      rw [show decide (G a0 ∧ G a1 ∧ G (a0 * a1)) = decide (G (a0 * a1)) by simp [g0, g1]] at c3
      have s2 := rsmall_any (a0 + a1) w
      have s3 := rsmall_any (a0 - a1) w
      have s4 := rmulSmall_any a0 a1 g0 g1 w
      have f0 := fi_fin g0.1 g0.2
      have f1 := fi_fin g1.1 g1.2
      have hl := lim_words g0 g1
      have p1 := add_any _ _ f0 f1 w
      have p2 := sub_any _ _ f0 f1 w
      have p3 := mul_any _ _ f0 f1 w
      rw [show de _ = 0 from if_pos hl.1] at p1
      rw [show de _ = 0 from if_pos hl.2.1] at p2
      rw [show de _ = 0 from if_pos hl.2.2] at p3
      have k1 : ∀ h : G (a0 + a1), dn (fadd (fi a0) (fi a1)) = fi (a0 + a1) := fun h => (fi_way (add_some f0 f1).2.2 h (fadd_fi g0.1 g0.2 g1.1 g1.2 h.1 h.2)).1
      have k2 : ∀ h : G (a0 - a1), dn (fsub (fi a0) (fi a1)) = fi (a0 - a1) := fun h => (fi_way (sub_some f0 f1).2.2 h (fsub_fi g0.1 g0.2 g1.1 g1.2 h.1 h.2)).1
      have k3 : ∀ h : G (a0 * a1), dn (fmul (fi a0) (fi a1)) = fi (a0 * a1) := fun h => (fi_way (mul_some f0 f1).2.2 h (fmul_fi g0.1 g0.2 g1.1 g1.2 h.1 h.2)).1
      have q : ∀ n, G n → (FloatKind.f64.format.order (fi n) (floatOfInt .f64 n) == some .eq) = true := by
        intro n h; rw [fi_conv, c_eq (fi_fin h.1 h.2).nn (fi_fin h.1 h.2).nn]; simp
      have b1 : -9007199254740992 ≤ a0 := g0.1
      have b2 : a0 ≤ 9007199254740992 := g0.2
      have b3 : -9007199254740992 ≤ a1 := g1.1
      have b4 : a1 ≤ 9007199254740992 := g1.2
      clear hl f0 f1 g0 g1
      by_cases g2 : G (a0 + a1)
      all_goals
        first
        | rw [show gN (a0 + a1) = a0 + a1 from if_pos g2, decide_eq_true g2] at c1; rw [decide_eq_true g2] at s2; rw [k1 g2] at p1; have o1 := q _ g2
        | rw [show gN (a0 + a1) = 0 from if_neg g2, decide_eq_false g2] at c1; rw [decide_eq_false g2] at s2; generalize dn (fadd (fi a0) (fi a1)) = u1 at p1 k1
        clear k1 g2
        by_cases g3 : G (a0 - a1)
        all_goals
          first
          | rw [show gN (a0 - a1) = a0 - a1 from if_pos g3, decide_eq_true g3] at c2; rw [decide_eq_true g3] at s3; rw [k2 g3] at p2; have o2 := q _ g3
          | rw [show gN (a0 - a1) = 0 from if_neg g3, decide_eq_false g3] at c2; rw [decide_eq_false g3] at s3; generalize dn (fsub (fi a0) (fi a1)) = u2 at p2 k2
          clear k2 g3
          by_cases g4 : G (a0 * a1)
          all_goals
            first
            | rw [show gN (a0 * a1) = a0 * a1 from if_pos g4, decide_eq_true g4] at c3; rw [decide_eq_true g4] at s4; rw [k3 g4] at p3; have o3 := q _ g4; have hw : IntKind.i64.wrap (a0 * a1) = a0 * a1 := IntWalk.i64_in _ (by have h1 := g4.1; have h2 := g4.2; omega)
            | rw [show gN (a0 * a1) = 0 from if_neg g4, decide_eq_false g4] at c3; rw [decide_eq_false g4] at s4; generalize dn (fmul (fi a0) (fi a1)) = u3 at p3 k3
            clear k3 g4 q
            go_enter Try.func8, Try.ntmps8
            go_wp2_with fail
            refine (c1).mono ?_
            rintro e w' ⟨rfl, rfl⟩
            go_wp2_with fail
            refine (c2).mono ?_
            rintro e w' ⟨rfl, rfl⟩
            go_wp2_with fail
            refine (c3).mono ?_
            rintro e w' ⟨rfl, rfl⟩
            go_wp2_with fail
            refine (s0).mono ?_
            rintro e w' ⟨rfl, rfl⟩
            go_wp2_with fail
            refine (s1).mono ?_
            rintro e w' ⟨rfl, rfl⟩
            go_wp2_with fail
            refine (s2).mono ?_
            rintro e w' ⟨rfl, rfl⟩
            go_wp2_with fail
            refine (s3).mono ?_
            rintro e w' ⟨rfl, rfl⟩
            go_wp2_with fail
            refine (s4).mono ?_
            rintro e w' ⟨rfl, rfl⟩
            go_wp2_with fail
            refine (p1).mono ?_
            rintro e w' ⟨rfl, rfl⟩
            go_wp2_with fail
            refine (p2).mono ?_
            rintro e w' ⟨rfl, rfl⟩
            go_wp2_with fail
            refine (p3).mono ?_
            rintro e w' ⟨rfl, rfl⟩
            go_wp2_with fail
            refine (ca).mono ?_
            rintro e w' ⟨rfl, rfl⟩
            go_wp2
            go_ret
            exact ⟨rfl, hz.out⟩
    · rw [decide_eq_false g1] at s1
      rw [if_neg (fun h => g1 h.2), decide_eq_false (fun h => g1 h.2.1)] at c1 c2 c3
      clear g0 g1
      go_enter Try.func8, Try.ntmps8
      go_wp2_with fail
      refine (c1).mono ?_
      rintro e w' ⟨rfl, rfl⟩
      go_wp2_with fail
      refine (c2).mono ?_
      rintro e w' ⟨rfl, rfl⟩
      go_wp2_with fail
      refine (c3).mono ?_
      rintro e w' ⟨rfl, rfl⟩
      go_wp2_with fail
      refine (s0).mono ?_
      rintro e w' ⟨rfl, rfl⟩
      go_wp2_with fail
      refine (s1).mono ?_
      rintro e w' ⟨rfl, rfl⟩
      go_wp2_with fail
      refine (ca).mono ?_
      rintro e w' ⟨rfl, rfl⟩
      go_wp2
      go_ret
      exact ⟨rfl, hz.out⟩
  · rw [decide_eq_false g0] at s0
    rw [if_neg (fun h => g0 h.1), decide_eq_false (fun h => g0 h.1)] at c1 c2 c3
    clear g0
    go_enter Try.func8, Try.ntmps8
    go_wp2_with fail
    refine (c1).mono ?_
    rintro e w' ⟨rfl, rfl⟩
    go_wp2_with fail
    refine (c2).mono ?_
    rintro e w' ⟨rfl, rfl⟩
    go_wp2_with fail
    refine (c3).mono ?_
    rintro e w' ⟨rfl, rfl⟩
    go_wp2_with fail
    refine (s0).mono ?_
    rintro e w' ⟨rfl, rfl⟩
    go_wp2_with fail
    refine (ca).mono ?_
    rintro e w' ⟨rfl, rfl⟩
    go_wp2
    go_ret
    exact ⟨rfl, hz.out⟩

set_option maxRecDepth 100000 in
theorem numWhole_lifted (os : Os) (started : os.Started) (H : Type) (enc : TypeId × Value → H) :
    ReturnsInHanded {} Try.checked os 8 .any (Rows.numWholeSpec.pre6 enc Try.prog Try.f8 Rows.numWholeRow.domain false) (Rows.numWholeSpec.post enc Try.prog Try.f8 false true false false) := by
  refine returnsInHanded_of_change (C := Try.checked) own started (by kernel_rfl) Try.func8
    (ChangeSpec.witness6 (enc := enc) (C := Try.checked) false ⟨#[], #[.int .i64 0, .int .i64 0], []⟩ 8 (by kernel_rfl) (by kernel_rfl) (by kernel_rfl) (by kernel_rfl)) ?_
  intro W base args ds gs before hval0 hW hcnd _
  have hval : ∀ (j : Nat) t v, Try.f8.params[j]? = some t → args[j]? = some v → Value.okWide Try.prog W .any base t v := hval0
  have hW' := hW
  obtain ⟨p, q, hA0, hV, rfl, hfz, hnd⟩ := hW
  have hA : DataW.TrodAll enc Try.prog W 0 (fun _ => true) true Try.f8.params.toList args.toList ds p := hA0
  rw [Try.params8] at hA hval
  obtain ⟨v0, vs0, d0, ds0, p0, q0, hargs, rfl, rfl, h0, r0⟩ := trodAll_cons hA
  obtain ⟨v1, vs1, d1, ds1, p1, q1, rfl, rfl, rfl, h1, r1⟩ := trodAll_cons r0
  obtain ⟨rfl, rfl, rfl⟩ := trodAll_nil r1
  obtain rfl : args = #[v0, v1] := by cases args; simp_all
  obtain ⟨rfl, rfl⟩ := trodVars_none hV
  obtain ⟨a0, rfl, rfl, rfl, w0⟩ := open_int Try.underlying2 (hval 0 2 v0 rfl rfl) h0
  obtain ⟨a1, rfl, rfl, rfl, w1⟩ := open_int Try.underlying2 (hval 1 2 v1 rfl rfl) h1
  clear hA0 hval0
  simp only [List.append_nil] at hW'
  refine (numWhole_walk a0 a1 w0 w1 W).mono fun e W' ⟨he, hg⟩ => ?_
  subst he
  exact ⟨_, rfl, post_of_same (pa := []) (pv := []) hW' (fun _ _ _ => (trodAll_cons_mk (shut_bool Try.underlying4 _) trodAll_mk0)) (fun sp _ => (trodAll_cons_mk (shut_int Try.underlying2 w0) (trodAll_cons_mk (shut_int Try.underlying2 w1) trodAll_mk0))) (fun _ _ => rfl) rfl
    (hg.frame _) hg.2.1 (ok_one (by kernel_rfl) rfl (okWide_bool_mk Try.underlying4 _))⟩

/-- The statement of NumWhole, whole: for every input the law returns true, and its arguments read as before. -/
theorem numWhole_holds : Rows.NumWholeSaid :=
  OpenClaim.holds_of_wide 8 Try.f8 rfl rfl rfl rfl rfl rfl rfl ⟨rfl, rfl, rfl, rfl, rfl⟩ rfl rfl rfl rfl rfl (by kernel_rfl) Try.func8 (by kernel_rfl)
    (of_decide_eq_true (by kernel_rfl)) (by unfold Func.isWrapper; first | (rw [if_pos (by decide +kernel)]; kernel_rfl) | (rw [if_neg (by decide +kernel)]; exact ⟨rfl, rfl⟩))
    (fun os started H enc _ => numWhole_lifted os started H enc)
end Go.Proofs.Ytnpmjchbelhgfaa
