/- NumTidy, for every word of a float: which floats are numbers, and which are whole. No condition. -/
import Derived.Test.YtnpmjchbelhgfaaNh
namespace Go.Proofs.Ytnpmjchbelhgfaa
open Go.ChangeShapes Go.WideShapes Go.ChangeAt Go.RowKit Fl

set_option maxHeartbeats 400000
theorem numTidy_walk (a0 : Nat) (w0 : (Lit.float .f64 a0).wf = true) (w : World) :
    Calls Try.prog 3 #[.float .f64 a0] w fun e w' => e = .returned (.bool true) ∧ Grown w w' := by
  have hl := lt64_of_wf w0
  have ht := dn_tidy a0 hl
  have cb := bits_any (dn a0) (dn a0) ht.1.nn ht.1.nn ht.2.1 ht.2.1 w
  rw [decide_eq_true rfl] at cb
  have c1 := tidy_any a0 w
  have c2 := rtidy_any a0 w
  have c3 := whole_any a0 w
  have c4 := rwhole_any a0 w
  have hz : Hid (Grown w w) := Grown.refl w
  have ca := awake_any w
  by_cases hw : whole a0
  · rw [decide_eq_true hw] at c3 c4
    have e1 : wn a0 = trn a0 := if_pos hw.1
    rw [e1] at c3
    have t1 := back_eq hw.1
    rw [decide_eq_true hw] at t1
    clear hl ht e1 w0 hw
    generalize decide (fin a0) = b at *
    go_enter Try.func3, Try.ntmps3
    go_wp2_with (first | (go_at_call 10; refine c1.mono ?_; rintro e w' ⟨rfl, rfl⟩) | (go_at_call 11; refine c2.mono ?_; rintro e w' ⟨rfl, rfl⟩) | (go_at_call 12; refine c3.mono ?_; rintro e w' ⟨rfl, rfl⟩) | (go_at_call 14; refine c4.mono ?_; rintro e w' ⟨rfl, rfl⟩) | (go_at_call 13; refine cb.mono ?_; rintro e w' ⟨rfl, rfl⟩) | (go_at_call 15; refine ca.mono ?_; rintro e w' ⟨rfl, rfl⟩))
    go_ret
    exact ⟨rfl, hz.out⟩
  · rw [decide_eq_false hw] at c3 c4
    clear hl ht w0 hw
    generalize decide (fin a0) = b at *
    go_enter Try.func3, Try.ntmps3
    go_wp2_with (first | (go_at_call 10; refine c1.mono ?_; rintro e w' ⟨rfl, rfl⟩) | (go_at_call 11; refine c2.mono ?_; rintro e w' ⟨rfl, rfl⟩) | (go_at_call 12; refine c3.mono ?_; rintro e w' ⟨rfl, rfl⟩) | (go_at_call 14; refine c4.mono ?_; rintro e w' ⟨rfl, rfl⟩) | (go_at_call 13; refine cb.mono ?_; rintro e w' ⟨rfl, rfl⟩) | (go_at_call 15; refine ca.mono ?_; rintro e w' ⟨rfl, rfl⟩))
    go_ret
    exact ⟨rfl, hz.out⟩

set_option maxRecDepth 100000 in
theorem numTidy_lifted (os : Os) (started : os.Started) (H : Type) (enc : TypeId × Value → H) :
    ReturnsInHanded {} Try.checked os 3 .any (Rows.numTidySpec.pre6 enc Try.prog Try.f3 Rows.numTidyRow.domain false) (Rows.numTidySpec.post enc Try.prog Try.f3 false true false false) := by
  refine returnsInHanded_of_change (C := Try.checked) own started (by kernel_rfl) Try.func3
    (ChangeSpec.witness6 (enc := enc) (C := Try.checked) false ⟨#[], #[.float .f64 0], []⟩ 8 (by kernel_rfl) (by kernel_rfl) (by kernel_rfl) (by kernel_rfl)) ?_
  intro W base args ds gs before hval0 hW hcnd _
  have hval : ∀ (j : Nat) t v, Try.f3.params[j]? = some t → args[j]? = some v → Value.okWide Try.prog W .any base t v := hval0
  have hW' := hW
  obtain ⟨p, q, hA0, hV, rfl, hfz, hnd⟩ := hW
  have hA : DataW.TrodAll enc Try.prog W 0 (fun _ => true) true Try.f3.params.toList args.toList ds p := hA0
  rw [Try.params3] at hA hval
  obtain ⟨v0, vs0, d0, ds0, p0, q0, hargs, rfl, rfl, h0, r0⟩ := trodAll_cons hA
  obtain ⟨rfl, rfl, rfl⟩ := trodAll_nil r0
  obtain rfl : args = #[v0] := by cases args; simp_all
  obtain ⟨rfl, rfl⟩ := trodVars_none hV
  obtain ⟨a0, rfl, rfl, rfl, w0⟩ := open_float Try.underlying22 (hval 0 22 v0 rfl rfl) h0
  clear hA0 hval0
  simp only [List.append_nil] at hW'
  refine (numTidy_walk a0 w0 W).mono fun e W' ⟨he, hg⟩ => ?_
  subst he
  exact ⟨_, rfl, post_of_same (pa := []) (pv := []) hW' (fun _ _ _ => (trodAll_cons_mk (shut_bool Try.underlying4 _) trodAll_mk0)) (fun sp _ => (trodAll_cons_mk (shut_float Try.underlying22 w0) trodAll_mk0)) (fun _ _ => rfl) rfl
    (hg.frame _) hg.2.1 (ok_one (by kernel_rfl) rfl (okWide_bool_mk Try.underlying4 _))⟩

/-- The statement of NumTidy, whole: for every input the law returns true, and its arguments read as before. -/
theorem numTidy_holds : Rows.NumTidySaid :=
  OpenClaim.holds_of_wide 3 Try.f3 rfl rfl rfl rfl rfl rfl rfl ⟨rfl, rfl, rfl, rfl, rfl⟩ rfl rfl rfl rfl rfl (by kernel_rfl) Try.func3 (by kernel_rfl)
    (of_decide_eq_true (by kernel_rfl)) (by unfold Func.isWrapper; first | (rw [if_pos (by decide +kernel)]; kernel_rfl) | (rw [if_neg (by decide +kernel)]; exact ⟨rfl, rfl⟩))
    (fun os started H enc _ => numTidy_lifted os started H enc)
end Go.Proofs.Ytnpmjchbelhgfaa
