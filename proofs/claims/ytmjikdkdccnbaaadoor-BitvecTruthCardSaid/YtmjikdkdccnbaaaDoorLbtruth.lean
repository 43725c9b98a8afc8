/- BitvecTruth, for every input: the tied card. -/
import Derived.Test.YtmjikdkdccnbaaaDoorPi
namespace Go.Proofs.YtmjikdkdccnbaaaDoor
open Go.ChangeShapes Go.WideShapes Go.RowKit Bv
set_option maxRecDepth 100000 in
theorem bitvecTruth_lifted (os : Os) (started : os.Started) (H : Type) (enc : TypeId × Value → H) :
    ReturnsInHanded {} Tryd.checked os 8 .any (fun w args => (Rows.bitvecTruthSpec.pre enc Tryd.prog Tryd.f8 [] false w args ∧ laidMetH Tryd.prog laid1 w) ∧ sizedMet enc Tryd.prog Tryd.f8 (OpenSpec.ofChange Rows.bitvecTruthSpec) false w args) (Rows.bitvecTruthSpec.post enc Tryd.prog Tryd.f8 false true false false) := by
  refine returnsInHanded_of_change_and (C := Tryd.checked) (X := fun w _ => laidMetH Tryd.prog laid1 w) (fun _ _ _ hh h => h.of_heap hh) own started (by kernel_rfl) Tryd.func8
    (ChangeSpec.witness_shaped (enc := enc) (C := Tryd.checked) (os := os) (X := fun w _ => laidMetH Tryd.prog laid1 w) false (World.doorLaid Tryd.prog 400 os) #[.int .u8 0, .slice none 0 0, .slice none 0 0] 8 rfl (World.shaped_of_RefB (by kernel_rfl) (by kernel_rfl)) (by kernel_rfl) (by kernel_rfl) (by kernel_rfl) (door_met os _)) ?_
  intro W base args ds gs before hval0 hW _ _ hL _
  have hval : ∀ (j : Nat) t v, Tryd.f8.params[j]? = some t → args[j]? = some v → Value.okWide Tryd.prog W .any base t v := hval0
  have hW' := hW
  obtain ⟨p, q, hA0, hV, rfl, hfz, hnd⟩ := hW
  have hA : DataW.TrodAll enc Tryd.prog W 0 (fun _ => true) true Tryd.f8.params.toList args.toList ds p := hA0
  rw [Tryd.params8] at hA hval
  obtain ⟨v0, vs0, d0, ds0, p0, q0, hargs, rfl, rfl, h0, r0⟩ := trodAll_cons hA
  obtain ⟨v1, vs1, d1, ds1, p1, q1, rfl, rfl, rfl, h1, r1⟩ := trodAll_cons r0
  obtain ⟨v2, vs2, d2, ds2, p2, q2, rfl, rfl, rfl, h2, r2⟩ := trodAll_cons r1
  obtain ⟨rfl, rfl, rfl⟩ := trodAll_nil r2
  obtain rfl : args = #[v0, v1, v2] := by cases args; simp_all
  obtain ⟨rfl, rfl⟩ := trodVars_none hV
  simp only [List.append_nil] at hW'
  have hpost : ∀ W', Ext W W' → Rows.bitvecTruthSpec.post enc Tryd.prog Tryd.f8 false true false false W #[v0, v1, v2] (.bool true) W' := fun W' hb =>
    law_true (P := Tryd.prog) (by first | exact hW' | (have h := hW'; simp only [List.append_nil] at h; exact h)) (by first | exact hA0 | (have h := hA0; simp only [List.append_nil] at h; exact h)) (by kernel_rfl) (by kernel_rfl) (by kernel_rfl) (by kernel_rfl) (by kernel_rfl) Tryd.underlying4 rfl rfl rfl rfl hb
  have hTab := tab_of_laid hL
  clear hW' hA0 hval0 hfz hnd hV hL
  obtain ⟨a0, rfl, _, _, w0⟩ := open_int Tryd.underlying5 (hval 0 5 v0 rfl rfl) h0
  obtain ⟨A1, l1, c1, rfl, lc1, lm1, s1, w1⟩ := slice_arg (fun (x : Bool) => Value.bool x) (fun _ => True) Tryd.underlying22 (by kernel_rfl) (el_bool Tryd.underlying4) (hval 1 22 v1 rfl rfl) h1
  obtain ⟨A2, l2, c2, rfl, lc2, lm2, s2, w2⟩ := slice_arg (fun (x : Bool) => Value.bool x) (fun _ => True) Tryd.underlying22 (by kernel_rfl) (el_bool Tryd.underlying4) (hval 2 22 v2 rfl rfl) h2
  exact (bitvecTruth_walk W hTab a0 w0 A1 l1 c1 lc1 lm1 s1 w1 A2 l2 c2 lc2 lm2 s2 w2).mono fun e W' ⟨he, hg⟩ => ⟨_, he, hpost W' hg⟩

/-- The bare row of BitvecTruth: under the listed table, for every input the law returns true, and its arguments read as before. -/
theorem bitvecTruth_row : Rows.BitvecTruthSaid :=
  OpenClaim.holds_of_wide 8 Tryd.f8 rfl rfl rfl rfl rfl rfl rfl ⟨rfl, rfl, rfl, rfl, rfl⟩ rfl rfl rfl rfl rfl (by kernel_rfl) Tryd.func8 (by kernel_rfl)
    (of_decide_eq_true (by kernel_rfl)) (by unfold Func.isWrapper; first | (rw [if_pos (by decide +kernel)]; kernel_rfl) | (rw [if_neg (by decide +kernel)]; exact ⟨rfl, rfl⟩))
    (fun os started H enc _ => bitvecTruth_lifted os started H enc)

/-- The tied card of BitvecTruth, whole: the table is what the program's text lays. -/
theorem bitvecTruth_holds : Rows.BitvecTruthCardSaid :=
  Claim7.holds_tied_plain_at .later [] [.data] true (true, "06efc1b73ad6229dfc74a67b755fcbd478fee507268fbf64ce9ced2d6a087ea1") false
    bitvecTruth_row (fun _ h => by cases h) (by kernel_rfl) (fun _ h => by cases h) bitvecTruth_row_tie rfl ⟨rfl, rfl⟩ (by kernel_rfl) rfl
    (fun f fn hf hfn => by
      obtain rfl : f = 8 := Option.some.inj ((show Tryd.prog.funcNamed "rebus/rebuslaw02.BitvecTruth" = some 8 by kernel_rfl).symm.trans hf) |>.symm
      obtain rfl : fn = Tryd.f8 := (Option.some.inj (Tryd.func8.symm.trans hfn)).symm
      exact ⟨by kernel_rfl, fun j t ht => by
        rw [Tryd.params8] at ht
        have hm : t ∈ [5, 22, 22] := by simpa using Array.mem_of_getElem? ht
        have hall : ([5, 22, 22].all fun u => !Tryd.prog.wantsStandIn u) = true := by kernel_rfl
        exact (show Tryd.prog.wantsStandIn t = false by simpa using List.all_eq_true.1 hall t hm)⟩)
    (by kernel_rfl)
end Go.Proofs.YtmjikdkdccnbaaaDoor
