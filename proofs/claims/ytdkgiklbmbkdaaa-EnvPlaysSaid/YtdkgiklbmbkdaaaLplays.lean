/- EnvPlays, for every input: the row. -/
import Derived.Test.YtdkgiklbmbkdaaaEr
import Derived.Test.YtdkgiklbmbkdaaaOs
namespace Go.Proofs.Ytdkgiklbmbkdaaa
open Go.ChangeShapes Go.WideShapes Go.RowKit Bv Fl
set_option maxRecDepth 100000 in
theorem envPlays_lifted (os : Os) (started : os.Started) (H : Type) (enc : TypeId × Value → H) :
    ReturnsInHanded {} Try.checked os 3 .any (Rows.envPlaysSpec.pre6 enc Try.prog Try.f3 Rows.envPlaysRow.domain false) (Rows.envPlaysSpec.post enc Try.prog Try.f3 false true false false) := by
  refine returnsInHanded_of_change (C := Try.checked) own started (by kernel_rfl) Try.func3
    (ChangeSpec.witness6 (enc := enc) (C := Try.checked) false ⟨#[], #[.slice none 0 0, .slice none 0 0], []⟩ 8 (by kernel_rfl) (by kernel_rfl) (by kernel_rfl) (by kernel_rfl)) ?_
  intro W base args ds gs before hval0 hW hcnd _
  have hval : ∀ (j : Nat) t v, Try.f3.params[j]? = some t → args[j]? = some v → Value.okWide Try.prog W .any base t v := hval0
  have hW' := hW
  obtain ⟨p, q, hA0, hV, rfl, hfz, hnd⟩ := hW
  have hA : DataW.TrodAll enc Try.prog W 0 (fun _ => true) true Try.f3.params.toList args.toList ds p := hA0
  rw [Try.params3] at hA hval
  obtain ⟨v0, vs0, d0, ds0, p0, q0, hargs, rfl, rfl, h0, r0⟩ := trodAll_cons hA
  obtain ⟨v1, vs1, d1, ds1, p1, q1, rfl, rfl, rfl, h1, r1⟩ := trodAll_cons r0
  obtain ⟨rfl, rfl, rfl⟩ := trodAll_nil r1
  obtain rfl : args = #[v0, v1] := by cases args; simp_all
  obtain ⟨rfl, rfl⟩ := trodVars_none hV
  simp only [List.append_nil] at hW'
  have hpost : ∀ W', Ext W W' → Rows.envPlaysSpec.post enc Try.prog Try.f3 false true false false W #[v0, v1] (.bool true) W' := fun W' hb =>
    law_true (P := Try.prog) (by first | exact hW' | (have h := hW'; simp only [List.append_nil] at h; exact h)) (by first | exact hA0 | (have h := hA0; simp only [List.append_nil] at h; exact h)) (by kernel_rfl) (by kernel_rfl) (by kernel_rfl) (by kernel_rfl) (by kernel_rfl) Try.underlying4 rfl rfl rfl rfl hb
  clear hW' hA0 hval0 hfz hnd hV
  obtain ⟨A0, l0, c0, rfl, lc0, lm0, s0, w0⟩ := acts_arg (hval 0 22 v0 rfl rfl) h0
  obtain ⟨A1, l1, c1, rfl, lc1, lm1, s1, w1⟩ := slice_arg (fun (x : ByteArray) => Value.string x) (fun x => x.size ≤ maxLen) Try.underlying23 (by kernel_rfl) (el_string Try.underlying9) (hval 1 23 v1 rfl rfl) h1
  exact (envPlays_walk W A0 l0 c0 s0 w0 A1 l1 c1 s1 w1).mono fun e W' ⟨he, hg⟩ => ⟨_, he, hpost W' hg⟩

/-- The statement of EnvPlays, whole: for every input the law returns true, and its arguments read as before. -/
theorem envPlays_holds : Rows.EnvPlaysSaid :=
  OpenClaim.holds_of_wide 3 Try.f3 rfl rfl rfl rfl rfl rfl rfl ⟨rfl, rfl, rfl, rfl, rfl⟩ rfl rfl rfl rfl rfl (by kernel_rfl) Try.func3 (by kernel_rfl)
    (of_decide_eq_true (by kernel_rfl)) (by unfold Func.isWrapper; first | (rw [if_pos (by decide +kernel)]; kernel_rfl) | (rw [if_neg (by decide +kernel)]; exact ⟨rfl, rfl⟩))
    (fun os started H enc _ => envPlays_lifted os started H enc)
end Go.Proofs.Ytdkgiklbmbkdaaa
