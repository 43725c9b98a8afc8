/- EnvNobody, for every input: the row. -/
import Derived.Test.YtdkgiklbmbkdaaaEf
import Derived.Test.YtdkgiklbmbkdaaaOs
namespace Go.Proofs.Ytdkgiklbmbkdaaa
open Go.ChangeShapes Go.WideShapes Go.RowKit Bv Fl
set_option maxRecDepth 100000 in
theorem envNobody_lifted (os : Os) (started : os.Started) (H : Type) (enc : TypeId × Value → H) :
    ReturnsInHanded {} Try.checked os 4 .any (Rows.envNobodySpec.pre6 enc Try.prog Try.f4 Rows.envNobodyRow.domain false) (Rows.envNobodySpec.post enc Try.prog Try.f4 false true false false) := by
  refine returnsInHanded_of_change (C := Try.checked) own started (by kernel_rfl) Try.func4
    (ChangeSpec.witness6 (enc := enc) (C := Try.checked) false ⟨#[], #[.string ByteArray.empty], []⟩ 8 (by kernel_rfl) (by kernel_rfl) (by kernel_rfl) (by kernel_rfl)) ?_
  intro W base args ds gs before hval0 hW hcnd _
  have hval : ∀ (j : Nat) t v, Try.f4.params[j]? = some t → args[j]? = some v → Value.okWide Try.prog W .any base t v := hval0
  have hW' := hW
  obtain ⟨p, q, hA0, hV, rfl, hfz, hnd⟩ := hW
  have hA : DataW.TrodAll enc Try.prog W 0 (fun _ => true) true Try.f4.params.toList args.toList ds p := hA0
  rw [Try.params4] at hA hval
  obtain ⟨v0, vs0, d0, ds0, p0, q0, hargs, rfl, rfl, h0, r0⟩ := trodAll_cons hA
  obtain ⟨rfl, rfl, rfl⟩ := trodAll_nil r0
  obtain rfl : args = #[v0] := by cases args; simp_all
  obtain ⟨rfl, rfl⟩ := trodVars_none hV
  simp only [List.append_nil] at hW'
  have hpost : ∀ W', Ext W W' → Rows.envNobodySpec.post enc Try.prog Try.f4 false true false false W #[v0] (.bool true) W' := fun W' hb =>
    law_true (P := Try.prog) (by first | exact hW' | (have h := hW'; simp only [List.append_nil] at h; exact h)) (by first | exact hA0 | (have h := hA0; simp only [List.append_nil] at h; exact h)) (by kernel_rfl) (by kernel_rfl) (by kernel_rfl) (by kernel_rfl) (by kernel_rfl) Try.underlying4 rfl rfl rfl rfl hb
  clear hW' hA0 hval0 hfz hnd hV
  obtain ⟨a0, rfl, _, _, w0⟩ := ChangeMaps.open_string Try.underlying9 (hval 0 9 v0 rfl rfl) h0
  exact (envNobody_walk W a0 w0).mono fun e W' ⟨he, hg⟩ => ⟨_, he, hpost W' hg⟩

/-- The statement of EnvNobody, whole: for every input the law returns true, and its arguments read as before. -/
theorem envNobody_holds : Rows.EnvNobodySaid :=
  OpenClaim.holds_of_wide 4 Try.f4 rfl rfl rfl rfl rfl rfl rfl ⟨rfl, rfl, rfl, rfl, rfl⟩ rfl rfl rfl rfl rfl (by kernel_rfl) Try.func4 (by kernel_rfl)
    (of_decide_eq_true (by kernel_rfl)) (by unfold Func.isWrapper; first | (rw [if_pos (by decide +kernel)]; kernel_rfl) | (rw [if_neg (by decide +kernel)]; exact ⟨rfl, rfl⟩))
    (fun os started H enc _ => envNobody_lifted os started H enc)
end Go.Proofs.Ytdkgiklbmbkdaaa
