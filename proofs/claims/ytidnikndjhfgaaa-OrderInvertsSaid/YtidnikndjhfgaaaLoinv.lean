/- OrderInverts, for every input: the row. -/
import Derived.Test.YtidnikndjhfgaaaTe
import Derived.Test.YtidnikndjhfgaaaOs
namespace Go.Proofs.Ytidnikndjhfgaaa
open Go.ChangeShapes Go.WideShapes Go.RowKit Bv Fl
set_option maxRecDepth 100000 in
theorem orderInverts_lifted (os : Os) (started : os.Started) (H : Type) (enc : TypeId × Value → H) :
    ReturnsInHanded {} Try.checked os 3 .any (Rows.orderInvertsSpec.pre6 enc Try.prog Try.f3 Rows.orderInvertsRow.domain false) (Rows.orderInvertsSpec.post enc Try.prog Try.f3 false true false false) := by
  refine returnsInHanded_of_change (C := Try.checked) own started (by kernel_rfl) Try.func3
    (ChangeSpec.witness6 (enc := enc) (C := Try.checked) false ⟨#[], #[.slice none 0 0], []⟩ 8 (by kernel_rfl) (by kernel_rfl) (by kernel_rfl) (by kernel_rfl)) ?_
  intro W base args ds gs before hval0 hW hcnd _
  have hval : ∀ (j : Nat) t v, Try.f3.params[j]? = some t → args[j]? = some v → Value.okWide Try.prog W .any base t v := hval0
  have hW' := hW
  obtain ⟨p, q, hA0, hV, rfl, hfz, hnd⟩ := hW
  have hA : DataW.TrodAll enc Try.prog W 0 (fun _ => true) true Try.f3.params.toList args.toList ds p := hA0
  rw [Try.params3] at hA hval
  obtain ⟨v0, vs0, d0, ds0, p0, q0, hargs, rfl, rfl, h0, r0⟩ := trodAll_cons hA
  obtain ⟨rfl, rfl, rfl⟩ := trodAll_nil r0
  obtain rfl : args = #[v0] := by cases args; simp_all
  obtain ⟨rfl, rfl⟩ := trodVars_none hV
  simp only [List.append_nil] at hW'
  have hpost : ∀ W', Ext W W' → Rows.orderInvertsSpec.post enc Try.prog Try.f3 false true false false W #[v0] (.bool true) W' := fun W' hb =>
    law_true (P := Try.prog) (by first | exact hW' | (have h := hW'; simp only [List.append_nil] at h; exact h)) (by first | exact hA0 | (have h := hA0; simp only [List.append_nil] at h; exact h)) (by kernel_rfl) (by kernel_rfl) (by kernel_rfl) (by kernel_rfl) (by kernel_rfl) Try.underlying4 rfl rfl rfl rfl hb
  clear hW' hA0 hval0 hfz hnd hV
  obtain ⟨A0, l0, c0, rfl, lc0, lm0, s0, w0⟩ := slice_arg (fun (x : Int) => Value.int .i64 x) (fun x => (Lit.int .i64 x).wf = true) Try.underlying22 (by kernel_rfl) (el_int Try.underlying3) (hval 0 22 v0 rfl rfl) h0
  exact (orderInverts_walk W A0 l0 c0 lc0 lm0 s0 w0).mono fun e W' ⟨he, hg⟩ => ⟨_, he, hpost W' hg⟩

/-- The statement of OrderInverts, whole: for every input the law returns true, and its arguments read as before. -/
theorem orderInverts_holds : Rows.OrderInvertsSaid :=
  OpenClaim.holds_of_wide 3 Try.f3 rfl rfl rfl rfl rfl rfl rfl ⟨rfl, rfl, rfl, rfl, rfl⟩ rfl rfl rfl rfl rfl (by kernel_rfl) Try.func3 (by kernel_rfl)
    (of_decide_eq_true (by kernel_rfl)) (by unfold Func.isWrapper; first | (rw [if_pos (by decide +kernel)]; kernel_rfl) | (rw [if_neg (by decide +kernel)]; exact ⟨rfl, rfl⟩))
    (fun os started H enc _ => orderInverts_lifted os started H enc)
end Go.Proofs.Ytidnikndjhfgaaa
