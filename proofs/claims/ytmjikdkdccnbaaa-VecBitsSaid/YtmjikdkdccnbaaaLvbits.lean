/- VecBits, for every input: the row. -/
import Derived.Test.YtmjikdkdccnbaaaVr
namespace Go.Proofs.Ytmjikdkdccnbaaa
open Go.ChangeShapes Go.WideShapes Go.RowKit Bv Fl

set_option maxHeartbeats 1000000
set_option maxRecDepth 100000 in
theorem vecBits_walk (w : World) (A : Option Addr) (b : List Bool) (c : Nat) (hc : b.length ≤ c) (_ : c ≤ maxLen) (hs : Sl w 1 A b.length (bools b)) (_ : ∀ x ∈ b, True) (A' : Option Addr) (s : List Int) (c' : Nat) (_ : s.length ≤ c') (_ : c' ≤ maxLen) (hs' : Sl w 1 A' s.length (i8s s)) (hw : ∀ x ∈ s, (Lit.int .i8 x).wf = true) :
    Calls Try.prog 7 #[.slice A b.length c, .slice A' s.length c'] w fun e w' => e = .returned (.bool true) ∧ Ext w w' := by
  have hw' : ∀ x ∈ s, -128 ≤ x ∧ x ≤ 127 := fun x hx => by
    have h := hw x hx
    simp [Lit.wf, IntKind.min, IntKind.max, IntKind.signed, IntKind.bits] at h
    omega
  by_cases h5 : b.length ≤ 500
  · by_cases h6 : s.length ≤ 500
    · exact vecBits_main w A b c hc hs A' s c' hs' hw' h5 h6
    · clear hs hs' hw hw'
      go_enter Try.func7, Try.ntmps7
      go_wp2_with fail
      refine (awake_any _).mono ?_
      rintro e w1 ⟨rfl, hx⟩
      go_wp2
      go_ret
      exact ⟨rfl, hx⟩
  · clear hs hs' hw hw'
    go_enter Try.func7, Try.ntmps7
    go_wp2_with fail
    refine (awake_any _).mono ?_
    rintro e w1 ⟨rfl, hx⟩
    go_wp2
    go_ret
    exact ⟨rfl, hx⟩
set_option maxRecDepth 100000 in
theorem vecBits_lifted (os : Os) (started : os.Started) (H : Type) (enc : TypeId × Value → H) :
    ReturnsInHanded {} Try.checked os 7 .any (Rows.vecBitsSpec.pre6 enc Try.prog Try.f7 Rows.vecBitsRow.domain false) (Rows.vecBitsSpec.post enc Try.prog Try.f7 false true false false) := by
  refine returnsInHanded_of_change (C := Try.checked) own started (by kernel_rfl) Try.func7
    (ChangeSpec.witness6 (enc := enc) (C := Try.checked) false ⟨#[], #[.slice none 0 0, .slice none 0 0], []⟩ 8 (by kernel_rfl) (by kernel_rfl) (by kernel_rfl) (by kernel_rfl)) ?_
  intro W base args ds gs before hval0 hW hcnd _
  have hval : ∀ (j : Nat) t v, Try.f7.params[j]? = some t → args[j]? = some v → Value.okWide Try.prog W .any base t v := hval0
  have hW' := hW
  obtain ⟨p, q, hA0, hV, rfl, hfz, hnd⟩ := hW
  have hA : DataW.TrodAll enc Try.prog W 0 (fun _ => true) true Try.f7.params.toList args.toList ds p := hA0
  rw [Try.params7] at hA hval
  obtain ⟨v0, vs0, d0, ds0, p0, q0, hargs, rfl, rfl, h0, r0⟩ := trodAll_cons hA
  obtain ⟨v1, vs1, d1, ds1, p1, q1, rfl, rfl, rfl, h1, r1⟩ := trodAll_cons r0
  obtain ⟨rfl, rfl, rfl⟩ := trodAll_nil r1
  obtain rfl : args = #[v0, v1] := by cases args; simp_all
  obtain ⟨rfl, rfl⟩ := trodVars_none hV
  simp only [List.append_nil] at hW'
  have hpost : ∀ W', Ext W W' → Rows.vecBitsSpec.post enc Try.prog Try.f7 false true false false W #[v0, v1] (.bool true) W' := fun W' hb =>
    law_true (P := Try.prog) (by first | exact hW' | (have h := hW'; simp only [List.append_nil] at h; exact h)) (by first | exact hA0 | (have h := hA0; simp only [List.append_nil] at h; exact h)) (by kernel_rfl) (by kernel_rfl) (by kernel_rfl) (by kernel_rfl) (by kernel_rfl) Try.underlying4 rfl rfl rfl rfl hb
  clear hW' hA0 hval0 hfz hnd hV
  obtain ⟨A0, l0, c0, rfl, lc0, lm0, s0, w0⟩ := slice_arg (fun (x : Bool) => Value.bool x) (fun _ => True) Try.underlying64 (by kernel_rfl) (el_bool Try.underlying4) (hval 0 64 v0 rfl rfl) h0
  obtain ⟨A1, l1, c1, rfl, lc1, lm1, s1, w1⟩ := slice_arg (fun (x : Int) => Value.int .i8 x) (fun x => (Lit.int .i8 x).wf = true) Try.underlying30 (by kernel_rfl) (el_int Try.underlying50) (hval 1 30 v1 rfl rfl) h1
  exact (vecBits_walk W A0 l0 c0 lc0 lm0 s0 w0 A1 l1 c1 lc1 lm1 s1 w1).mono fun e W' ⟨he, hg⟩ => ⟨_, he, hpost W' hg⟩

/-- The statement of VecBits, whole: for every input the law returns true, and its arguments read as before. -/
theorem vecBits_holds : Rows.VecBitsSaid :=
  OpenClaim.holds_of_wide 7 Try.f7 rfl rfl rfl rfl rfl rfl rfl ⟨rfl, rfl, rfl, rfl, rfl⟩ rfl rfl rfl rfl rfl (by kernel_rfl) Try.func7 (by kernel_rfl)
    (of_decide_eq_true (by kernel_rfl)) (by unfold Func.isWrapper; first | (rw [if_pos (by decide +kernel)]; kernel_rfl) | (rw [if_neg (by decide +kernel)]; exact ⟨rfl, rfl⟩))
    (fun os started H enc _ => vecBits_lifted os started H enc)
end Go.Proofs.Ytmjikdkdccnbaaa
