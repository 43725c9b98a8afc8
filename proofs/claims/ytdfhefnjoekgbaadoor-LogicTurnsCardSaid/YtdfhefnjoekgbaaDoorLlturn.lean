/- LogicTurns, for every input: the tied card. -/
import Derived.Test.YtdfhefnjoekgbaaDoorRo
namespace Go.Proofs.YtdfhefnjoekgbaaDoor
open Go.ChangeShapes Go.WideShapes Go.RowKit Bv
set_option maxRecDepth 100000 in
theorem logicTurns_lifted (os : Os) (started : os.Started) (H : Type) (enc : TypeId × Value → H) :
    ReturnsInHanded {} Tryd.checked os 3 .any (fun w args => (Rows.logicTurnsSpec.pre enc Tryd.prog Tryd.f3 [] false w args ∧ laidMetH Tryd.prog laid1 w) ∧ sizedMet enc Tryd.prog Tryd.f3 (OpenSpec.ofChange Rows.logicTurnsSpec) false w args) (Rows.logicTurnsSpec.post enc Tryd.prog Tryd.f3 false true false false) := by
  refine returnsInHanded_of_change_and (C := Tryd.checked) (X := fun w _ => laidMetH Tryd.prog laid1 w) (fun _ _ _ hh h => h.of_heap hh) own started (by kernel_rfl) Tryd.func3
    (ChangeSpec.witness_shaped (enc := enc) (C := Tryd.checked) (os := os) (X := fun w _ => laidMetH Tryd.prog laid1 w) false (World.doorLaid Tryd.prog 400 os) #[.slice none 0 0, .slice none 0 0] 8 rfl (World.shaped_of_RefB (by kernel_rfl) (by kernel_rfl)) (by kernel_rfl) (by kernel_rfl) (by kernel_rfl) (door_met os _)) ?_
  intro W base args ds gs before hval0 hW _ _ hL _
  have hval : ∀ (j : Nat) t v, Tryd.f3.params[j]? = some t → args[j]? = some v → Value.okWide Tryd.prog W .any base t v := hval0
  have hW' := hW
  obtain ⟨p, q, hA0, hV, rfl, hfz, hnd⟩ := hW
  have hA : DataW.TrodAll enc Tryd.prog W 0 (fun _ => true) true Tryd.f3.params.toList args.toList ds p := hA0
  rw [Tryd.params3] at hA hval
  obtain ⟨v0, vs0, d0, ds0, p0, q0, hargs, rfl, rfl, h0, r0⟩ := trodAll_cons hA
  obtain ⟨v1, vs1, d1, ds1, p1, q1, rfl, rfl, rfl, h1, r1⟩ := trodAll_cons r0
  obtain ⟨rfl, rfl, rfl⟩ := trodAll_nil r1
  obtain rfl : args = #[v0, v1] := by cases args; simp_all
  obtain ⟨rfl, rfl⟩ := trodVars_none hV
  simp only [List.append_nil] at hW'
  have hpost : ∀ W', Ext W W' → Rows.logicTurnsSpec.post enc Tryd.prog Tryd.f3 false true false false W #[v0, v1] (.bool true) W' := fun W' hb =>
    law_true (P := Tryd.prog) (by first | exact hW' | (have h := hW'; simp only [List.append_nil] at h; exact h)) (by first | exact hA0 | (have h := hA0; simp only [List.append_nil] at h; exact h)) (by kernel_rfl) (by kernel_rfl) (by kernel_rfl) (by kernel_rfl) (by kernel_rfl) Tryd.underlying4 rfl rfl rfl rfl hb
  have hTab := tab_of_laid hL
  clear hW' hA0 hval0 hfz hnd hV hL
  obtain ⟨A0, l0, c0, rfl, lc0, lm0, s0, w0⟩ := slice_arg (fun (x : Bool) => Value.bool x) (fun _ => True) Tryd.underlying22 (by kernel_rfl) (el_bool Tryd.underlying4) (hval 0 22 v0 rfl rfl) h0
  obtain ⟨A1, l1, c1, rfl, lc1, lm1, s1, w1⟩ := slice_arg (fun (x : Bool) => Value.bool x) (fun _ => True) Tryd.underlying22 (by kernel_rfl) (el_bool Tryd.underlying4) (hval 1 22 v1 rfl rfl) h1
  exact (logicTurns_walk W hTab A0 l0 c0 lc0 lm0 s0 w0 A1 l1 c1 lc1 lm1 s1 w1).mono fun e W' ⟨he, hg⟩ => ⟨_, he, hpost W' hg⟩

/-- The bare row of LogicTurns: under the listed table, for every input the law returns true, and its arguments read as before. -/
theorem logicTurns_row : Rows.LogicTurnsSaid :=
  OpenClaim.holds_of_wide 3 Tryd.f3 rfl rfl rfl rfl rfl rfl rfl ⟨rfl, rfl, rfl, rfl, rfl⟩ rfl rfl rfl rfl rfl (by kernel_rfl) Tryd.func3 (by kernel_rfl)
    (of_decide_eq_true (by kernel_rfl)) (by unfold Func.isWrapper; first | (rw [if_pos (by decide +kernel)]; kernel_rfl) | (rw [if_neg (by decide +kernel)]; exact ⟨rfl, rfl⟩))
    (fun os started H enc _ => logicTurns_lifted os started H enc)

/-- The tied card of LogicTurns, whole: the table is what the program's text lays. -/
theorem logicTurns_holds : Rows.LogicTurnsCardSaid :=
  Claim7.holds_tied_plain_at .later [] [.data] true (true, "d0fe45d99ce26aaa64b5751afcff1810ec6d2ecaf9960e2b5229f35c360fd1c0") false
    logicTurns_row (fun _ h => by cases h) (by kernel_rfl) (fun _ h => by cases h) logicTurns_row_tie rfl ⟨rfl, rfl⟩ (by kernel_rfl) rfl
    (fun f fn hf hfn => by
      obtain rfl : f = 3 := Option.some.inj ((show Tryd.prog.funcNamed "rebus/rebuslaw12.LogicTurns" = some 3 by kernel_rfl).symm.trans hf) |>.symm
      obtain rfl : fn = Tryd.f3 := (Option.some.inj (Tryd.func3.symm.trans hfn)).symm
      exact ⟨by kernel_rfl, fun j t ht => by
        rw [Tryd.params3] at ht
        have hm : t ∈ [22, 22] := by simpa using Array.mem_of_getElem? ht
        have hall : ([22, 22].all fun u => !Tryd.prog.wantsStandIn u) = true := by kernel_rfl
        exact (show Tryd.prog.wantsStandIn t = false by simpa using List.all_eq_true.1 hall t hm)⟩)
    (by kernel_rfl)
end Go.Proofs.YtdfhefnjoekgbaaDoor
