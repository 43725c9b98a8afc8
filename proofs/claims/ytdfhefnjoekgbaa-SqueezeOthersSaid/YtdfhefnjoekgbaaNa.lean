/- Contracts of the functions of num and rebusref03 on single words, but for the powers and the whole numbers. -/
import Derived.Test.YtdfhefnjoekgbaaRows
import Derived.Test.YtdfhefnjoekgbaaFi
import Derived.WalkKit
import Derived.WalkSpells
import Derived.WalkLawsBesides
import Derived.Lib.Hide
namespace Go.Proofs.Ytdfhefnjoekgbaa
open Go.RowKit Fl

namespace Fl
theorem key_max : key 9218868437227405311 = 9218868437227405311 := by decide
theorem key_nmax : key 18442240474082181119 = -9218868437227405311 := by decide
theorem key_zero : key 0 = 0 := by decide
theorem key_top : key 4845873199050653696 = 4845873199050653696 := by decide
theorem key_ntop : key 14069245235905429504 = -4845873199050653696 := by decide
theorem key_one : key 4607182418800017408 = 4607182418800017408 := by decide
theorem nn_max : nn 9218868437227405311 := by decide
theorem nn_nmax : nn 18442240474082181119 := by decide
theorem nn_zero : nn 0 := by decide
theorem nn_top : nn 4845873199050653696 := by decide
theorem nn_ntop : nn 14069245235905429504 := by decide
theorem nn_one : nn 4607182418800017408 := by decide
theorem fin_one : fin 4607182418800017408 := by decide
theorem key_abs (b : Nat) : key b = rung b ∨ key b = -(rung b : Int) := by unfold key; split <;> simp
theorem eq_zero {b : Nat} (h : nn b) : (FloatKind.f64.format.order b 0 == some .eq) = decide (rung b = 0) := by
  rw [c_eq h nn_zero, key_zero]
  have := key_abs b
  by_cases e : rung b = 0
  · simp [e]; omega
  · simp [e]; omega
theorem ne_zero {b : Nat} (h : nn b) : (FloatKind.f64.format.order b 0 != some .eq) = !decide (rung b = 0) := by
  rw [← eq_zero h]; rfl
/-- what Tidy makes of a word -/
def dn (b : Nat) : Nat := if fin b then norm b else 0
def de (b : Nat) : Int := if fin b then 0 else 24
theorem dn_tidy (b : Nat) (hb : b < 18446744073709551616) : tidy (dn b) := by
  unfold dn
  split
  · exact tidy_norm ‹_› hb
  · exact ⟨by decide, by decide, fun _ => rfl⟩
theorem dn_of {b : Nat} (h : fin b) : dn b = norm b := if_pos h
/-- the tests of Tidy -/
structure TidyTests (b : Nat) : Prop where
  ne : (FloatKind.f64.format.order b b != some .eq) = !decide (nn b)
  gt : (FloatKind.f64.format.order b 9218868437227405311 == some .gt) = decide (rung b = 9218868437227405312 ∧ neg b = false)
  lt : (FloatKind.f64.format.order b 18442240474082181119 == some .lt) = decide (rung b = 9218868437227405312 ∧ neg b = true)
  ge : (FloatKind.f64.format.order b 18442240474082181119 == some .gt || FloatKind.f64.format.order b 18442240474082181119 == some .eq) = decide (nn b ∧ ¬ (rung b = 9218868437227405312 ∧ neg b = true))
  le : (FloatKind.f64.format.order b 9218868437227405311 == some .lt || FloatKind.f64.format.order b 9218868437227405311 == some .eq) = decide (nn b ∧ ¬ (rung b = 9218868437227405312 ∧ neg b = false))
theorem tidy_tests (b : Nat) : TidyTests b := by
  by_cases h : nn b
  · have hr : rung b ≤ 9218868437227405312 := h
    refine ⟨?_, ?_, ?_, ?_, ?_⟩
    · rw [c_ne h h]; simp [h]
    · rw [c_gt h nn_max, key_max]; unfold key; cases neg b <;> simp <;> omega
    · rw [c_lt h nn_nmax, key_nmax]; unfold key; cases neg b <;> simp <;> omega
    · rw [c_gt h nn_nmax, c_eq h nn_nmax, key_nmax]; unfold key; cases neg b <;> simp [h] <;> first | omega | (rw [Bool.eq_iff_iff]; simp; omega)
    · rw [c_lt h nn_max, c_eq h nn_max, key_max]; unfold key; cases neg b <;> simp [h] <;> first | omega | (rw [Bool.eq_iff_iff]; simp; omega)
  · have hr : rung b ≠ 9218868437227405312 := by unfold nn at h; omega
    refine ⟨?_, ?_, ?_, ?_, ?_⟩
    · rw [c_nen (.inl h)]; simp [h]
    · rw [c_nan (.inl h)]; simp [hr]
    · rw [c_nan (.inl h)]; simp [hr]
    · rw [c_nan (.inl h), c_nan (.inl h)]; simp [h]
    · rw [c_nan (.inl h), c_nan (.inl h)]; simp [h]
/-- the three classes of words, for walks -/
theorem classes (b : Nat) : (fin b ∧ nn b ∧ rung b ≠ 9218868437227405312) ∨ (¬ fin b ∧ ¬ nn b ∧ rung b ≠ 9218868437227405312) ∨ (¬ fin b ∧ nn b ∧ rung b = 9218868437227405312) := by
  unfold fin nn; omega
end Fl

/-! ### Tidy -/
set_option maxHeartbeats 400000 in
theorem tidy_any (b : Nat) (w : World) :
    Calls Try.prog 55 #[.float .f64 b] w fun e w' => e = .returned (.tuple #[.float .f64 (dn b), .bool (decide (fin b))]) ∧ w = w' := by
  obtain ⟨c1, c2, c3, _, _⟩ := tidy_tests b
  rcases classes b with ⟨h, hn, hi⟩ | ⟨h, hn, hi⟩ | ⟨h, hn, hi⟩
  · have c4 := eq_zero hn
    rw [dn_of h]
    unfold norm
    simp only [hn, hi, false_and, decide_true, decide_false, Bool.not_true] at c1 c2 c3
    rw [decide_eq_true h]
    by_cases e : rung b = 0
    all_goals
      simp only [e, decide_true, decide_false] at c4
      first | rw [if_pos e] | rw [if_neg e]
      clear h hn hi e
      go_enter Try.func55, Try.ntmps55
      go_wp2
      go_ret2
      exact ⟨rfl, rfl⟩
  · simp only [hn, hi, false_and, decide_false, Bool.not_false] at c1 c2 c3
    unfold dn
    rw [decide_eq_false h, if_neg h]
    clear h hn hi
    go_enter Try.func55, Try.ntmps55
    go_wp2
    go_ret2
    exact ⟨rfl, rfl⟩
  · simp only [hn, decide_true, Bool.not_true] at c1
    simp only [hi, true_and] at c2 c3
    unfold dn
    rw [decide_eq_false h, if_neg h]
    cases hs : neg b
    all_goals
      simp only [hs, decide_true, Bool.false_eq_true, Bool.true_eq_false, decide_false] at c2 c3
      clear h hn hi hs
      go_enter Try.func55, Try.ntmps55
      go_wp2
      go_ret2
      exact ⟨rfl, rfl⟩

end Go.Proofs.Ytdfhefnjoekgbaa
