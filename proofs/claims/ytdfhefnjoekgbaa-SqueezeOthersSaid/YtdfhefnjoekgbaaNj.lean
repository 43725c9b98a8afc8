/- Contracts of the functions of num and rebusref03: truths, signs, sizes, whole numbers below and above: the walks. -/
import Derived.Test.YtdfhefnjoekgbaaNi
namespace Go.Proofs.Ytdfhefnjoekgbaa
open Go.RowKit Fl

set_option maxHeartbeats 400000
def bitW (b : Bool) : Nat := if b then 4607182418800017408 else 0
theorem flag_any (b : Bool) (w : World) : Calls Try.prog 91 #[.bool b] w fun e w' => e = .returned (.float .f64 (bitW b)) ∧ w = w' := by
  cases b
  all_goals
    go_enter Try.func91, Try.ntmps91
    go_wp2
    go_ret
    exact ⟨rfl, rfl⟩
theorem eq_one {b : Nat} (h : tidy b) : (FloatKind.f64.format.order b 4607182418800017408 == some .eq) = decide (b = 4607182418800017408) := by
  rw [c_eq h.1.nn nn_one, decide_eq_decide]
  exact ⟨fun e => tidy_key h ⟨fin_one, by decide, fun h => absurd h (by decide)⟩ e, fun e => by rw [e]⟩
theorem eq_zero' {b : Nat} (h : tidy b) : (FloatKind.f64.format.order b 0 == some .eq) = decide (b = 0) := by
  rw [eq_zero h.1.nn, decide_eq_decide]
  exact ⟨h.2.2, fun e => by rw [e]; decide⟩
theorem truth_any (b : Nat) (h : tidy b) (w : World) : Calls Try.prog 85 #[.float .f64 b] w fun e w' => e = .returned (.tuple #[.bool (decide (b = 4607182418800017408)), .bool (decide (b = 0 ∨ b = 4607182418800017408))]) ∧ w = w' := by
  have c1 := eq_one h
  have c0 := eq_zero' h
  by_cases h0 : b = 0
  · rw [decide_eq_true (Or.inl h0)]
    have h1 : ¬ b = 4607182418800017408 := by rw [h0]; decide
    rw [decide_eq_false h1] at c1 ⊢
    rw [decide_eq_true h0] at c0
    clear h0 h1 h
    go_enter Try.func85, Try.ntmps85
    go_wp2
    go_ret2
    exact ⟨rfl, rfl⟩
  · have e : decide (b = 0 ∨ b = 4607182418800017408) = decide (b = 4607182418800017408) := by rw [decide_eq_decide]; exact ⟨fun h => h.resolve_left h0, Or.inr⟩
    rw [e]
    rw [decide_eq_false h0] at c0
    clear e h h0
    generalize decide (b = 4607182418800017408) = d at *
    go_enter Try.func85, Try.ntmps85
    go_wp2
    go_ret2
    exact ⟨rfl, rfl⟩
theorem gt_zero {b : Nat} (h : nn b) : (FloatKind.f64.format.order b 0 == some .gt) = decide (0 < key b) := by
  rw [c_gt h nn_zero, key_zero]
theorem lt_zero {b : Nat} (h : nn b) : (FloatKind.f64.format.order b 0 == some .lt) = decide (key b < 0) := by
  rw [c_lt h nn_zero, key_zero]
/-- a sign -/
def sgN (b : Nat) : Nat := if 0 < key b then 4607182418800017408 else if key b < 0 then 13830554455654793216 else 0
def absN (b : Nat) : Nat := if key b < 0 then opp b else b
/-! ### math.Floor, math.Ceil -/
end Go.Proofs.Ytdfhefnjoekgbaa
