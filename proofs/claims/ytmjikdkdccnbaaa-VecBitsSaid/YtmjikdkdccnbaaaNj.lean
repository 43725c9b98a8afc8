/- Contracts of the functions of num and rebusref03: truths, signs, sizes, whole numbers below and above: the walks. -/
import Derived.Test.YtmjikdkdccnbaaaNi
namespace Go.Proofs.Ytmjikdkdccnbaaa
open Go.RowKit Fl

set_option maxHeartbeats 400000
def bitW (b : Bool) : Nat := if b then 4607182418800017408 else 0
theorem flag_any (b : Bool) (w : World) : Calls Try.prog 42 #[.bool b] w fun e w' => e = .returned (.float .f64 (bitW b)) ∧ w = w' := by
  cases b
  all_goals
    go_enter Try.func42, Try.ntmps42
    go_wp2
    go_ret
    exact ⟨rfl, rfl⟩
theorem eq_one {b : Nat} (h : tidy b) : (FloatKind.f64.format.order b 4607182418800017408 == some .eq) = decide (b = 4607182418800017408) := by
  rw [c_eq h.1.nn nn_one, decide_eq_decide]
  exact ⟨fun e => tidy_key h ⟨fin_one, by decide, fun h => absurd h (by decide)⟩ e, fun e => by rw [e]⟩
theorem eq_zero' {b : Nat} (h : tidy b) : (FloatKind.f64.format.order b 0 == some .eq) = decide (b = 0) := by
  rw [eq_zero h.1.nn, decide_eq_decide]
  exact ⟨h.2.2, fun e => by rw [e]; decide⟩
theorem gt_zero {b : Nat} (h : nn b) : (FloatKind.f64.format.order b 0 == some .gt) = decide (0 < key b) := by
  rw [c_gt h nn_zero, key_zero]
theorem lt_zero {b : Nat} (h : nn b) : (FloatKind.f64.format.order b 0 == some .lt) = decide (key b < 0) := by
  rw [c_lt h nn_zero, key_zero]
/-- a sign -/
def sgN (b : Nat) : Nat := if 0 < key b then 4607182418800017408 else if key b < 0 then 13830554455654793216 else 0
def absN (b : Nat) : Nat := if key b < 0 then opp b else b
/-! ### math.Floor, math.Ceil -/
end Go.Proofs.Ytmjikdkdccnbaaa
