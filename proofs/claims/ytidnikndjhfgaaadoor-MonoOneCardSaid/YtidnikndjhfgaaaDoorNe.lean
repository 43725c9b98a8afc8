/- Contracts of the functions of num and rebusref03: differences and products of whole numbers, rests of words, powers. -/
import Derived.Test.YtidnikndjhfgaaaDoorN
namespace Go.Proofs.YtidnikndjhfgaaaDoor
open Go.RowKit Fl

set_option maxHeartbeats 400000
theorem signs (a : Int) : a = if decide (a < 0) then -(a.natAbs : Int) else (a.natAbs : Int) := by
  by_cases h : a < 0 <;> simp [h] <;> omega
theorem G_mul (a b : Int) : G (a * b) ↔ (a.natAbs : Int) * (b.natAbs : Int) ≤ 9007199254740992 := by
  have h : ((a * b).natAbs : Int) = (a.natAbs : Int) * (b.natAbs : Int) := by rw [Int.natAbs_mul, Int.natCast_mul]
  rw [← h]
  unfold G
  omega
theorem mul_signs (a b : Int) : (if decide (a < 0) ^^ decide (b < 0) then -((a.natAbs : Int) * (b.natAbs : Int)) else (a.natAbs : Int) * (b.natAbs : Int)) = a * b := by
  conv => rhs; rw [signs a, signs b]
  by_cases h : a < 0 <;> by_cases k : b < 0 <;> simp [h, k, Int.neg_mul, Int.mul_neg]
end Go.Proofs.YtidnikndjhfgaaaDoor
