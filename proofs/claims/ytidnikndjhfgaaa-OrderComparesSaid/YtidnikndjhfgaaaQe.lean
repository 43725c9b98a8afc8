/- Contracts of rebusref05: Least, Fits. -/
import Derived.Test.YtidnikndjhfgaaaQ
namespace Go.Proofs.Ytidnikndjhfgaaa
open Go.RowKit Bv Fl

theorem rank_at {l : List Nat} {j : Nat} (hw : whole (l.getD j 0)) : rankI (wn (l.getD j 0)) = rankI (trn (l.getD j 0)) := by rw [wn_whole hw]
theorem lm_1 {l : List Nat} {j : Nat} (hw : whole (l.getD j 0)) (h : trn (l.getD j 0) = 0 ∨ trn (l.getD j 0) = 1) : lm l (j + 1) = lm l j := by
  have := lm_ge l j
  have h1 := rankI_le1.2 h
  show max _ _ = _
  rw [rank_at hw]; omega
theorem lm_2 {l : List Nat} {j : Nat} (hw : whole (l.getD j 0)) (h0 : trn (l.getD j 0) ≠ 0) (h1 : trn (l.getD j 0) ≠ 1) (h : -128 ≤ trn (l.getD j 0) ∧ trn (l.getD j 0) ≤ 127) : lm l (j + 1) = if lm l j < 2 then 2 else lm l j := by
  have := lm_ge l j
  have h3 := rankI_le2.2 h
  have h4 : ¬ rankI (trn (l.getD j 0)) ≤ 1 := fun e => by have := rankI_le1.1 e; omega
  show max _ _ = _
  rw [rank_at hw]; split <;> omega
theorem lm_3 {l : List Nat} {j : Nat} (hw : whole (l.getD j 0)) (h : ¬ (-128 ≤ trn (l.getD j 0) ∧ trn (l.getD j 0) ≤ 127)) : lm l (j + 1) = 3 := by
  have := lm_le l j
  have h3 : ¬ rankI (trn (l.getD j 0)) ≤ 2 := fun e => h (rankI_le2.1 e)
  have h4 := rankI_le (trn (l.getD j 0))
  show max _ _ = _
  rw [rank_at hw]; omega

set_option maxHeartbeats 1000000
end Go.Proofs.Ytidnikndjhfgaaa
