/- Contract of bitvec.Truth. -/
import Derived.Test.YtidnikndjhfgaaaDoorPs
import Derived.StillTailTactics
namespace Go.Proofs.YtidnikndjhfgaaaDoor
open Go.RowKit Bv

namespace Bv
def ttb (t : Nat) (x y : Bool) : Bool := t.testBit (2 * x.toNat + y.toNat)
def ttL (t : Nat) (x y : List Bool) : List Bool := tabL x.length fun i => ttb t (x.getD i false) (y.getD i false)
/-- what comes of two words by a table's four masks -/
def tw (m0 m1 m2 m3 a b : Nat) : Nat := (((m0 &&& (18446744073709551615 - a) &&& (18446744073709551615 - b)) ||| (m1 &&& (18446744073709551615 - a) &&& b)) ||| (m2 &&& a &&& (18446744073709551615 - b))) ||| (m3 &&& a &&& b)
def ttW (t : Nat) (x y : List Bool) (i : Nat) : Nat := tw (cw (t.testBit 0)) (cw (t.testBit 1)) (cw (t.testBit 2)) (cw (t.testBit 3)) (wd x i) (wd y i)
theorem tw_lt (m0 m1 m2 m3 a b : Nat) (h0 : m0 < 18446744073709551616) (h1 : m1 < 18446744073709551616) (h2 : m2 < 18446744073709551616) (h3 : m3 < 18446744073709551616) : tw m0 m1 m2 m3 a b < 18446744073709551616 := by
  unfold tw
  refine Nat.or_lt_two_pow (n := 64) (Nat.or_lt_two_pow (n := 64) (Nat.or_lt_two_pow (n := 64) ?_ ?_) ?_) ?_
  · exact Nat.lt_of_le_of_lt (Nat.le_trans Nat.and_le_left Nat.and_le_left) h0
  · exact Nat.lt_of_le_of_lt (Nat.le_trans Nat.and_le_left Nat.and_le_left) h1
  · exact Nat.lt_of_le_of_lt (Nat.le_trans Nat.and_le_left Nat.and_le_left) h2
  · exact Nat.lt_of_le_of_lt (Nat.le_trans Nat.and_le_left Nat.and_le_left) h3
theorem compl_bit (a j : Nat) (ha : a < 18446744073709551616) (hj : j < 64) : (18446744073709551615 - a).testBit j = !a.testBit j := by
  have e : 18446744073709551615 - a = 2 ^ 64 - (a + 1) := by omega
  rw [e, Nat.testBit_two_pow_sub_succ ha, decide_eq_true hj, Bool.true_and]
theorem ttW_bit (t : Nat) (x y : List Bool) (i j : Nat) (hj : j < 64) : (ttW t x y i).testBit j = ttb t (x.getD (64 * i + j) false) (y.getD (64 * i + j) false) := by
  unfold ttW tw
  simp only [Nat.testBit_or, Nat.testBit_and, compl_bit _ _ (wd_lt _ _) hj, cw_bit _ _ hj, wd_testBit, decide_eq_true hj, Bool.true_and]
  unfold ttb
  cases x.getD (64 * i + j) false <;> cases y.getD (64 * i + j) false <;> simp
theorem ttW_trim (t : Nat) (x y : List Bool) : trimW (fillN (ttW t x y) (wc x.length) (wc x.length)) x.length = words (ttL t x y) := by
  have hl : (ttL t x y).length = x.length := tabL_length _ _
  have h := fillN_trim (ttW t x y) (ttL t x y) (fun i _ => tw_lt _ _ _ _ _ _ (cw_lt _) (cw_lt _) (cw_lt _) (cw_lt _)) (fun i j _ hj hlt => by
    rw [hl] at hlt
    rw [ttW_bit t x y i j hj]
    unfold ttL
    rw [tabL_getD, decide_eq_true hlt, Bool.true_and])
  rw [hl] at h
  exact h
theorem u8_flag (t k : Nat) (ht : t < 256) : bits .and .u8 ((t : Int) / 2 ^ k) 1 = ((t.testBit k).toNat : Int) := by
  have h1 : ((t : Int) / 2 ^ k) = ((t / 2 ^ k : Nat) : Int) := by simp
  have h2 : t / 2 ^ k ≤ t := Nat.div_le_self _ _
  have h := u8_and_nat (t / 2 ^ k) 1 (by omega) (by decide)
  rw [h1]
  refine Eq.trans h ?_
  rw [Nat.testBit_eq_decide_div_mod_eq, Nat.and_one_is_mod]
  have h3 : t / 2 ^ k % 2 = 0 ∨ t / 2 ^ k % 2 = 1 := by omega
  rcases h3 with h3 | h3 <;> rw [h3] <;> rfl
theorem neg_flag (b : Bool) : IntKind.u64.wrap (-((b.toNat : Nat) : Int)) = ((cw b : Nat) : Int) := by cases b <;> decide
end Bv

set_option maxHeartbeats 1600000
end Go.Proofs.YtidnikndjhfgaaaDoor
