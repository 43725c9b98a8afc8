/- Plain facts: how many binary digits of a word are 1; the first one; digits taken two by two.
   Plain facts: the lowest binary digit; running parities; how many are true, which, and the first.
   Contracts of math/bits: OnesCount64, TrailingZeros64. -/
import Derived.Test.YtdfhefnjoekgbaaB
namespace Go.Proofs.Ytdfhefnjoekgbaa
open Go.RowKit Bv

namespace Bv
/-- the number with the digits ds to the base b, the lowest first -/
def dval (b : Nat) : List Nat → Nat
  | [] => 0
  | d :: ds => d + b * dval b ds
def dpair : List Nat → List Nat
  | a :: b :: t => (a + b) :: dpair t
  | l => l
/-- the mask that keeps every other digit of n pairs -/
def dmsk (b : Nat) : Nat → Nat
  | 0 => 0
  | n + 1 => (b - 1) + b * b * dmsk b n
/-- the n lowest binary digits -/
def dig (x : Nat) : Nat → List Nat
  | 0 => []
  | n + 1 => x % 2 :: dig (x / 2) n
/-- how many of the n lowest digits are 1 -/
def pop (x : Nat) : Nat → Nat
  | 0 => 0
  | n + 1 => pop x n + (x.testBit n).toNat
end Bv
end Go.Proofs.Ytdfhefnjoekgbaa

namespace Go.Proofs.Ytdfhefnjoekgbaa
open Go.RowKit Bv

namespace Bv
/-- how many of the first k are true -/
def cnt (l : List Bool) : Nat → Nat
  | 0 => 0
  | k + 1 => cnt l k + (l.getD k false).toNat
theorem getD_past (l : List Bool) (k : Nat) (h : l.length ≤ k) : l.getD k false = false := by simp [List.getD, List.getElem?_eq_none h]
/-- the places below m that are true -/
def onesL (l : List Bool) (m : Nat) : List Nat := (List.range m).filter fun i => l.getD i false
/-- the first place that is true; the length, if none is -/
def fst1 (l : List Bool) : Nat := l.findIdx id
/-- whether an odd number of the first n is true -/
def px (f : Nat → Bool) : Nat → Bool
  | 0 => false
  | n + 1 => xor (px f n) (f n)
/-- the word after rounds up to s: each digit the parity of s digits -/
def pxW (f : Nat → Bool) (s y : Nat) : Prop := ∀ j, j < 64 → y.testBit j = xor (px f (j + 1)) (px f (j + 1 - s))
def cw (b : Bool) : Nat := if b then 18446744073709551615 else 0
theorem cw_bit (b : Bool) (j : Nat) (hj : j < 64) : (cw b).testBit j = b := by
  cases b
  · simp [cw]
  · show (18446744073709551615 : Nat).testBit j = true
    rw [show (18446744073709551615 : Nat) = 2 ^ 64 - 1 by rfl, Nat.testBit_two_pow_sub_one, decide_eq_true hj]
theorem cw_lt (b : Bool) : cw b < 18446744073709551616 := by cases b <;> decide
/-- a list by its places -/
def tabL (n : Nat) (f : Nat → Bool) : List Bool := (List.range n).map f
theorem tabL_length (n : Nat) (f : Nat → Bool) : (tabL n f).length = n := by simp [tabL]
theorem tabL_getD (n : Nat) (f : Nat → Bool) (j : Nat) : (tabL n f).getD j false = (decide (j < n) && f j) := by
  by_cases h : j < n
  · simp [tabL, List.getD, h]
  · rw [decide_eq_false h, getD_past _ _ (by rw [tabL_length]; omega)]; rfl
theorem tabL_ext (n : Nat) (f g : Nat → Bool) (h : ∀ j, j < n → f j = g j) : tabL n f = tabL n g := by
  unfold tabL
  exact List.map_congr_left fun j hj => h j (by simpa using hj)
/-- the parities; whether one is true up to a place -/
def parL (l : List Bool) : List Bool := tabL l.length fun i => px (fun j => l.getD j false) (i + 1)
def anyL (l : List Bool) : List Bool := tabL l.length fun i => decide (fst1 l ≤ i)
end Bv
end Go.Proofs.Ytdfhefnjoekgbaa

namespace Go.Proofs.Ytdfhefnjoekgbaa
open Go.RowKit Bv

set_option maxHeartbeats 400000
/-- the table of math/bits, as it is laid -/
def tz (k : Nat) : Nat := [0, 1, 56, 2, 57, 49, 28, 3, 61, 58, 42, 50, 38, 29, 17, 4, 62, 47, 59, 36, 45, 43, 51, 22, 53, 39, 33, 30, 24, 18, 12, 5, 63, 55, 48, 27, 60, 41, 37, 16, 46, 35, 44, 21, 52, 32, 23, 11, 54, 26, 40, 15, 34, 20, 31, 10, 25, 14, 19, 9, 13, 8, 7, 6].getD k 0
end Go.Proofs.Ytdfhefnjoekgbaa
