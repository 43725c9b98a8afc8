/- Plain facts: the lowest binary digit; running parities; how many are true, which, and the first. -/
import Derived.Test.YtmjikdkdccnbaaaDoorPo
import Derived.Test.YtmjikdkdccnbaaaDoorBm
namespace Go.Proofs.YtmjikdkdccnbaaaDoor
open Go.RowKit Bv

namespace Bv
/-- a number is an odd one times a power of two -/
theorem odd_part : ∀ x : Nat, x ≠ 0 → ∃ t q, x = 2 ^ t * (2 * q + 1)
  | x, h => by
    by_cases h2 : x % 2 = 1
    · exact ⟨0, x / 2, by simp; omega⟩
    · obtain ⟨t, q, e⟩ := odd_part (x / 2) (by omega)
      refine ⟨t + 1, q, ?_⟩
      rw [Nat.pow_succ, Nat.mul_comm (2 ^ t) 2, Nat.mul_assoc, ← e]
      omega
  termination_by x => x
theorem odd_bit (t q j : Nat) : (2 ^ t * (2 * q + 1)).testBit j = if j < t then false else (2 * q + 1).testBit (j - t) := by
  have h := Nat.testBit_two_pow_mul_add (i := t) (2 * q + 1) (Nat.two_pow_pos t) j
  simp only [Nat.add_zero, Nat.zero_testBit] at h
  exact h
theorem pred_bit (t q j : Nat) : (2 ^ t * (2 * q + 1) - 1).testBit j = if j < t then true else (2 * q).testBit (j - t) := by
  have hp := Nat.two_pow_pos t
  have e : 2 ^ t * (2 * q + 1) - 1 = 2 ^ t * (2 * q) + (2 ^ t - 1) := by rw [Nat.mul_add, Nat.mul_one]; omega
  rw [e, Nat.testBit_two_pow_mul_add _ (by omega)]
  by_cases h : j < t
  · rw [if_pos h, if_pos h, Nat.testBit_two_pow_sub_one, decide_eq_true h]
  · rw [if_neg h, if_neg h]
theorem odd_bits (q i : Nat) : (2 * q + 1).testBit i = (decide (i = 0) || (2 * q).testBit i) := by
  cases i with
  | zero => simp
  | succ i => rw [Nat.testBit_succ, Nat.testBit_succ, show (2 * q + 1) / 2 = q by omega, show 2 * q / 2 = q by omega]; simp
/-- x & -x is the lowest digit -/
theorem low_bit (t q : Nat) (h : 2 ^ t * (2 * q + 1) < 2 ^ 64) : 2 ^ t * (2 * q + 1) &&& (2 ^ 64 - 2 ^ t * (2 * q + 1)) = 2 ^ t := by
  have hp := Nat.two_pow_pos t
  have h1 : 0 < 2 ^ t * (2 * q + 1) := Nat.mul_pos hp (by omega)
  have ht : t < 64 := by
    rcases Nat.lt_or_ge t 64 with h' | h'
    · exact h'
    · have := Nat.pow_le_pow_right (n := 2) (by decide) h'
      have := Nat.le_mul_of_pos_right (2 ^ t) (show 0 < 2 * q + 1 by omega)
      omega
  apply Nat.eq_of_testBit_eq
  intro j
  have e : 2 ^ 64 - 2 ^ t * (2 * q + 1) = 2 ^ 64 - ((2 ^ t * (2 * q + 1) - 1) + 1) := by omega
  rw [Nat.testBit_and, e, Nat.testBit_two_pow_sub_succ (by omega), odd_bit, pred_bit, Nat.testBit_two_pow]
  by_cases hj : j < t
  · rw [if_pos hj, decide_eq_false (show ¬ t = j by omega)]; rfl
  · rw [if_neg hj, if_neg hj, odd_bits]
    by_cases e2 : t = j
    · subst e2; simp [ht]
    · rw [decide_eq_false e2, decide_eq_false (by omega), Bool.false_or]
      cases (2 * q).testBit (j - t) <;> simp
/-- x & (x - 1) drops it -/
theorem drop_bit (t q : Nat) : 2 ^ t * (2 * q + 1) &&& (2 ^ t * (2 * q + 1) - 1) = 2 ^ t * (2 * q) := by
  apply Nat.eq_of_testBit_eq
  intro j
  have h := Nat.testBit_two_pow_mul_add (i := t) (2 * q) (Nat.two_pow_pos t) j
  simp only [Nat.add_zero, Nat.zero_testBit] at h
  rw [Nat.testBit_and, odd_bit, pred_bit, h, odd_bits]
  by_cases hj : j < t
  · rw [if_pos hj, if_pos hj, if_pos hj]; rfl
  · rw [if_neg hj, if_neg hj, if_neg hj]
    by_cases e2 : j - t = 0
    · rw [e2]; simp
    · rw [decide_eq_false e2, Bool.false_or, Bool.and_self]

/-- how many of the first k are true -/
def cnt (l : List Bool) : Nat → Nat
  | 0 => 0
  | k + 1 => cnt l k + (l.getD k false).toNat
theorem cnt_le (l : List Bool) (k : Nat) : cnt l k ≤ k := by
  induction k with
  | zero => exact Nat.le_refl _
  | succ k ih => have := Bool.toNat_le (l.getD k false); rw [cnt]; omega
theorem cnt_word (l : List Bool) (i r : Nat) (h : r ≤ 64) : cnt l (64 * i + r) = cnt l (64 * i) + pop (wd l i) r := by
  induction r with
  | zero => rfl
  | succ r ih =>
    rw [← Nat.add_assoc, cnt, ih (by omega), pop, wd_testBit, decide_eq_true (by omega), Bool.true_and]
    omega
theorem getD_past (l : List Bool) (k : Nat) (h : l.length ≤ k) : l.getD k false = false := by simp [List.getD, List.getElem?_eq_none h]
theorem cnt_past (l : List Bool) (k : Nat) : cnt l (l.length + k) = cnt l l.length := by
  induction k with
  | zero => rfl
  | succ k ih => rw [← Nat.add_assoc, cnt, ih, getD_past l _ (by omega)]; rfl
theorem cnt_all (l : List Bool) (k : Nat) (h : l.length ≤ k) : cnt l k = cnt l l.length := by
  obtain ⟨j, rfl⟩ := Nat.exists_eq_add_of_le h
  exact cnt_past l j
theorem cnt_take (l : List Bool) (n k : Nat) (h : k ≤ n) : cnt (l.take n) k = cnt l k := by
  induction k with
  | zero => rfl
  | succ k ih => rw [cnt, cnt, ih (by omega)]; simp [List.getD, show k < n by omega]
theorem cnt_sub (l : List Bool) (a n k : Nat) (h : k ≤ n) : cnt l a + cnt ((l.drop a).take n) k = cnt l (a + k) := by
  induction k with
  | zero => rfl
  | succ k ih =>
    rw [cnt, ← Nat.add_assoc, ← Nat.add_assoc, cnt, ih (by omega)]
    simp [List.getD, show k < n by omega]
theorem cnt_mono (l : List Bool) {a b : Nat} (h : a ≤ b) : cnt l a ≤ cnt l b := by
  induction b with
  | zero => have : a = 0 := by omega
            subst this; exact Nat.le_refl _
  | succ b ih =>
    by_cases e : a = b + 1
    · subst e; exact Nat.le_refl _
    · have := ih (by omega); rw [cnt]; omega
/-- the places below m that are true -/
def onesL (l : List Bool) (m : Nat) : List Nat := (List.range m).filter fun i => l.getD i false
theorem onesL_succ (l : List Bool) (m : Nat) : onesL l (m + 1) = onesL l m ++ if l.getD m false then [m] else [] := by
  unfold onesL
  rw [List.range_succ, List.filter_append]
  congr 1
  cases h : l.getD m false <;> simp [List.getD] at h ⊢ <;> simp [h]
theorem onesL_length (l : List Bool) (m : Nat) : (onesL l m).length = cnt l m := by
  induction m with
  | zero => rfl
  | succ m ih => rw [onesL_succ, cnt, List.length_append, ih]; cases l.getD m false <;> rfl
theorem onesL_skip (l : List Bool) (m k : Nat) (h : ∀ j, m ≤ j → j < m + k → l.getD j false = false) : onesL l (m + k) = onesL l m := by
  induction k with
  | zero => rfl
  | succ k ih =>
    rw [← Nat.add_assoc, onesL_succ, ih (fun j h1 h2 => h j h1 (by omega)), h (m + k) (by omega) (by omega)]
    simp
theorem onesL_past (l : List Bool) (k : Nat) (h : l.length ≤ k) : onesL l k = onesL l l.length := by
  obtain ⟨j, rfl⟩ := Nat.exists_eq_add_of_le h
  exact onesL_skip l _ j fun i h1 _ => getD_past l i h1
/-- the first place that is true; the length, if none is -/
def fst1 (l : List Bool) : Nat := l.findIdx id
theorem fst1_le (l : List Bool) : fst1 l ≤ l.length := List.findIdx_le_length
theorem fst1_below (l : List Bool) {j : Nat} (h : j < fst1 l) : l.getD j false = false := by
  have h1 : j < l.length := Nat.lt_of_lt_of_le h (fst1_le l)
  have := List.not_of_lt_findIdx h
  simp [List.getD, h1]
  simpa using this
theorem fst1_at (l : List Bool) (h : fst1 l < l.length) : l.getD (fst1 l) false = true := by
  have h1 : id l[fst1 l] = true := List.findIdx_getElem (w := h)
  rw [List.getD, List.getElem?_eq_getElem h]
  exact h1
theorem fst1_is (l : List Bool) (m : Nat) (h0 : ∀ j, j < m → l.getD j false = false) (h1 : m < l.length → l.getD m false = true) (h2 : m ≤ l.length) : fst1 l = m := by
  rcases Nat.lt_trichotomy (fst1 l) m with h | h | h
  · have h3 := fst1_at l (by omega)
    rw [h0 _ h] at h3; cases h3
  · exact h
  · have h3 := h1 (by have := fst1_le l; omega)
    rw [fst1_below l h] at h3; cases h3
theorem onesL_first (l : List Bool) (m : Nat) (h : m ≤ fst1 l) : onesL l m = [] := by
  have := onesL_skip l 0 m fun j _ hj => fst1_below l (by omega)
  rw [Nat.zero_add] at this
  rw [this]; rfl
theorem onesL_head (l : List Bool) : (onesL l l.length).headD l.length = fst1 l := by
  rcases Nat.lt_or_ge (fst1 l) l.length with h | h
  · have key : ∀ k, ∃ t, onesL l (fst1 l + 1 + k) = fst1 l :: t := by
      intro k
      induction k with
      | zero => exact ⟨[], by rw [Nat.add_zero, onesL_succ, onesL_first l _ (Nat.le_refl _), fst1_at l h]; rfl⟩
      | succ k ih => obtain ⟨t, e⟩ := ih; exact ⟨t ++ _, by rw [← Nat.add_assoc, onesL_succ, e, List.cons_append]⟩
    obtain ⟨k, e⟩ := Nat.exists_eq_add_of_le h
    obtain ⟨t, e2⟩ := key k
    rw [show fst1 l + 1 + k = l.length by omega] at e2
    rw [e2]; rfl
  · rw [onesL_first l _ h]; have := fst1_le l; simp; omega
theorem cnt_zero (l : List Bool) : cnt l l.length = 0 ↔ fst1 l = l.length := by
  rw [← onesL_length]
  constructor
  · intro h
    have h1 := onesL_head l
    rw [List.eq_nil_of_length_eq_zero h] at h1
    exact h1.symm
  · intro h; rw [onesL_first l _ (by omega)]; rfl

/-- whether an odd number of the first n is true -/
def px (f : Nat → Bool) : Nat → Bool
  | 0 => false
  | n + 1 => xor (px f n) (f n)
theorem px_congr (f g : Nat → Bool) (n : Nat) (h : ∀ j, j < n → f j = g j) : px f n = px g n := by
  induction n with
  | zero => rfl
  | succ n ih => rw [px, px, ih (fun j hj => h j (by omega)), h n (by omega)]
theorem px_add (f : Nat → Bool) (a n : Nat) : px f (a + n) = xor (px f a) (px (fun j => f (a + j)) n) := by
  induction n with
  | zero => simp [px]
  | succ n ih => rw [← Nat.add_assoc, px, ih, px, Bool.xor_assoc]
theorem px_cnt (l : List Bool) (n : Nat) : px (fun j => l.getD j false) n = decide (cnt l n % 2 = 1) := by
  induction n with
  | zero => rfl
  | succ n ih =>
    rw [px, ih, cnt]
    cases l.getD n false with
    | false => simp
    | true =>
      rw [Bool.xor_true, ← decide_not, decide_eq_decide]
      show ¬ _ ↔ (_ + 1) % 2 = 1
      omega
/-- the word after rounds up to s: each digit the parity of s digits -/
def pxW (f : Nat → Bool) (s y : Nat) : Prop := ∀ j, j < 64 → y.testBit j = xor (px f (j + 1)) (px f (j + 1 - s))
theorem pxW_one (f : Nat → Bool) (x : Nat) (h : ∀ j, j < 64 → x.testBit j = f j) : pxW f 1 x := by
  intro j hj
  rw [h j hj, px, Nat.add_sub_cancel, Bool.xor_comm (px f j), Bool.xor_assoc, Bool.xor_self, Bool.xor_false]
theorem pxW_step (f : Nat → Bool) (s y : Nat) (hs : 0 < s) (h : pxW f s y) : pxW f (2 * s) (y ^^^ (y * 2 ^ s % 2 ^ 64)) := by
  intro j hj
  have e : (y * 2 ^ s % 2 ^ 64).testBit j = (decide (s ≤ j) && y.testBit (j - s)) := by
    rw [Nat.testBit_mod_two_pow, decide_eq_true hj, Bool.true_and, Nat.mul_comm]
    have h2 := Nat.testBit_two_pow_mul_add (i := s) y (Nat.two_pow_pos s) j
    simp only [Nat.add_zero, Nat.zero_testBit] at h2
    rw [h2]
    by_cases hjs : j < s
    · rw [if_pos hjs, decide_eq_false (by omega)]; rfl
    · rw [if_neg hjs, decide_eq_true (by omega)]; rfl
  rw [Nat.testBit_xor, e, h j hj]
  by_cases hjs : s ≤ j
  · rw [decide_eq_true hjs, Bool.true_and, h (j - s) (by omega), show j - s + 1 = j + 1 - s by omega, show j + 1 - s - s = j + 1 - 2 * s by omega]
    cases px f (j + 1) <;> cases px f (j + 1 - s) <;> simp
  · rw [decide_eq_false hjs, show j + 1 - s = 0 by omega, show j + 1 - 2 * s = 0 by omega]
    simp
theorem pxW_end (f : Nat → Bool) (y : Nat) (h : pxW f 64 y) : ∀ j, j < 64 → y.testBit j = px f (j + 1) := by
  intro j hj
  rw [h j hj, show j + 1 - 64 = 0 by omega]
  simp [px]
/-- a list by its places -/
def tabL (n : Nat) (f : Nat → Bool) : List Bool := (List.range n).map f
theorem tabL_length (n : Nat) (f : Nat → Bool) : (tabL n f).length = n := by simp [tabL]
theorem tabL_getD (n : Nat) (f : Nat → Bool) (j : Nat) : (tabL n f).getD j false = (decide (j < n) && f j) := by
  by_cases h : j < n
  · simp [tabL, List.getD, h]
  · rw [decide_eq_false h, getD_past _ _ (by rw [tabL_length]; omega)]; rfl
theorem tabL_ext (n : Nat) (f g : Nat → Bool) (h : ∀ j, j < n → f j = g j) : tabL n f = tabL n g := by
  unfold tabL
  exact List.map_congr_left fun j hj => h j (by simpa using hj)
theorem tabL_self (l : List Bool) : tabL l.length (fun j => l.getD j false) = l := by
  apply List.ext_getElem
  · simp [tabL]
  · intro i h1 h2; simp [tabL, List.getD, h2]
theorem tabL_of {l : List Bool} {n : Nat} {f : Nat → Bool} (hl : l.length = n) (h : ∀ j, j < n → l.getD j false = f j) : l = tabL n f := by
  subst hl
  rw [← tabL_ext _ _ _ h, tabL_self]
/-- the parities; whether one is true up to a place -/
def parL (l : List Bool) : List Bool := tabL l.length fun i => px (fun j => l.getD j false) (i + 1)
def anyL (l : List Bool) : List Bool := tabL l.length fun i => decide (fst1 l ≤ i)
end Bv
end Go.Proofs.YtmjikdkdccnbaaaDoor
