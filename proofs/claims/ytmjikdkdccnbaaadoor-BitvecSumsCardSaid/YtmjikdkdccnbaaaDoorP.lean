/- Plain facts: how many binary digits of a word are 1; the first one; digits taken two by two.
   Plain facts: the lowest binary digit; running parities; how many are true, which, and the first.
   Contracts of math/bits: OnesCount64, TrailingZeros64. -/
import Derived.Test.YtmjikdkdccnbaaaDoorB
namespace Go.Proofs.YtmjikdkdccnbaaaDoor
open Go.RowKit Bv

namespace Bv
/-- the number with the digits ds to the base b, the lowest first -/
def dval (b : Nat) : List Nat → Nat
  | [] => 0
  | d :: ds => d + b * dval b ds
def dpair : List Nat → List Nat
  | a :: b :: t => (a + b) :: dpair t
  | l => l
/-- the mask that keeps every other digit of n pairs -/
def dmsk (b : Nat) : Nat → Nat
  | 0 => 0
  | n + 1 => (b - 1) + b * b * dmsk b n
theorem and_low (B X m M : Nat) (k : Nat) (hB : B = 2 ^ k) (hm : m < B) : X &&& (m + B * M) = (X % B &&& m) + B * (X / B &&& M) := by
  subst hB
  apply Nat.eq_of_testBit_eq
  intro j
  have h1 : (X % 2 ^ k &&& m) < 2 ^ k := Nat.lt_of_le_of_lt Nat.and_le_right hm
  rw [Nat.testBit_and, Nat.add_comm m, Nat.add_comm (X % 2 ^ k &&& m), Nat.testBit_two_pow_mul_add _ hm, Nat.testBit_two_pow_mul_add _ h1]
  by_cases hj : j < k
  · rw [if_pos hj, if_pos hj, Nat.testBit_and, Nat.testBit_mod_two_pow, decide_eq_true hj, Bool.true_and]
  · rw [if_neg hj, if_neg hj, Nat.testBit_and, Nat.testBit_div_two_pow, show j - k + k = j by omega]
theorem and_mask_low (k a b Y : Nat) (M : Nat) (ha : a < 2 ^ k) (hb : b < 2 ^ k) : (a + 2 ^ k * (b + 2 ^ k * Y)) &&& ((2 ^ k - 1) + 2 ^ k * 2 ^ k * M) = a + 2 ^ k * 2 ^ k * (Y &&& M) := by
  have hp := Nat.two_pow_pos k
  have e : a + 2 ^ k * (b + 2 ^ k * Y) = (a + 2 ^ k * b) + 2 ^ k * 2 ^ k * Y := by rw [Nat.mul_add, Nat.mul_assoc]; omega
  have hlt : a + 2 ^ k * b < 2 ^ k * 2 ^ k := by
    have h := Nat.mul_le_mul_left (2 ^ k) (show b ≤ 2 ^ k - 1 by omega)
    have h2 : 2 ^ k * (2 ^ k - 1) + 2 ^ k = 2 ^ k * 2 ^ k := by rw [← Nat.mul_succ]; congr 1; omega
    omega
  have hm : 2 ^ k - 1 < 2 ^ k * 2 ^ k := by have := Nat.mul_le_mul_left (2 ^ k) hp; omega
  rw [e, and_low (2 ^ k * 2 ^ k) _ _ _ (k + k) (by rw [Nat.pow_add]) hm, Nat.add_mul_mod_self_left, Nat.mod_eq_of_lt hlt, Nat.add_mul_div_left _ _ (by exact Nat.mul_pos hp hp), Nat.div_eq_of_lt hlt, Nat.zero_add, Nat.and_two_pow_sub_one_eq_mod, Nat.add_mul_mod_self_left, Nat.mod_eq_of_lt ha]
/-- digits summed two by two -/
theorem dval_pair (k : Nat) : ∀ (n : Nat) (ds : List Nat), ds.length = 2 * n → (∀ d ∈ ds, d < 2 ^ k) →
    ((dval (2 ^ k) ds / 2 ^ k) &&& dmsk (2 ^ k) n) + (dval (2 ^ k) ds &&& dmsk (2 ^ k) n) = dval (2 ^ k * 2 ^ k) (dpair ds)
  | 0, ds, hl, _ => by
    have : ds = [] := List.eq_nil_of_length_eq_zero (by omega)
    subst this
    simp [dval, dmsk, dpair]
  | n + 1, ds, hl, hd => by
    match ds, hl, hd with
    | a :: b :: t, hl, hd =>
      have ha := hd a (by simp)
      have hb := hd b (by simp)
      have ih := dval_pair k n t (by simp at hl; omega) (fun d h => hd d (by simp [h]))
      have hp := Nat.two_pow_pos k
      simp only [dval, dmsk, dpair]
      rw [and_mask_low k a b _ _ ha hb]
      have e : (a + 2 ^ k * (b + 2 ^ k * dval (2 ^ k) t)) / 2 ^ k = b + 2 ^ k * dval (2 ^ k) t := by
        rw [Nat.add_mul_div_left _ _ hp, Nat.div_eq_of_lt ha, Nat.zero_add]
      rw [e]
      cases t with
      | nil =>
        have h := and_mask_low k b 0 0 (dmsk (2 ^ k) n) hb hp
        simp [dval, dpair] at h ⊢
        rw [h]; omega
      | cons c t' =>
        have hc := hd c (by simp)
        have e2 : dval (2 ^ k) (c :: t') / 2 ^ k = dval (2 ^ k) t' := by
          simp only [dval]
          rw [Nat.add_mul_div_left _ _ hp, Nat.div_eq_of_lt hc, Nat.zero_add]
        rw [e2] at ih
        rw [show b + 2 ^ k * dval (2 ^ k) (c :: t') = b + 2 ^ k * (c + 2 ^ k * dval (2 ^ k) t') from rfl, and_mask_low k b c _ _ hb hc, ← ih, Nat.mul_add]
        omega
/-- the same, where the sum of two digits is a digit still: one mask serves -/
theorem dval_pair1 (k : Nat) : ∀ (n : Nat) (ds : List Nat), ds.length = 2 * n → (∀ d ∈ ds, 2 * d < 2 ^ k) →
    ((dval (2 ^ k) ds / 2 ^ k + dval (2 ^ k) ds) &&& dmsk (2 ^ k) n) = dval (2 ^ k * 2 ^ k) (dpair ds)
  | 0, ds, hl, _ => by
    have : ds = [] := List.eq_nil_of_length_eq_zero (by omega)
    subst this
    simp [dval, dmsk, dpair]
  | n + 1, ds, hl, hd => by
    match ds, hl, hd with
    | a :: b :: t, hl, hd =>
      have ha := hd a (by simp)
      have hb := hd b (by simp)
      have ih := dval_pair1 k n t (by simp at hl; omega) (fun d h => hd d (by simp [h]))
      have hp := Nat.two_pow_pos k
      simp only [dval, dmsk, dpair]
      have e : (a + 2 ^ k * (b + 2 ^ k * dval (2 ^ k) t)) / 2 ^ k = b + 2 ^ k * dval (2 ^ k) t := by
        rw [Nat.add_mul_div_left _ _ hp, Nat.div_eq_of_lt (by omega), Nat.zero_add]
      rw [e]
      have hc : dval (2 ^ k) t % 2 ^ k + b < 2 ^ k := by
        cases t with
        | nil => simp [dval]; omega
        | cons c t' =>
          have hc := hd c (by simp)
          simp only [dval]
          rw [Nat.add_mul_mod_self_left, Nat.mod_eq_of_lt (by omega)]
          omega
      have e3 : b + 2 ^ k * dval (2 ^ k) t + (a + 2 ^ k * (b + 2 ^ k * dval (2 ^ k) t)) = (a + b) + 2 ^ k * ((dval (2 ^ k) t % 2 ^ k + b) + 2 ^ k * (dval (2 ^ k) t / 2 ^ k + dval (2 ^ k) t)) := by
        have h := Nat.div_add_mod (dval (2 ^ k) t) (2 ^ k)
        generalize dval (2 ^ k) t = T at *
        generalize T / 2 ^ k = Q at *
        generalize T % 2 ^ k = R at *
        subst h
        generalize 2 ^ k = p at *
        simp only [Nat.mul_add]
        omega
      rw [e3, and_mask_low k (a + b) _ _ _ (by omega) hc, ih]
/-- the n lowest binary digits -/
def dig (x : Nat) : Nat → List Nat
  | 0 => []
  | n + 1 => x % 2 :: dig (x / 2) n
theorem dig_length (x n : Nat) : (dig x n).length = n := by
  induction n generalizing x with
  | zero => rfl
  | succ n ih => simp [dig, ih]
theorem dig_lt (x n : Nat) : ∀ d ∈ dig x n, d < 2 := by
  induction n generalizing x with
  | zero => intro d h; cases h
  | succ n ih =>
    intro d h
    simp only [dig, List.mem_cons] at h
    rcases h with rfl | h
    · omega
    · exact ih _ d h
theorem dig_val (x n : Nat) (h : x < 2 ^ n) : dval 2 (dig x n) = x := by
  induction n generalizing x with
  | zero => simp at h; subst h; rfl
  | succ n ih =>
    simp only [dig, dval]
    rw [ih _ (by rw [Nat.pow_succ] at h; omega)]
    omega
theorem dpair_sum : ∀ (n : Nat) (ds : List Nat), ds.length = 2 * n → (dpair ds).sum = ds.sum ∧ (dpair ds).length = n
  | 0, ds, hl => by
    have : ds = [] := List.eq_nil_of_length_eq_zero (by omega)
    subst this; simp [dpair]
  | n + 1, ds, hl => by
    match ds, hl with
    | a :: b :: t, hl =>
      obtain ⟨h1, h2⟩ := dpair_sum n t (by simp at hl; omega)
      simp [dpair, h1, h2]; omega
theorem dpair_lt (c : Nat) : ∀ (n : Nat) (ds : List Nat), ds.length = 2 * n → (∀ d ∈ ds, d ≤ c) → ∀ d ∈ dpair ds, d ≤ 2 * c
  | 0, ds, hl, _ => by
    have : ds = [] := List.eq_nil_of_length_eq_zero (by omega)
    subst this; intro d h; cases h
  | n + 1, ds, hl, hd => by
    match ds, hl, hd with
    | a :: b :: t, hl, hd =>
      intro d h
      simp only [dpair, List.mem_cons] at h
      have ha := hd a (by simp)
      have hb := hd b (by simp)
      rcases h with rfl | h
      · omega
      · exact dpair_lt c n t (by simp at hl; omega) (fun d h => hd d (by simp [h])) d h
/-- how many of the n lowest digits are 1 -/
def pop (x : Nat) : Nat → Nat
  | 0 => 0
  | n + 1 => pop x n + (x.testBit n).toNat
theorem pop_succ (x n : Nat) : pop x (n + 1) = x % 2 + pop (x / 2) n := by
  induction n with
  | zero =>
    simp only [pop, Nat.testBit_zero]
    rcases Nat.mod_two_eq_zero_or_one x with h | h <;> simp [h]
  | succ n ih =>
    rw [pop, ih, pop, Nat.testBit_succ]
    omega
theorem dig_sum (x n : Nat) : (dig x n).sum = pop x n := by
  induction n generalizing x with
  | zero => rfl
  | succ n ih => rw [pop_succ, ← ih]; simp [dig]
theorem pop_le (x n : Nat) : pop x n ≤ n := by
  induction n with
  | zero => exact Nat.le_refl _
  | succ n ih => have := Bool.toNat_le (x.testBit n); rw [pop]; omega
theorem pop_mod (x r n : Nat) (h : r ≤ n) : pop (x % 2 ^ r) n = pop x r := by
  induction n with
  | zero => have : r = 0 := by omega
            subst this; rfl
  | succ n ih =>
    by_cases hr : r ≤ n
    · rw [pop, ih hr, Nat.testBit_mod_two_pow, decide_eq_false (by omega)]; rfl
    · have : r = n + 1 := by omega
      subst this
      clear ih hr h
      have hg : ∀ k, k ≤ n + 1 → pop (x % 2 ^ (n + 1)) k = pop x k := by
        intro k
        induction k with
        | zero => intro _; rfl
        | succ k ih => intro hk; rw [pop, pop, ih (by omega), Nat.testBit_mod_two_pow, decide_eq_true (by omega), Bool.true_and]
      exact hg _ (Nat.le_refl _)
theorem dmsk1 : dmsk (2 ^ 1) 32 = 6148914691236517205 := by decide
theorem dmsk2 : dmsk (2 ^ 2) 16 = 3689348814741910323 := by decide
theorem dmsk4 : dmsk (2 ^ 4) 8 = 1085102592571150095 := by decide
/-- math/bits counts right -/
theorem ones_count (x : Nat) (h : x < 2 ^ 64) : ∃ x1 x2 x3 : Nat, (x / 2 &&& 6148914691236517205) + (x &&& 6148914691236517205) = x1 ∧ (x1 / 4 &&& 3689348814741910323) + (x1 &&& 3689348814741910323) = x2 ∧ (x2 / 16 + x2 &&& 1085102592571150095) = x3
    ∧ x1 < 18446744073709551616 ∧ x2 + x2 / 16 < 18446744073709551616 ∧ x3 ≤ 578721382704613384 ∧ (x3 + x3 / 256 + (x3 + x3 / 256) / 65536 + (x3 + x3 / 256 + (x3 + x3 / 256) / 65536) / 4294967296) % 128 = pop x 64 := by
  have l0 := dig_length x 64
  have b0 : ∀ d ∈ dig x 64, d ≤ 1 := fun d hd => by have := dig_lt x 64 d hd; omega
  have p1 := dval_pair 1 32 (dig x 64) l0 (fun d hd => dig_lt x 64 d hd)
  have v0 : dval (2 ^ 1) (dig x 64) = x := dig_val x 64 h
  rw [v0, dmsk1] at p1
  obtain ⟨s1, l1⟩ := dpair_sum 32 _ l0
  have b1 := dpair_lt 1 32 _ l0 b0
  generalize dpair (dig x 64) = d1 at *
  have p2 := dval_pair 2 16 d1 l1 (fun d hd => by have := b1 d hd; omega)
  rw [dmsk2] at p2
  obtain ⟨s2, l2⟩ := dpair_sum 16 _ l1
  have b2 := dpair_lt 2 16 _ l1 b1
  generalize dpair d1 = d2 at *
  have p3 := dval_pair1 4 8 d2 l2 (fun d hd => by have := b2 d hd; omega)
  rw [dmsk4] at p3
  obtain ⟨s3, l3⟩ := dpair_sum 8 _ l2
  have b3 := dpair_lt 4 8 _ l2 b2
  generalize dpair d2 = d3 at *
  rw [← dig_sum, ← s1, ← s2, ← s3]
  have u1 : dval (2 ^ 1 * 2 ^ 1) d1 < 18446744073709551616 := by
    rw [← p1]
    have h1 : (x / 2 ^ 1 &&& 6148914691236517205) ≤ 6148914691236517205 := Nat.and_le_right
    have h2 : (x &&& 6148914691236517205) ≤ 6148914691236517205 := Nat.and_le_right
    omega
  have u2 : dval (2 ^ 2 * 2 ^ 2) d2 ≤ 7378697629483820646 := by
    rw [← p2]
    have h1 : (dval (2 ^ 2) d1 / 2 ^ 2 &&& 3689348814741910323) ≤ 3689348814741910323 := Nat.and_le_right
    have h2 : (dval (2 ^ 2) d1 &&& 3689348814741910323) ≤ 3689348814741910323 := Nat.and_le_right
    omega
  have e1 : dval (2 ^ 1 * 2 ^ 1) d1 = dval (2 ^ 2) d1 := rfl
  have e2 : dval (2 ^ 2 * 2 ^ 2) d2 = dval (2 ^ 4) d2 := rfl
  rw [e1] at p1 u1
  rw [e2] at p2 u2
  refine ⟨dval (2 ^ 2) d1, dval (2 ^ 4) d2, dval (2 ^ 4 * 2 ^ 4) d3, p1, p2, p3, u1, by omega, ?_⟩
  clear p1 p2 p3 u1 u2 e1 e2 s1 s2 s3 b1 b2 l1 l2 b0 l0 v0
  match d3, l3, b3 with
  | [a0, a1, a2, a3, a4, a5, a6, a7], _, b3 =>
    have c0 := b3 a0 (by simp)
    have c1 := b3 a1 (by simp)
    have c2 := b3 a2 (by simp)
    have c3 := b3 a3 (by simp)
    have c4 := b3 a4 (by simp)
    have c5 := b3 a5 (by simp)
    have c6 := b3 a6 (by simp)
    have c7 := b3 a7 (by simp)
    clear b3
    simp only [dval, List.sum_cons, List.sum_nil, Nat.reducePow, Nat.reduceMul, Nat.mul_zero, Nat.add_zero]
    obtain ⟨T6, e6⟩ : ∃ T, a6 + 256 * a7 = T := ⟨_, rfl⟩
    obtain ⟨T5, e5⟩ : ∃ T, a5 + 256 * T6 = T := ⟨_, rfl⟩
    obtain ⟨T4, e4⟩ : ∃ T, a4 + 256 * T5 = T := ⟨_, rfl⟩
    obtain ⟨T3, e3⟩ : ∃ T, a3 + 256 * T4 = T := ⟨_, rfl⟩
    obtain ⟨T2, e2⟩ : ∃ T, a2 + 256 * T3 = T := ⟨_, rfl⟩
    obtain ⟨T1, e1⟩ : ∃ T, a1 + 256 * T2 = T := ⟨_, rfl⟩
    obtain ⟨T0, e0⟩ : ∃ T, a0 + 256 * T1 = T := ⟨_, rfl⟩
    rw [e6, e5, e4, e3, e2, e1, e0]
    have f1 : T0 / 256 = T1 := by omega
    rw [f1]
    have f2 : (T0 + T1) / 65536 = T2 + T3 := by omega
    rw [f2]
    have f3 : (T0 + T1 + (T2 + T3)) / 4294967296 = T4 + T5 + T6 + a7 := by omega
    rw [f3]
    constructor
    · omega
    · omega
end Bv
end Go.Proofs.YtmjikdkdccnbaaaDoor

namespace Go.Proofs.YtmjikdkdccnbaaaDoor
open Go.RowKit Bv

namespace Bv
/-- a number is an odd one times a power of two -/
theorem odd_part : ∀ x : Nat, x ≠ 0 → ∃ t q, x = 2 ^ t * (2 * q + 1)
  | x, h => by
    by_cases h2 : x % 2 = 1
    · exact ⟨0, x / 2, by simp; omega⟩
    · obtain ⟨t, q, e⟩ := odd_part (x / 2) (by omega)
      refine ⟨t + 1, q, ?_⟩
      rw [Nat.pow_succ, Nat.mul_comm (2 ^ t) 2, Nat.mul_assoc, ← e]
      omega
  termination_by x => x
theorem odd_bit (t q j : Nat) : (2 ^ t * (2 * q + 1)).testBit j = if j < t then false else (2 * q + 1).testBit (j - t) := by
  have h := Nat.testBit_two_pow_mul_add (i := t) (2 * q + 1) (Nat.two_pow_pos t) j
  simp only [Nat.add_zero, Nat.zero_testBit] at h
  exact h
theorem pred_bit (t q j : Nat) : (2 ^ t * (2 * q + 1) - 1).testBit j = if j < t then true else (2 * q).testBit (j - t) := by
  have hp := Nat.two_pow_pos t
  have e : 2 ^ t * (2 * q + 1) - 1 = 2 ^ t * (2 * q) + (2 ^ t - 1) := by rw [Nat.mul_add, Nat.mul_one]; omega
  rw [e, Nat.testBit_two_pow_mul_add _ (by omega)]
  by_cases h : j < t
  · rw [if_pos h, if_pos h, Nat.testBit_two_pow_sub_one, decide_eq_true h]
  · rw [if_neg h, if_neg h]
theorem odd_bits (q i : Nat) : (2 * q + 1).testBit i = (decide (i = 0) || (2 * q).testBit i) := by
  cases i with
  | zero => simp
  | succ i => rw [Nat.testBit_succ, Nat.testBit_succ, show (2 * q + 1) / 2 = q by omega, show 2 * q / 2 = q by omega]; simp
/-- x & -x is the lowest digit -/
theorem low_bit (t q : Nat) (h : 2 ^ t * (2 * q + 1) < 2 ^ 64) : 2 ^ t * (2 * q + 1) &&& (2 ^ 64 - 2 ^ t * (2 * q + 1)) = 2 ^ t := by
  have hp := Nat.two_pow_pos t
  have h1 : 0 < 2 ^ t * (2 * q + 1) := Nat.mul_pos hp (by omega)
  have ht : t < 64 := by
    rcases Nat.lt_or_ge t 64 with h' | h'
    · exact h'
    · have := Nat.pow_le_pow_right (n := 2) (by decide) h'
      have := Nat.le_mul_of_pos_right (2 ^ t) (show 0 < 2 * q + 1 by omega)
      omega
  apply Nat.eq_of_testBit_eq
  intro j
  have e : 2 ^ 64 - 2 ^ t * (2 * q + 1) = 2 ^ 64 - ((2 ^ t * (2 * q + 1) - 1) + 1) := by omega
  rw [Nat.testBit_and, e, Nat.testBit_two_pow_sub_succ (by omega), odd_bit, pred_bit, Nat.testBit_two_pow]
  by_cases hj : j < t
  · rw [if_pos hj, decide_eq_false (show ¬ t = j by omega)]; rfl
  · rw [if_neg hj, if_neg hj, odd_bits]
    by_cases e2 : t = j
    · subst e2; simp [ht]
    · rw [decide_eq_false e2, decide_eq_false (by omega), Bool.false_or]
      cases (2 * q).testBit (j - t) <;> simp
/-- x & (x - 1) drops it -/
theorem drop_bit (t q : Nat) : 2 ^ t * (2 * q + 1) &&& (2 ^ t * (2 * q + 1) - 1) = 2 ^ t * (2 * q) := by
  apply Nat.eq_of_testBit_eq
  intro j
  have h := Nat.testBit_two_pow_mul_add (i := t) (2 * q) (Nat.two_pow_pos t) j
  simp only [Nat.add_zero, Nat.zero_testBit] at h
  rw [Nat.testBit_and, odd_bit, pred_bit, h, odd_bits]
  by_cases hj : j < t
  · rw [if_pos hj, if_pos hj, if_pos hj]; rfl
  · rw [if_neg hj, if_neg hj, if_neg hj]
    by_cases e2 : j - t = 0
    · rw [e2]; simp
    · rw [decide_eq_false e2, Bool.false_or, Bool.and_self]

/-- how many of the first k are true -/
def cnt (l : List Bool) : Nat → Nat
  | 0 => 0
  | k + 1 => cnt l k + (l.getD k false).toNat
theorem cnt_le (l : List Bool) (k : Nat) : cnt l k ≤ k := by
  induction k with
  | zero => exact Nat.le_refl _
  | succ k ih => have := Bool.toNat_le (l.getD k false); rw [cnt]; omega
theorem cnt_word (l : List Bool) (i r : Nat) (h : r ≤ 64) : cnt l (64 * i + r) = cnt l (64 * i) + pop (wd l i) r := by
  induction r with
  | zero => rfl
  | succ r ih =>
    rw [← Nat.add_assoc, cnt, ih (by omega), pop, wd_testBit, decide_eq_true (by omega), Bool.true_and]
    omega
theorem getD_past (l : List Bool) (k : Nat) (h : l.length ≤ k) : l.getD k false = false := by simp [List.getD, List.getElem?_eq_none h]
theorem cnt_past (l : List Bool) (k : Nat) : cnt l (l.length + k) = cnt l l.length := by
  induction k with
  | zero => rfl
  | succ k ih => rw [← Nat.add_assoc, cnt, ih, getD_past l _ (by omega)]; rfl
theorem cnt_all (l : List Bool) (k : Nat) (h : l.length ≤ k) : cnt l k = cnt l l.length := by
  obtain ⟨j, rfl⟩ := Nat.exists_eq_add_of_le h
  exact cnt_past l j
theorem cnt_take (l : List Bool) (n k : Nat) (h : k ≤ n) : cnt (l.take n) k = cnt l k := by
  induction k with
  | zero => rfl
  | succ k ih => rw [cnt, cnt, ih (by omega)]; simp [List.getD, show k < n by omega]
theorem cnt_sub (l : List Bool) (a n k : Nat) (h : k ≤ n) : cnt l a + cnt ((l.drop a).take n) k = cnt l (a + k) := by
  induction k with
  | zero => rfl
  | succ k ih =>
    rw [cnt, ← Nat.add_assoc, ← Nat.add_assoc, cnt, ih (by omega)]
    simp [List.getD, show k < n by omega]
theorem cnt_mono (l : List Bool) {a b : Nat} (h : a ≤ b) : cnt l a ≤ cnt l b := by
  induction b with
  | zero => have : a = 0 := by omega
            subst this; exact Nat.le_refl _
  | succ b ih =>
    by_cases e : a = b + 1
    · subst e; exact Nat.le_refl _
    · have := ih (by omega); rw [cnt]; omega
/-- the places below m that are true -/
def onesL (l : List Bool) (m : Nat) : List Nat := (List.range m).filter fun i => l.getD i false
theorem onesL_succ (l : List Bool) (m : Nat) : onesL l (m + 1) = onesL l m ++ if l.getD m false then [m] else [] := by
  unfold onesL
  rw [List.range_succ, List.filter_append]
  congr 1
  cases h : l.getD m false <;> simp [List.getD] at h ⊢ <;> simp [h]
theorem onesL_length (l : List Bool) (m : Nat) : (onesL l m).length = cnt l m := by
  induction m with
  | zero => rfl
  | succ m ih => rw [onesL_succ, cnt, List.length_append, ih]; cases l.getD m false <;> rfl
theorem onesL_skip (l : List Bool) (m k : Nat) (h : ∀ j, m ≤ j → j < m + k → l.getD j false = false) : onesL l (m + k) = onesL l m := by
  induction k with
  | zero => rfl
  | succ k ih =>
    rw [← Nat.add_assoc, onesL_succ, ih (fun j h1 h2 => h j h1 (by omega)), h (m + k) (by omega) (by omega)]
    simp
theorem onesL_past (l : List Bool) (k : Nat) (h : l.length ≤ k) : onesL l k = onesL l l.length := by
  obtain ⟨j, rfl⟩ := Nat.exists_eq_add_of_le h
  exact onesL_skip l _ j fun i h1 _ => getD_past l i h1
/-- the first place that is true; the length, if none is -/
def fst1 (l : List Bool) : Nat := l.findIdx id
theorem fst1_le (l : List Bool) : fst1 l ≤ l.length := List.findIdx_le_length
theorem fst1_below (l : List Bool) {j : Nat} (h : j < fst1 l) : l.getD j false = false := by
  have h1 : j < l.length := Nat.lt_of_lt_of_le h (fst1_le l)
  have := List.not_of_lt_findIdx h
  simp [List.getD, h1]
  simpa using this
theorem fst1_at (l : List Bool) (h : fst1 l < l.length) : l.getD (fst1 l) false = true := by
  have h1 : id l[fst1 l] = true := List.findIdx_getElem (w := h)
  rw [List.getD, List.getElem?_eq_getElem h]
  exact h1
theorem fst1_is (l : List Bool) (m : Nat) (h0 : ∀ j, j < m → l.getD j false = false) (h1 : m < l.length → l.getD m false = true) (h2 : m ≤ l.length) : fst1 l = m := by
  rcases Nat.lt_trichotomy (fst1 l) m with h | h | h
  · have h3 := fst1_at l (by omega)
    rw [h0 _ h] at h3; cases h3
  · exact h
  · have h3 := h1 (by have := fst1_le l; omega)
    rw [fst1_below l h] at h3; cases h3
theorem onesL_first (l : List Bool) (m : Nat) (h : m ≤ fst1 l) : onesL l m = [] := by
  have := onesL_skip l 0 m fun j _ hj => fst1_below l (by omega)
  rw [Nat.zero_add] at this
  rw [this]; rfl
theorem onesL_head (l : List Bool) : (onesL l l.length).headD l.length = fst1 l := by
  rcases Nat.lt_or_ge (fst1 l) l.length with h | h
  · have key : ∀ k, ∃ t, onesL l (fst1 l + 1 + k) = fst1 l :: t := by
      intro k
      induction k with
      | zero => exact ⟨[], by rw [Nat.add_zero, onesL_succ, onesL_first l _ (Nat.le_refl _), fst1_at l h]; rfl⟩
      | succ k ih => obtain ⟨t, e⟩ := ih; exact ⟨t ++ _, by rw [← Nat.add_assoc, onesL_succ, e, List.cons_append]⟩
    obtain ⟨k, e⟩ := Nat.exists_eq_add_of_le h
    obtain ⟨t, e2⟩ := key k
    rw [show fst1 l + 1 + k = l.length by omega] at e2
    rw [e2]; rfl
  · rw [onesL_first l _ h]; have := fst1_le l; simp; omega
theorem cnt_zero (l : List Bool) : cnt l l.length = 0 ↔ fst1 l = l.length := by
  rw [← onesL_length]
  constructor
  · intro h
    have h1 := onesL_head l
    rw [List.eq_nil_of_length_eq_zero h] at h1
    exact h1.symm
  · intro h; rw [onesL_first l _ (by omega)]; rfl

/-- whether an odd number of the first n is true -/
def px (f : Nat → Bool) : Nat → Bool
  | 0 => false
  | n + 1 => xor (px f n) (f n)
theorem px_congr (f g : Nat → Bool) (n : Nat) (h : ∀ j, j < n → f j = g j) : px f n = px g n := by
  induction n with
  | zero => rfl
  | succ n ih => rw [px, px, ih (fun j hj => h j (by omega)), h n (by omega)]
theorem px_add (f : Nat → Bool) (a n : Nat) : px f (a + n) = xor (px f a) (px (fun j => f (a + j)) n) := by
  induction n with
  | zero => simp [px]
  | succ n ih => rw [← Nat.add_assoc, px, ih, px, Bool.xor_assoc]
theorem px_cnt (l : List Bool) (n : Nat) : px (fun j => l.getD j false) n = decide (cnt l n % 2 = 1) := by
  induction n with
  | zero => rfl
  | succ n ih =>
    rw [px, ih, cnt]
    cases l.getD n false with
    | false => simp
    | true =>
      rw [Bool.xor_true, ← decide_not, decide_eq_decide]
      show ¬ _ ↔ (_ + 1) % 2 = 1
      omega
/-- the word after rounds up to s: each digit the parity of s digits -/
def pxW (f : Nat → Bool) (s y : Nat) : Prop := ∀ j, j < 64 → y.testBit j = xor (px f (j + 1)) (px f (j + 1 - s))
theorem pxW_one (f : Nat → Bool) (x : Nat) (h : ∀ j, j < 64 → x.testBit j = f j) : pxW f 1 x := by
  intro j hj
  rw [h j hj, px, Nat.add_sub_cancel, Bool.xor_comm (px f j), Bool.xor_assoc, Bool.xor_self, Bool.xor_false]
theorem pxW_step (f : Nat → Bool) (s y : Nat) (hs : 0 < s) (h : pxW f s y) : pxW f (2 * s) (y ^^^ (y * 2 ^ s % 2 ^ 64)) := by
  intro j hj
  have e : (y * 2 ^ s % 2 ^ 64).testBit j = (decide (s ≤ j) && y.testBit (j - s)) := by
    rw [Nat.testBit_mod_two_pow, decide_eq_true hj, Bool.true_and, Nat.mul_comm]
    have h2 := Nat.testBit_two_pow_mul_add (i := s) y (Nat.two_pow_pos s) j
    simp only [Nat.add_zero, Nat.zero_testBit] at h2
    rw [h2]
    by_cases hjs : j < s
    · rw [if_pos hjs, decide_eq_false (by omega)]; rfl
    · rw [if_neg hjs, decide_eq_true (by omega)]; rfl
  rw [Nat.testBit_xor, e, h j hj]
  by_cases hjs : s ≤ j
  · rw [decide_eq_true hjs, Bool.true_and, h (j - s) (by omega), show j - s + 1 = j + 1 - s by omega, show j + 1 - s - s = j + 1 - 2 * s by omega]
    cases px f (j + 1) <;> cases px f (j + 1 - s) <;> simp
  · rw [decide_eq_false hjs, show j + 1 - s = 0 by omega, show j + 1 - 2 * s = 0 by omega]
    simp
theorem pxW_end (f : Nat → Bool) (y : Nat) (h : pxW f 64 y) : ∀ j, j < 64 → y.testBit j = px f (j + 1) := by
  intro j hj
  rw [h j hj, show j + 1 - 64 = 0 by omega]
  simp [px]
def cw (b : Bool) : Nat := if b then 18446744073709551615 else 0
theorem cw_bit (b : Bool) (j : Nat) (hj : j < 64) : (cw b).testBit j = b := by
  cases b
  · simp [cw]
  · show (18446744073709551615 : Nat).testBit j = true
    rw [show (18446744073709551615 : Nat) = 2 ^ 64 - 1 by rfl, Nat.testBit_two_pow_sub_one, decide_eq_true hj]
theorem cw_lt (b : Bool) : cw b < 18446744073709551616 := by cases b <;> decide
/-- a list by its places -/
def tabL (n : Nat) (f : Nat → Bool) : List Bool := (List.range n).map f
theorem tabL_length (n : Nat) (f : Nat → Bool) : (tabL n f).length = n := by simp [tabL]
theorem tabL_getD (n : Nat) (f : Nat → Bool) (j : Nat) : (tabL n f).getD j false = (decide (j < n) && f j) := by
  by_cases h : j < n
  · simp [tabL, List.getD, h]
  · rw [decide_eq_false h, getD_past _ _ (by rw [tabL_length]; omega)]; rfl
theorem tabL_ext (n : Nat) (f g : Nat → Bool) (h : ∀ j, j < n → f j = g j) : tabL n f = tabL n g := by
  unfold tabL
  exact List.map_congr_left fun j hj => h j (by simpa using hj)
theorem tabL_self (l : List Bool) : tabL l.length (fun j => l.getD j false) = l := by
  apply List.ext_getElem
  · simp [tabL]
  · intro i h1 h2; simp [tabL, List.getD, h2]
theorem tabL_of {l : List Bool} {n : Nat} {f : Nat → Bool} (hl : l.length = n) (h : ∀ j, j < n → l.getD j false = f j) : l = tabL n f := by
  subst hl
  rw [← tabL_ext _ _ _ h, tabL_self]
/-- the parities; whether one is true up to a place -/
def parL (l : List Bool) : List Bool := tabL l.length fun i => px (fun j => l.getD j false) (i + 1)
def anyL (l : List Bool) : List Bool := tabL l.length fun i => decide (fst1 l ≤ i)
end Bv
end Go.Proofs.YtmjikdkdccnbaaaDoor

namespace Go.Proofs.YtmjikdkdccnbaaaDoor
open Go.RowKit Bv

theorem ret_int {k : IntKind} {a b : Int} (h : a = b) : Ending.returned (.int k a) = .returned (.int k b) := by rw [h]

set_option maxHeartbeats 400000
theorem onesCount_any (x : Nat) (hx : x < 18446744073709551616) (w : World) :
    Calls Tryd.prog 37 #[.int .u64 (x : Int)] w fun e w' => e = .returned (.int .i64 (pop x 64 : Int)) ∧ w = w' := by
  obtain ⟨x1, x2, x3, e1, e2, e3, h1, h2, h3, e4⟩ := ones_count x hx
  have hA : (x / 2 &&& 6148914691236517205) ≤ 6148914691236517205 := Nat.and_le_right
  have hB : (x &&& 6148914691236517205) ≤ 6148914691236517205 := Nat.and_le_right
  have hC : (x1 / 4 &&& 3689348814741910323) ≤ 3689348814741910323 := Nat.and_le_right
  have hD : (x1 &&& 3689348814741910323) ≤ 3689348814741910323 := Nat.and_le_right
  have a1 : bits .and .u64 ((x : Int) / 2) 6148914691236517205 = ((x / 2 &&& 6148914691236517205 : Nat) : Int) := u64_and_nat (x / 2) 6148914691236517205 (by omega) (by decide)
  have b1 : bits .and .u64 (x : Int) 6148914691236517205 = ((x &&& 6148914691236517205 : Nat) : Int) := u64_and_nat x 6148914691236517205 hx (by decide)
  have a2 : bits .and .u64 ((x1 : Int) / 4) 3689348814741910323 = ((x1 / 4 &&& 3689348814741910323 : Nat) : Int) := u64_and_nat (x1 / 4) 3689348814741910323 (by omega) (by decide)
  have b2 : bits .and .u64 (x1 : Int) 3689348814741910323 = ((x1 &&& 3689348814741910323 : Nat) : Int) := u64_and_nat x1 3689348814741910323 h1 (by decide)
  have a3 : bits .and .u64 ((x2 : Int) / 16 + (x2 : Int)) 1085102592571150095 = (x3 : Int) := by
    rw [← e3]
    exact u64_and_nat (x2 / 16 + x2) 1085102592571150095 (by omega) (by decide)
  have HE : Hid (bits .and .i64 ((x3 : Int) + (x3 : Int) / 256 + ((x3 : Int) + (x3 : Int) / 256) / 65536 + ((x3 : Int) + (x3 : Int) / 256 + ((x3 : Int) + (x3 : Int) / 256) / 65536) / 4294967296) 127 = (pop x 64 : Int)) := by
    have h := bits_mask .i64 63 (by decide) wraps_i64 7 (by decide) ((x3 : Int) + (x3 : Int) / 256 + ((x3 : Int) + (x3 : Int) / 256) / 65536 + ((x3 : Int) + (x3 : Int) / 256 + ((x3 : Int) + (x3 : Int) / 256) / 65536) / 4294967296) (by omega) (by omega)
    refine Eq.trans h ?_
    rw [← e4]
    simp
  clear e3
  generalize (x / 2 &&& 6148914691236517205) = A at *
  generalize (x &&& 6148914691236517205) = B at *
  generalize (x1 / 4 &&& 3689348814741910323) = C at *
  generalize (x1 &&& 3689348814741910323) = D at *
  have s1 : (A : Int) + (B : Int) = (x1 : Int) := by omega
  have s2 : (C : Int) + (D : Int) = (x2 : Int) := by omega
  clear e1 e2 e4
  go_enter Tryd.func37, Tryd.ntmps37
  go_wp2
  go_ret
  exact ⟨ret_int HE.out, rfl⟩

/-- the table of math/bits, as it is laid -/
def tz (k : Nat) : Nat := [0, 1, 56, 2, 57, 49, 28, 3, 61, 58, 42, 50, 38, 29, 17, 4, 62, 47, 59, 36, 45, 43, 51, 22, 53, 39, 33, 30, 24, 18, 12, 5, 63, 55, 48, 27, 60, 41, 37, 16, 46, 35, 44, 21, 52, 32, 23, 11, 54, 26, 40, 15, 34, 20, 31, 10, 25, 14, 19, 9, 13, 8, 7, 6].getD k 0
theorem tz_right : ∀ t, t < 64 → tz (2 ^ t * 285870213051353865 % 18446744073709551616 / 288230376151711744) = t := by decide
def Tab (w : World) : Prop := ∀ k, k < 64 → w.cell? ⟨0, k, none⟩ = some (.int .u8 (tz k : Int))
theorem Tab.ext {w w' : World} (h : Tab w) (he : Ext w w') : Tab w' := fun k hk => (Below.cell (p := ⟨0, k, none⟩) he (World.block_lt_of_cell? _ _ (h k hk))).trans (h k hk)
theorem tz_any (x t q : Nat) (hx : x < 18446744073709551616) (e : x = 2 ^ t * (2 * q + 1)) (w : World) (hw : Tab w) :
    Calls Tryd.prog 38 #[.int .u64 (x : Int)] w fun e w' => e = .returned (.int .i64 (t : Int)) ∧ w = w' := by
  have hp := Nat.two_pow_pos t
  have hge : 2 ^ t ≤ x := by rw [e]; exact Nat.le_mul_of_pos_right _ (by omega)
  have ht : t < 64 := by
    rcases Nat.lt_or_ge t 64 with h' | h'
    · exact h'
    · have := Nat.pow_le_pow_right (n := 2) (by decide) h'
      omega
  have hlow : x &&& (18446744073709551616 - x) = 2 ^ t := by
    have h := low_bit t q (by rw [← e]; exact hx)
    rw [← e] at h
    exact h
  have hn : IntKind.u64.wrap (-(x : Int)) = ((18446744073709551616 - x : Nat) : Int) := by
    simp only [IntKind.wrap, IntKind.bits, IntKind.signed]
    simp
    omega
  have hand : bits .and .u64 (x : Int) ((18446744073709551616 - x : Nat) : Int) = ((2 ^ t : Nat) : Int) := by
    rw [← hlow]
    exact u64_and_nat x (18446744073709551616 - x) hx (by omega)
  have hmul : IntKind.u64.wrap (((2 ^ t : Nat) : Int) * 285870213051353865) = ((2 ^ t * 285870213051353865 % 18446744073709551616 : Nat) : Int) := by
    simp only [IntKind.wrap, IntKind.bits, IntKind.signed]
    simp
  have hcell := hw (2 ^ t * 285870213051353865 % 18446744073709551616 / 288230376151711744) (by omega)
  rw [tz_right t ht] at hcell
  have hm : ((2 ^ t * 285870213051353865 % 18446744073709551616 : Nat) : Int) / 288230376151711744 < 64 := by omega
  generalize 18446744073709551616 - x = nx at *
  generalize 2 ^ t * 285870213051353865 % 18446744073709551616 = m at *
  generalize 2 ^ t = p at *
  have hx0 : (0 : Int) < (x : Int) := by omega
  clear hlow e hge
  go_enter Tryd.func38, Tryd.ntmps38
  go_wp2
  go_ret
  exact ⟨rfl, rfl⟩
end Go.Proofs.YtmjikdkdccnbaaaDoor
