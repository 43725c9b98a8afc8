/- Plain facts: how many binary digits of a word are 1; the first one; digits taken two by two. -/
import Derived.Test.YtmjikdkdccnbaaaDoorBd
namespace Go.Proofs.YtmjikdkdccnbaaaDoor
open Go.RowKit Bv

namespace Bv
/-- the number with the digits ds to the base b, the lowest first -/
def dval (b : Nat) : List Nat → Nat
  | [] => 0
  | d :: ds => d + b * dval b ds
def dpair : List Nat → List Nat
  | a :: b :: t => (a + b) :: dpair t
  | l => l
/-- the mask that keeps every other digit of n pairs -/
def dmsk (b : Nat) : Nat → Nat
  | 0 => 0
  | n + 1 => (b - 1) + b * b * dmsk b n
theorem and_low (B X m M : Nat) (k : Nat) (hB : B = 2 ^ k) (hm : m < B) : X &&& (m + B * M) = (X % B &&& m) + B * (X / B &&& M) := by
  subst hB
  apply Nat.eq_of_testBit_eq
  intro j
  have h1 : (X % 2 ^ k &&& m) < 2 ^ k := Nat.lt_of_le_of_lt Nat.and_le_right hm
  rw [Nat.testBit_and, Nat.add_comm m, Nat.add_comm (X % 2 ^ k &&& m), Nat.testBit_two_pow_mul_add _ hm, Nat.testBit_two_pow_mul_add _ h1]
  by_cases hj : j < k
  · rw [if_pos hj, if_pos hj, Nat.testBit_and, Nat.testBit_mod_two_pow, decide_eq_true hj, Bool.true_and]
  · rw [if_neg hj, if_neg hj, Nat.testBit_and, Nat.testBit_div_two_pow, show j - k + k = j by omega]
theorem and_mask_low (k a b Y : Nat) (M : Nat) (ha : a < 2 ^ k) (hb : b < 2 ^ k) : (a + 2 ^ k * (b + 2 ^ k * Y)) &&& ((2 ^ k - 1) + 2 ^ k * 2 ^ k * M) = a + 2 ^ k * 2 ^ k * (Y &&& M) := by
  have hp := Nat.two_pow_pos k
  have e : a + 2 ^ k * (b + 2 ^ k * Y) = (a + 2 ^ k * b) + 2 ^ k * 2 ^ k * Y := by rw [Nat.mul_add, Nat.mul_assoc]; omega
  have hlt : a + 2 ^ k * b < 2 ^ k * 2 ^ k := by
    have h := Nat.mul_le_mul_left (2 ^ k) (show b ≤ 2 ^ k - 1 by omega)
    have h2 : 2 ^ k * (2 ^ k - 1) + 2 ^ k = 2 ^ k * 2 ^ k := by rw [← Nat.mul_succ]; congr 1; omega
    omega
  have hm : 2 ^ k - 1 < 2 ^ k * 2 ^ k := by have := Nat.mul_le_mul_left (2 ^ k) hp; omega
  rw [e, and_low (2 ^ k * 2 ^ k) _ _ _ (k + k) (by rw [Nat.pow_add]) hm, Nat.add_mul_mod_self_left, Nat.mod_eq_of_lt hlt, Nat.add_mul_div_left _ _ (by exact Nat.mul_pos hp hp), Nat.div_eq_of_lt hlt, Nat.zero_add, Nat.and_two_pow_sub_one_eq_mod, Nat.add_mul_mod_self_left, Nat.mod_eq_of_lt ha]
/-- digits summed two by two -/
theorem dval_pair (k : Nat) : ∀ (n : Nat) (ds : List Nat), ds.length = 2 * n → (∀ d ∈ ds, d < 2 ^ k) →
    ((dval (2 ^ k) ds / 2 ^ k) &&& dmsk (2 ^ k) n) + (dval (2 ^ k) ds &&& dmsk (2 ^ k) n) = dval (2 ^ k * 2 ^ k) (dpair ds)
  | 0, ds, hl, _ => by
    have : ds = [] := List.eq_nil_of_length_eq_zero (by omega)
    subst this
    simp [dval, dmsk, dpair]
  | n + 1, ds, hl, hd => by
    match ds, hl, hd with
    | a :: b :: t, hl, hd =>
      have ha := hd a (by simp)
      have hb := hd b (by simp)
      have ih := dval_pair k n t (by simp at hl; omega) (fun d h => hd d (by simp [h]))
      have hp := Nat.two_pow_pos k
      simp only [dval, dmsk, dpair]
      rw [and_mask_low k a b _ _ ha hb]
      have e : (a + 2 ^ k * (b + 2 ^ k * dval (2 ^ k) t)) / 2 ^ k = b + 2 ^ k * dval (2 ^ k) t := by
        rw [Nat.add_mul_div_left _ _ hp, Nat.div_eq_of_lt ha, Nat.zero_add]
      rw [e]
      cases t with
      | nil =>
        have h := and_mask_low k b 0 0 (dmsk (2 ^ k) n) hb hp
        simp [dval, dpair] at h ⊢
        rw [h]; omega
      | cons c t' =>
        have hc := hd c (by simp)
        have e2 : dval (2 ^ k) (c :: t') / 2 ^ k = dval (2 ^ k) t' := by
          simp only [dval]
          rw [Nat.add_mul_div_left _ _ hp, Nat.div_eq_of_lt hc, Nat.zero_add]
        rw [e2] at ih
        rw [show b + 2 ^ k * dval (2 ^ k) (c :: t') = b + 2 ^ k * (c + 2 ^ k * dval (2 ^ k) t') from rfl, and_mask_low k b c _ _ hb hc, ← ih, Nat.mul_add]
        omega
/-- the same, where the sum of two digits is a digit still: one mask serves -/
theorem dval_pair1 (k : Nat) : ∀ (n : Nat) (ds : List Nat), ds.length = 2 * n → (∀ d ∈ ds, 2 * d < 2 ^ k) →
    ((dval (2 ^ k) ds / 2 ^ k + dval (2 ^ k) ds) &&& dmsk (2 ^ k) n) = dval (2 ^ k * 2 ^ k) (dpair ds)
  | 0, ds, hl, _ => by
    have : ds = [] := List.eq_nil_of_length_eq_zero (by omega)
    subst this
    simp [dval, dmsk, dpair]
  | n + 1, ds, hl, hd => by
    match ds, hl, hd with
    | a :: b :: t, hl, hd =>
      have ha := hd a (by simp)
      have hb := hd b (by simp)
      have ih := dval_pair1 k n t (by simp at hl; omega) (fun d h => hd d (by simp [h]))
      have hp := Nat.two_pow_pos k
      simp only [dval, dmsk, dpair]
      have e : (a + 2 ^ k * (b + 2 ^ k * dval (2 ^ k) t)) / 2 ^ k = b + 2 ^ k * dval (2 ^ k) t := by
        rw [Nat.add_mul_div_left _ _ hp, Nat.div_eq_of_lt (by omega), Nat.zero_add]
      rw [e]
      have hc : dval (2 ^ k) t % 2 ^ k + b < 2 ^ k := by
        cases t with
        | nil => simp [dval]; omega
        | cons c t' =>
          have hc := hd c (by simp)
          simp only [dval]
          rw [Nat.add_mul_mod_self_left, Nat.mod_eq_of_lt (by omega)]
          omega
      have e3 : b + 2 ^ k * dval (2 ^ k) t + (a + 2 ^ k * (b + 2 ^ k * dval (2 ^ k) t)) = (a + b) + 2 ^ k * ((dval (2 ^ k) t % 2 ^ k + b) + 2 ^ k * (dval (2 ^ k) t / 2 ^ k + dval (2 ^ k) t)) := by
        have h := Nat.div_add_mod (dval (2 ^ k) t) (2 ^ k)
        generalize dval (2 ^ k) t = T at *
        generalize T / 2 ^ k = Q at *
        generalize T % 2 ^ k = R at *
        subst h
        generalize 2 ^ k = p at *
        simp only [Nat.mul_add]
        omega
      rw [e3, and_mask_low k (a + b) _ _ _ (by omega) hc, ih]
/-- the n lowest binary digits -/
def dig (x : Nat) : Nat → List Nat
  | 0 => []
  | n + 1 => x % 2 :: dig (x / 2) n
theorem dig_length (x n : Nat) : (dig x n).length = n := by
  induction n generalizing x with
  | zero => rfl
  | succ n ih => simp [dig, ih]
theorem dig_lt (x n : Nat) : ∀ d ∈ dig x n, d < 2 := by
  induction n generalizing x with
  | zero => intro d h; cases h
  | succ n ih =>
    intro d h
    simp only [dig, List.mem_cons] at h
    rcases h with rfl | h
    · omega
    · exact ih _ d h
theorem dig_val (x n : Nat) (h : x < 2 ^ n) : dval 2 (dig x n) = x := by
  induction n generalizing x with
  | zero => simp at h; subst h; rfl
  | succ n ih =>
    simp only [dig, dval]
    rw [ih _ (by rw [Nat.pow_succ] at h; omega)]
    omega
theorem dpair_sum : ∀ (n : Nat) (ds : List Nat), ds.length = 2 * n → (dpair ds).sum = ds.sum ∧ (dpair ds).length = n
  | 0, ds, hl => by
    have : ds = [] := List.eq_nil_of_length_eq_zero (by omega)
    subst this; simp [dpair]
  | n + 1, ds, hl => by
    match ds, hl with
    | a :: b :: t, hl =>
      obtain ⟨h1, h2⟩ := dpair_sum n t (by simp at hl; omega)
      simp [dpair, h1, h2]; omega
theorem dpair_lt (c : Nat) : ∀ (n : Nat) (ds : List Nat), ds.length = 2 * n → (∀ d ∈ ds, d ≤ c) → ∀ d ∈ dpair ds, d ≤ 2 * c
  | 0, ds, hl, _ => by
    have : ds = [] := List.eq_nil_of_length_eq_zero (by omega)
    subst this; intro d h; cases h
  | n + 1, ds, hl, hd => by
    match ds, hl, hd with
    | a :: b :: t, hl, hd =>
      intro d h
      simp only [dpair, List.mem_cons] at h
      have ha := hd a (by simp)
      have hb := hd b (by simp)
      rcases h with rfl | h
      · omega
      · exact dpair_lt c n t (by simp at hl; omega) (fun d h => hd d (by simp [h])) d h
/-- how many of the n lowest digits are 1 -/
def pop (x : Nat) : Nat → Nat
  | 0 => 0
  | n + 1 => pop x n + (x.testBit n).toNat
theorem pop_succ (x n : Nat) : pop x (n + 1) = x % 2 + pop (x / 2) n := by
  induction n with
  | zero =>
    simp only [pop, Nat.testBit_zero]
    rcases Nat.mod_two_eq_zero_or_one x with h | h <;> simp [h]
  | succ n ih =>
    rw [pop, ih, pop, Nat.testBit_succ]
    omega
theorem dig_sum (x n : Nat) : (dig x n).sum = pop x n := by
  induction n generalizing x with
  | zero => rfl
  | succ n ih => rw [pop_succ, ← ih]; simp [dig]
theorem pop_le (x n : Nat) : pop x n ≤ n := by
  induction n with
  | zero => exact Nat.le_refl _
  | succ n ih => have := Bool.toNat_le (x.testBit n); rw [pop]; omega
theorem pop_mod (x r n : Nat) (h : r ≤ n) : pop (x % 2 ^ r) n = pop x r := by
  induction n with
  | zero => have : r = 0 := by omega
            subst this; rfl
  | succ n ih =>
    by_cases hr : r ≤ n
    · rw [pop, ih hr, Nat.testBit_mod_two_pow, decide_eq_false (by omega)]; rfl
    · have : r = n + 1 := by omega
      subst this
      clear ih hr h
      have hg : ∀ k, k ≤ n + 1 → pop (x % 2 ^ (n + 1)) k = pop x k := by
        intro k
        induction k with
        | zero => intro _; rfl
        | succ k ih => intro hk; rw [pop, pop, ih (by omega), Nat.testBit_mod_two_pow, decide_eq_true (by omega), Bool.true_and]
      exact hg _ (Nat.le_refl _)
theorem dmsk1 : dmsk (2 ^ 1) 32 = 6148914691236517205 := by decide
theorem dmsk2 : dmsk (2 ^ 2) 16 = 3689348814741910323 := by decide
theorem dmsk4 : dmsk (2 ^ 4) 8 = 1085102592571150095 := by decide
/-- math/bits counts right -/
theorem ones_count (x : Nat) (h : x < 2 ^ 64) : ∃ x1 x2 x3 : Nat, (x / 2 &&& 6148914691236517205) + (x &&& 6148914691236517205) = x1 ∧ (x1 / 4 &&& 3689348814741910323) + (x1 &&& 3689348814741910323) = x2 ∧ (x2 / 16 + x2 &&& 1085102592571150095) = x3
    ∧ x1 < 18446744073709551616 ∧ x2 + x2 / 16 < 18446744073709551616 ∧ x3 ≤ 578721382704613384 ∧ (x3 + x3 / 256 + (x3 + x3 / 256) / 65536 + (x3 + x3 / 256 + (x3 + x3 / 256) / 65536) / 4294967296) % 128 = pop x 64 := by
  have l0 := dig_length x 64
  have b0 : ∀ d ∈ dig x 64, d ≤ 1 := fun d hd => by have := dig_lt x 64 d hd; omega
  have p1 := dval_pair 1 32 (dig x 64) l0 (fun d hd => dig_lt x 64 d hd)
  have v0 : dval (2 ^ 1) (dig x 64) = x := dig_val x 64 h
  rw [v0, dmsk1] at p1
  obtain ⟨s1, l1⟩ := dpair_sum 32 _ l0
  have b1 := dpair_lt 1 32 _ l0 b0
  generalize dpair (dig x 64) = d1 at *
  have p2 := dval_pair 2 16 d1 l1 (fun d hd => by have := b1 d hd; omega)
  rw [dmsk2] at p2
  obtain ⟨s2, l2⟩ := dpair_sum 16 _ l1
  have b2 := dpair_lt 2 16 _ l1 b1
  generalize dpair d1 = d2 at *
  have p3 := dval_pair1 4 8 d2 l2 (fun d hd => by have := b2 d hd; omega)
  rw [dmsk4] at p3
  obtain ⟨s3, l3⟩ := dpair_sum 8 _ l2
  have b3 := dpair_lt 4 8 _ l2 b2
  generalize dpair d2 = d3 at *
  rw [← dig_sum, ← s1, ← s2, ← s3]
  have u1 : dval (2 ^ 1 * 2 ^ 1) d1 < 18446744073709551616 := by
    rw [← p1]
    have h1 : (x / 2 ^ 1 &&& 6148914691236517205) ≤ 6148914691236517205 := Nat.and_le_right
    have h2 : (x &&& 6148914691236517205) ≤ 6148914691236517205 := Nat.and_le_right
    omega
  have u2 : dval (2 ^ 2 * 2 ^ 2) d2 ≤ 7378697629483820646 := by
    rw [← p2]
    have h1 : (dval (2 ^ 2) d1 / 2 ^ 2 &&& 3689348814741910323) ≤ 3689348814741910323 := Nat.and_le_right
    have h2 : (dval (2 ^ 2) d1 &&& 3689348814741910323) ≤ 3689348814741910323 := Nat.and_le_right
    omega
  have e1 : dval (2 ^ 1 * 2 ^ 1) d1 = dval (2 ^ 2) d1 := rfl
  have e2 : dval (2 ^ 2 * 2 ^ 2) d2 = dval (2 ^ 4) d2 := rfl
  rw [e1] at p1 u1
  rw [e2] at p2 u2
  refine ⟨dval (2 ^ 2) d1, dval (2 ^ 4) d2, dval (2 ^ 4 * 2 ^ 4) d3, p1, p2, p3, u1, by omega, ?_⟩
  clear p1 p2 p3 u1 u2 e1 e2 s1 s2 s3 b1 b2 l1 l2 b0 l0 v0
  match d3, l3, b3 with
  | [a0, a1, a2, a3, a4, a5, a6, a7], _, b3 =>
    have c0 := b3 a0 (by simp)
    have c1 := b3 a1 (by simp)
    have c2 := b3 a2 (by simp)
    have c3 := b3 a3 (by simp)
    have c4 := b3 a4 (by simp)
    have c5 := b3 a5 (by simp)
    have c6 := b3 a6 (by simp)
    have c7 := b3 a7 (by simp)
    clear b3
    simp only [dval, List.sum_cons, List.sum_nil, Nat.reducePow, Nat.reduceMul, Nat.mul_zero, Nat.add_zero]
    obtain ⟨T6, e6⟩ : ∃ T, a6 + 256 * a7 = T := ⟨_, rfl⟩
    obtain ⟨T5, e5⟩ : ∃ T, a5 + 256 * T6 = T := ⟨_, rfl⟩
    obtain ⟨T4, e4⟩ : ∃ T, a4 + 256 * T5 = T := ⟨_, rfl⟩
    obtain ⟨T3, e3⟩ : ∃ T, a3 + 256 * T4 = T := ⟨_, rfl⟩
    obtain ⟨T2, e2⟩ : ∃ T, a2 + 256 * T3 = T := ⟨_, rfl⟩
    obtain ⟨T1, e1⟩ : ∃ T, a1 + 256 * T2 = T := ⟨_, rfl⟩
    obtain ⟨T0, e0⟩ : ∃ T, a0 + 256 * T1 = T := ⟨_, rfl⟩
    rw [e6, e5, e4, e3, e2, e1, e0]
    have f1 : T0 / 256 = T1 := by omega
    rw [f1]
    have f2 : (T0 + T1) / 65536 = T2 + T3 := by omega
    rw [f2]
    have f3 : (T0 + T1 + (T2 + T3)) / 4294967296 = T4 + T5 + T6 + a7 := by omega
    rw [f3]
    constructor
    · omega
    · omega
end Bv
end Go.Proofs.YtmjikdkdccnbaaaDoor
