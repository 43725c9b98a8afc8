/- Plain facts on rounding to the nearest double: 'rnd' is the rung of the nearest word; it lies on the same side of every rung as the exact number. -/
import Derived.Test.YtdfhefnjoekgbaaFl
namespace Go.Proofs.Ytdfhefnjoekgbaa.Fl
open Ieee Go Go.RowKit

/-! ### Cutting -/
theorem shl_one (k : Nat) : 1 <<< k = 2 ^ k := by simp [Nat.shiftLeft_eq]

theorem cut_even_ge (s : Bool) (n d k : Nat) (h : k * 2 ^ d ≤ n) : k ≤ Toward.even.cut s n d := by
  unfold Toward.cut
  simp only [shl_one]
  by_cases hd : d ≤ n.log2 + 2
  · rw [Nat.min_eq_left hd]
    have : k ≤ n / 2 ^ d := (Nat.le_div_iff_mul_le (Nat.two_pow_pos d)).2 h
    omega
  · have hk : k = 0 := by
      rcases Nat.eq_zero_or_pos k with h0 | h0
      · exact h0
      · have h1 : 1 * 2 ^ d ≤ k * 2 ^ d := Nat.mul_le_mul_right _ h0
        have h2 : 2 ^ (n.log2 + 1) ≤ 2 ^ d := Nat.pow_le_pow_right (by decide) (by omega)
        have h3 := @Nat.lt_log2_self n
        omega
    subst hk; exact Nat.zero_le _

theorem cut_even_le (s : Bool) (n d k : Nat) (h : n ≤ k * 2 ^ d) : Toward.even.cut s n d ≤ k := by
  unfold Toward.cut
  simp only [shl_one]
  by_cases hd : d ≤ n.log2 + 2
  · rw [Nat.min_eq_left hd]
    have hp := Nat.two_pow_pos d
    have hm := Nat.div_add_mod n (2 ^ d)
    have hlt := Nat.mod_lt n hp
    generalize 2 ^ d = g at *
    generalize n / g = q at *
    generalize n % g = r at *
    by_cases hr : r = 0
    · subst hr
      have : q ≤ k := Nat.le_of_mul_le_mul_left (by rw [Nat.mul_comm g k]; omega : g * q ≤ g * k) hp
      have e : (decide (g < 2 * 0) || (g == 2 * 0 && q % 2 == 1)) = false := by simp; omega
      rw [e]; simpa using this
    · have : q < k := Nat.lt_of_mul_lt_mul_left (a := g) (by rw [Nat.mul_comm g k]; omega)
      have := Bool.toNat_le (decide (g < 2 * r) || (g == 2 * r && q % 2 == 1))
      omega
  · rw [Nat.min_eq_right (by omega)]
    have h3 := @Nat.lt_log2_self n
    have h4 : 2 ^ (n.log2 + 2) = 2 ^ (n.log2 + 1) * 2 := Nat.pow_succ ..
    generalize 2 ^ (n.log2 + 1) = x at *
    rw [h4, Nat.div_eq_of_lt (by omega), Nat.mod_eq_of_lt (by omega)]
    have e : (decide (x * 2 < 2 * n) || (x * 2 == 2 * n && 0 % 2 == 1)) = false := by simp; omega
    rw [e]; simp

/-! ### The nearest rung -/
/-- how many binades are skipped -/
def skip (n : Nat) (q : Int) : Nat := (q + n.log2 - 52).toNat
def rnd (n : Nat) (p : Int) : Nat :=
  if n = 0 then 0 else
  min (skip n (p + 1074) * 4503599627370496 + Toward.even.cut false (n <<< (p + 1074 - skip n (p + 1074)).toNat) (skip n (p + 1074) - (p + 1074)).toNat) 9218868437227405312

theorem nearest_eq (s : Bool) (n : Nat) (p : Int) : double.nearest s n p = double.word s (rnd n p) := by
  unfold Format.nearest rnd
  by_cases h : n = 0
  · rw [if_pos h, if_pos h]
  rw [if_neg h, if_neg h]
  dsimp only
  rw [lp_eq, bn_eq, ir_eq]
  have e0 : ((double.fractionBits : Nat) : Int) = 52 := rfl
  rw [e0]
  have e1 : max (p + (n.log2 : Int) - 52) (-1074) = (skip n (p + 1074) : Int) - 1074 := by unfold skip; omega
  rw [e1]
  have e2 : ((skip n (p + 1074) : Int) - 1074 - -1074).toNat = skip n (p + 1074) := by omega
  have e3 : (p - ((skip n (p + 1074) : Int) - 1074)).toNat = (p + 1074 - skip n (p + 1074)).toNat := by omega
  have e4 : ((skip n (p + 1074) : Int) - 1074 - p).toNat = (skip n (p + 1074) - (p + 1074)).toNat := by omega
  rw [e2, e3, e4]
  rfl

theorem mg_skip (E k : Nat) (hk : k ≤ 9007199254740992) (h : E = 0 ∨ 4503599627370496 ≤ k) : mg (E * 4503599627370496 + k) = k * 2 ^ E := by
  unfold mg
  by_cases h1 : k < 4503599627370496
  · have : E = 0 := by omega
    subst this
    rw [if_pos (by omega)]; simp
  rw [if_neg (by omega)]
  by_cases h2 : k = 9007199254740992
  · subst h2
    have e1 : (E * 4503599627370496 + 9007199254740992) % 4503599627370496 = 0 := by omega
    have e2 : (E * 4503599627370496 + 9007199254740992) / 4503599627370496 - 1 = E + 1 := by omega
    rw [e1, e2, Nat.pow_succ]; omega
  · have e1 : 4503599627370496 + (E * 4503599627370496 + k) % 4503599627370496 = k := by omega
    have e2 : (E * 4503599627370496 + k) / 4503599627370496 - 1 = E := by omega
    rw [e1, e2]

/-- the comparison of a rung with the number 'n * 2 ^ (q - 1074)' -/
def atLeast (n : Nat) (q : Int) (x : Nat) : Prop := x * 2 ^ (-q).toNat ≤ n * 2 ^ q.toNat
def atMost (n : Nat) (q : Int) (x : Nat) : Prop := n * 2 ^ q.toNat ≤ x * 2 ^ (-q).toNat

theorem kept_ge (n : Nat) (q : Int) (E k : Nat) (h : atLeast n q (k * 2 ^ E)) : k ≤ Toward.even.cut false (n <<< (q - E).toNat) (E - q).toNat := by
  apply cut_even_ge
  unfold atLeast at h
  rw [Nat.shiftLeft_eq]
  by_cases hq : 0 ≤ q
  · have e0 : (-q).toNat = 0 := by omega
    rw [e0, Nat.pow_zero, Nat.mul_one] at h
    by_cases hE : (E : Int) ≤ q
    · have e1 : ((E : Int) - q).toNat = 0 := by omega
      have e2 : q.toNat = (q - E).toNat + E := by omega
      rw [e1, Nat.pow_zero, Nat.mul_one]
      rw [e2, Nat.pow_add, ← Nat.mul_assoc] at h
      exact Nat.le_of_mul_le_mul_right h (Nat.two_pow_pos E)
    · have e1 : (q - (E : Int)).toNat = 0 := by omega
      have e2 : E = ((E : Int) - q).toNat + q.toNat := by omega
      rw [e1, Nat.pow_zero, Nat.mul_one]
      rw [e2, Nat.pow_add, ← Nat.mul_assoc] at h
      exact Nat.le_of_mul_le_mul_right h (Nat.two_pow_pos _)
  · have e0 : q.toNat = 0 := by omega
    have e1 : (q - (E : Int)).toNat = 0 := by omega
    have e2 : ((E : Int) - q).toNat = E + (-q).toNat := by omega
    rw [e0, Nat.pow_zero, Nat.mul_one] at h
    rw [e1, Nat.pow_zero, Nat.mul_one, e2, Nat.pow_add, ← Nat.mul_assoc]
    exact h

theorem kept_le (n : Nat) (q : Int) (E k : Nat) (h : atMost n q (k * 2 ^ E)) : Toward.even.cut false (n <<< (q - E).toNat) (E - q).toNat ≤ k := by
  apply cut_even_le
  unfold atMost at h
  rw [Nat.shiftLeft_eq]
  by_cases hq : 0 ≤ q
  · have e0 : (-q).toNat = 0 := by omega
    rw [e0, Nat.pow_zero, Nat.mul_one] at h
    by_cases hE : (E : Int) ≤ q
    · have e1 : ((E : Int) - q).toNat = 0 := by omega
      have e2 : q.toNat = (q - E).toNat + E := by omega
      rw [e1, Nat.pow_zero, Nat.mul_one]
      rw [e2, Nat.pow_add, ← Nat.mul_assoc] at h
      exact Nat.le_of_mul_le_mul_right h (Nat.two_pow_pos E)
    · have e1 : (q - (E : Int)).toNat = 0 := by omega
      have e2 : E = ((E : Int) - q).toNat + q.toNat := by omega
      rw [e1, Nat.pow_zero, Nat.mul_one]
      rw [e2, Nat.pow_add, ← Nat.mul_assoc] at h
      exact Nat.le_of_mul_le_mul_right h (Nat.two_pow_pos _)
  · have e0 : q.toNat = 0 := by omega
    have e1 : (q - (E : Int)).toNat = 0 := by omega
    have e2 : ((E : Int) - q).toNat = E + (-q).toNat := by omega
    rw [e0, Nat.pow_zero, Nat.mul_one] at h
    rw [e1, Nat.pow_zero, Nat.mul_one, e2, Nat.pow_add, ← Nat.mul_assoc]
    exact h

theorem below_top (n : Nat) (q : Int) : n * 2 ^ q.toNat < 9007199254740992 * 2 ^ skip n q * 2 ^ (-q).toNat := by
  have h1 := @Nat.lt_log2_self n
  have e : (9007199254740992 : Nat) = 2 ^ 53 := by decide
  rw [e, ← Nat.pow_add, ← Nat.pow_add]
  refine Nat.lt_of_lt_of_le (Nat.mul_lt_mul_of_pos_right h1 (Nat.two_pow_pos _)) ?_
  rw [← Nat.pow_add]
  refine Nat.pow_le_pow_right (by decide) ?_
  unfold skip
  omega

theorem above_low (n : Nat) (q : Int) (hn : n ≠ 0) (h : skip n q ≠ 0) : atLeast n q (4503599627370496 * 2 ^ skip n q) := by
  unfold atLeast
  have h1 := Nat.log2_self_le hn
  have e : (4503599627370496 : Nat) = 2 ^ 52 := by decide
  rw [e, ← Nat.pow_add, ← Nat.pow_add]
  refine Nat.le_trans ?_ (Nat.mul_le_mul_right _ h1)
  rw [← Nat.pow_add]
  refine Nat.pow_le_pow_right (by decide) ?_
  unfold skip at h ⊢
  omega

/-- THE NEAREST RUNG IS AT LEAST EVERY RUNG THAT THE NUMBER IS AT LEAST. -/
theorem rnd_ge {n : Nat} {p : Int} {r : Nat} (hr : r ≤ 9218868437227405312) (h : atLeast n (p + 1074) (mg r)) : r ≤ rnd n p := by
  unfold rnd
  by_cases hn : n = 0
  · subst hn
    rw [if_pos rfl]
    unfold atLeast at h
    rw [Nat.zero_mul] at h
    have h0 : mg r = 0 := by
      rcases Nat.eq_zero_or_pos (mg r) with h' | h'
      · exact h'
      · have := Nat.mul_pos h' (Nat.two_pow_pos (-(p + 1074)).toNat); omega
    have : mg 0 = 0 := by decide
    exact Nat.le_of_eq (mg_inj (by omega))
  rw [if_neg hn]
  refine Nat.le_min.2 ⟨?_, hr⟩
  generalize p + 1074 = q at *
  generalize hK : Toward.even.cut false (n <<< (q - (skip n q : Int)).toNat) ((skip n q : Int) - q).toNat = K
  have hK1 : K ≤ 9007199254740992 := by
    rw [← hK]; exact kept_le n q _ _ (Nat.le_of_lt (below_top n q))
  have hK2 : skip n q = 0 ∨ 4503599627370496 ≤ K := by
    by_cases h0 : skip n q = 0
    · exact Or.inl h0
    · right; rw [← hK]; exact kept_ge n q _ _ (above_low n q hn h0)
  apply Decidable.byContradiction
  intro hc
  have hlt : skip n q * 4503599627370496 + K < r := Nat.lt_of_not_le hc
  by_cases hk : K = 9007199254740992
  · have h1 := mg_lt hlt
    rw [mg_skip _ _ hK1 hK2, hk] at h1
    have h2 := below_top n q
    unfold atLeast at h
    have h3 := Nat.mul_lt_mul_of_pos_right h1 (Nat.two_pow_pos (-q).toNat)
    omega
  · have h1 : mg (skip n q * 4503599627370496 + (K + 1)) ≤ mg r := mg_le (by omega)
    rw [mg_skip _ _ (by omega) (by omega)] at h1
    have h2 : atLeast n q ((K + 1) * 2 ^ skip n q) := by
      unfold atLeast at h ⊢
      exact Nat.le_trans (Nat.mul_le_mul_right _ h1) h
    have h3 := kept_ge n q _ _ h2
    omega

theorem rnd_le {n : Nat} {p : Int} {r : Nat} (h : atMost n (p + 1074) (mg r)) : rnd n p ≤ r := by
  unfold rnd
  by_cases hn : n = 0
  · subst hn; rw [if_pos rfl]; omega
  rw [if_neg hn]
  refine Nat.le_trans (Nat.min_le_left _ _) ?_
  generalize p + 1074 = q at *
  generalize hK : Toward.even.cut false (n <<< (q - (skip n q : Int)).toNat) ((skip n q : Int) - q).toNat = K
  have hK1 : K ≤ 9007199254740992 := by
    rw [← hK]; exact kept_le n q _ _ (Nat.le_of_lt (below_top n q))
  have hK2 : skip n q = 0 ∨ 4503599627370496 ≤ K := by
    by_cases h0 : skip n q = 0
    · exact Or.inl h0
    · right; rw [← hK]; exact kept_ge n q _ _ (above_low n q hn h0)
  apply Decidable.byContradiction
  intro hc
  have hlt : r < skip n q * 4503599627370496 + K := Nat.lt_of_not_le hc
  by_cases hk : skip n q ≠ 0 ∧ K = 4503599627370496
  · obtain ⟨k1, k2⟩ := hk
    have h1 := mg_lt hlt
    rw [mg_skip _ _ hK1 hK2, k2] at h1
    have h2 := above_low n q hn k1
    unfold atMost at h
    unfold atLeast at h2
    have h3 := Nat.mul_lt_mul_of_pos_right h1 (Nat.two_pow_pos (-q).toNat)
    omega
  · have hK3 : K ≠ 0 := by
      intro h0; subst h0
      rcases hK2 with h' | h'
      · rw [h'] at hlt; omega
      · omega
    have h1 : mg r ≤ mg (skip n q * 4503599627370496 + (K - 1)) := mg_le (by omega)
    rw [mg_skip _ _ (by omega) (by omega)] at h1
    have h2 : atMost n q ((K - 1) * 2 ^ skip n q) := by
      unfold atMost at h ⊢
      exact Nat.le_trans h (Nat.mul_le_mul_right _ h1)
    have h3 := kept_le n q _ _ h2
    omega

theorem rnd_inf (n : Nat) (p : Int) : rnd n p ≤ 9218868437227405312 := by
  unfold rnd
  split
  · omega
  · exact Nat.min_le_right _ _

/-- exact numbers are met -/
theorem rnd_exact {n : Nat} {p : Int} {r : Nat} (hr : r ≤ 9218868437227405312) (h : n * 2 ^ (p + 1074).toNat = mg r * 2 ^ (-(p + 1074)).toNat) : rnd n p = r :=
  Nat.le_antisymm (rnd_le (Nat.le_of_eq h)) (rnd_ge hr (Nat.le_of_eq h.symm))

/-- every whole number of at most 53 binary digits, times a power of two, is a rung's -/
theorem rung_of (e : Nat) : ∀ (m : Nat), m ≤ 9007199254740992 → ∃ r, mg r = m * 2 ^ e := by
  induction e with
  | zero =>
    intro m hm
    refine ⟨m, ?_⟩
    have := mg_skip 0 m hm (Or.inl rfl)
    simpa using this
  | succ e ih =>
    intro m hm
    by_cases h : 4503599627370496 ≤ m
    · exact ⟨(e + 1) * 4503599627370496 + m, mg_skip _ _ hm (Or.inr h)⟩
    · obtain ⟨r, hr⟩ := ih (2 * m) (by omega)
      exact ⟨r, by rw [hr, Nat.pow_succ, Nat.mul_comm 2 m, Nat.mul_assoc, Nat.mul_comm 2]⟩

/-! ### Signs and rungs of words -/
theorem rung_word (s : Bool) {r : Nat} (h : r ≤ 9218868437227405312) : rung (double.word s r) = r := by
  unfold rung Format.word
  rw [sw_eq]
  cases s <;> simp <;> omega
theorem neg_word (s : Bool) {r : Nat} (h : r ≤ 9218868437227405312) : neg (double.word s r) = s := by
  unfold neg Format.word
  rw [sw_eq]
  cases s
  · simp; omega
  · simp; omega
theorem word_eta {b : Nat} (h : b < 18446744073709551616) : double.word (neg b) (rung b) = b := by
  unfold neg rung Format.word
  rw [sw_eq]
  by_cases h1 : b / 9223372036854775808 % 2 = 1
  · simp [h1]; omega
  · simp [h1]; omega

theorem nearest_nn (s : Bool) (n : Nat) (p : Int) : nn (double.nearest s n p) := by
  rw [nearest_eq]; unfold nn; rw [rung_word _ (rnd_inf n p)]; exact rnd_inf n p

end Go.Proofs.Ytdfhefnjoekgbaa.Fl
