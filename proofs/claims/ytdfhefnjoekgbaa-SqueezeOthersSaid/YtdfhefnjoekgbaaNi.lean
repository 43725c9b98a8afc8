/- Contracts of the functions of num and rebusref03: truths, signs, sizes, whole numbers below and above. -/
import Derived.Test.YtdfhefnjoekgbaaNd
import Derived.Laws.Externs
namespace Go.Proofs.Ytdfhefnjoekgbaa
open Go.RowKit Fl

namespace Fl
/-! ### The other sign -/
theorem xor_sign {b : Nat} (hb : b < 18446744073709551616) : b ^^^ 9223372036854775808 = opp b := by
  have h1 : b = rung b + (b / 9223372036854775808) * 9223372036854775808 := by unfold rung; omega
  have h2 : b / 9223372036854775808 < 2 := by omega
  have hr : rung b < 2 ^ 63 := rung_lt b
  have key : ∀ x, x < 2 ^ 63 → x ^^^ 2 ^ 63 = x + 2 ^ 63 ∧ (x + 2 ^ 63) ^^^ 2 ^ 63 = x := by
    intro x hx
    have e1 : x ^^^ 2 ^ 63 = x + 2 ^ 63 := by
      have h3 := Nat.two_pow_add_eq_or_of_lt hx 1
      rw [Nat.mul_one] at h3
      rw [Nat.add_comm, h3]
      apply Nat.eq_of_testBit_eq
      intro i
      rw [Nat.testBit_xor, Nat.testBit_or, Nat.testBit_two_pow]
      by_cases hi : i = 63
      · subst hi
        rw [Nat.testBit_lt_two_pow hx]; simp
      · have : decide (63 = i) = false := by simp; omega
        rw [this]; simp
    exact ⟨e1, by rw [← e1, Nat.xor_assoc, Nat.xor_self, Nat.xor_zero]⟩
  obtain ⟨k1, k2⟩ := key (rung b) hr
  unfold opp Ieee.Format.word neg
  rw [sw_eq]
  have h3 : b / 9223372036854775808 = 0 ∨ b / 9223372036854775808 = 1 := by omega
  rcases h3 with h3 | h3
  · rw [h3] at h1 ⊢
    have e : b = rung b := by omega
    rw [show (9223372036854775808 : Nat) = 2 ^ 63 by decide] at *
    conv => lhs; rw [e]
    rw [k1]; simp; omega
  · rw [h3] at h1 ⊢
    rw [show (9223372036854775808 : Nat) = 2 ^ 63 by decide] at *
    have e : b = rung b + 2 ^ 63 := by omega
    conv => lhs; rw [e]
    rw [k2]; simp
theorem opp_key {b : Nat} (h : nn b) : key (opp b) = -key b := by
  unfold key
  rw [opp_rung h, opp_neg h]
  cases neg b <;> simp
theorem opp_nn {b : Nat} (h : nn b) : nn (opp b) := by unfold nn; rw [opp_rung h]; exact h
theorem word_lt64 (s : Bool) {r : Nat} (h : r < 9223372036854775808) : Ieee.double.word s r < 18446744073709551616 := by
  unfold Ieee.Format.word
  rw [sw_eq]
  split <;> omega
theorem opp_lt (b : Nat) : opp b < 18446744073709551616 := word_lt64 _ (rung_lt b)
theorem opp_opp {b : Nat} (h : nn b) (hb : b < 18446744073709551616) : opp (opp b) = b := by
  unfold opp
  rw [neg_word _ h, rung_word _ h, Bool.not_not]
  exact word_eta hb
/-- a tidy number with the other sign -/
def ng (b : Nat) : Nat := norm (opp b)
theorem ng_tidy {b : Nat} (h : fin b) : tidy (ng b) := tidy_norm (by unfold fin; rw [opp_rung h.nn]; exact h) (opp_lt b)
theorem ng_key {b : Nat} (h : fin b) : key (ng b) = -key b := by unfold ng; rw [key_norm, opp_key h.nn]
theorem sv_opp {b : Nat} (h : nn b) : sv (opp b) = - sv b := by
  unfold sv
  rw [opp_rung h, opp_neg h]
  cases neg b <;> simp [sg]
theorem zero_sub {b : Nat} (h : tidy b) : fsub 0 b = ng b := by
  have f0 : fin 0 := by decide
  have h1 := sub_some f0 h.1
  have hk : key (fsub 0 b) = key (ng b) := by
    rw [ng_key h.1, ← opp_key h.1.nn]
    refine fsub_key f0 h.1 (opp_nn h.1.nn) ?_
    rw [sv_opp h.1.nn, show sv 0 = 0 by decide]; omega
  by_cases hz : rung b = 0
  · have hb := h.2.2 hz
    subst hb
    decide
  · have hn := norm_key h1.2.2 (ng_tidy h.1).2.1 hk
    rw [norm_tidy (ng_tidy h.1)] at hn
    have hr : rung (fsub 0 b) ≠ 0 := by
      intro h0
      have h2 : key (fsub 0 b) = 0 := by unfold key; rw [h0]; simp
      rw [hk, ng_key h.1] at h2
      unfold key at h2
      split at h2 <;> omega
    unfold norm at hn
    rw [if_neg hr] at hn
    exact hn
/-- a number and nothing is that number -/
theorem add_zero {b : Nat} (h : tidy b) : fadd b 0 = b := by
  have f0 : fin 0 := by decide
  have h1 := add_some h.1 f0
  have hk : key (fadd b 0) = key b := fadd_key h.1 f0 h.1.nn (by rw [show sv 0 = 0 by decide]; omega)
  by_cases hz : rung b = 0
  · have hb := h.2.2 hz
    subst hb
    decide
  · have hn := norm_key h1.2.2 h.2.1 hk
    rw [norm_tidy h] at hn
    have hr : rung (fadd b 0) ≠ 0 := by
      intro h0
      have h2 : key (fadd b 0) = 0 := by unfold key; rw [h0]; simp
      rw [hk] at h2
      unfold key at h2
      split at h2 <;> omega
    unfold norm at hn
    rw [if_neg hr] at hn
    exact hn
theorem ng_fi {n : Int} (h : G n) : ng (fi n) = fi (-n) := by
  have f1 := fi_fin h.1 h.2
  have h' : G (-n) := by unfold G at *; omega
  refine tidy_key (ng_tidy f1) (fi_tidy h'.1 h'.2) ?_
  rw [ng_key f1, ← opp_key f1.nn, key_inj, sv_opp f1.nn, fi_sv h.1 h.2, fi_sv h'.1 h'.2, Int.neg_mul]

/-! ### Whole numbers below and above -/
def flI (b : Nat) : Int := sv b / (U : Int)
/-- the greatest whole number that isn't above -/
def flN (b : Nat) : Nat := if small b then fi (flI b) else b
def ceN (b : Nat) : Nat := ng (flN (ng b))

theorem cut_down (s : Bool) (n d : Nat) : Ieee.Toward.down.cut s n d = n / 2 ^ d + (s && n % 2 ^ d != 0).toNat := by
  unfold Ieee.Toward.cut
  simp only [shl_one]
  by_cases hd : d ≤ n.log2 + 2
  · rw [Nat.min_eq_left hd]
  · rw [Nat.min_eq_right (by omega)]
    have h3 := @Nat.lt_log2_self n
    have h4 : 2 ^ (n.log2 + 1) ≤ 2 ^ (n.log2 + 2) := Nat.pow_le_pow_right (by decide) (by omega)
    have h5 : 2 ^ (n.log2 + 1) ≤ 2 ^ d := Nat.pow_le_pow_right (by decide) (by omega)
    rw [Nat.div_eq_of_lt (by omega), Nat.div_eq_of_lt (by omega), Nat.mod_eq_of_lt (by omega), Nat.mod_eq_of_lt (by omega)]
theorem cut_up (s : Bool) (n d : Nat) : Ieee.Toward.up.cut s n d = n / 2 ^ d + (!s && n % 2 ^ d != 0).toNat := by
  unfold Ieee.Toward.cut
  simp only [shl_one]
  by_cases hd : d ≤ n.log2 + 2
  · rw [Nat.min_eq_left hd]
  · rw [Nat.min_eq_right (by omega)]
    have h3 := @Nat.lt_log2_self n
    have h4 : 2 ^ (n.log2 + 1) ≤ 2 ^ (n.log2 + 2) := Nat.pow_le_pow_right (by decide) (by omega)
    have h5 : 2 ^ (n.log2 + 1) ≤ 2 ^ d := Nat.pow_le_pow_right (by decide) (by omega)
    rw [Nat.div_eq_of_lt (by omega), Nat.div_eq_of_lt (by omega), Nat.mod_eq_of_lt (by omega), Nat.mod_eq_of_lt (by omega)]
theorem scale_mod (m e : Nat) : ((m <<< (-1074 + (e : Int)).toNat) % 2 ^ (-(-1074 + (e : Int))).toNat != 0) = (m * 2 ^ e % U != 0) := by
  rw [Nat.shiftLeft_eq]
  unfold U
  by_cases h : 1074 ≤ e
  · have e1 : (-(-1074 + (e : Int))).toNat = 0 := by omega
    have e3 : e = e - 1074 + 1074 := by omega
    rw [e1, Nat.pow_zero, Nat.mod_one]
    conv => rhs; rw [e3, Nat.pow_add, ← Nat.mul_assoc, Nat.mul_mod_left]
  · have e1 : (-(-1074 + (e : Int))).toNat = 1074 - e := by omega
    have e2 : (-1074 + (e : Int)).toNat = 0 := by omega
    have e3 : 1074 = (1074 - e) + e := by omega
    rw [e1, e2, Nat.pow_zero, Nat.mul_one]
    conv => rhs; rw [e3, Nat.pow_add]
    rw [Nat.mul_mod_mul_right, Bool.eq_iff_iff]
    have := Nat.two_pow_pos e
    simp only [bne_iff_ne, ne_eq, Nat.mul_eq_zero]
    omega
/-- the magnitude of what is told below and above -/
def flM (b : Nat) : Nat := mg (rung b) / U + (neg b && mg (rung b) % U != 0).toNat
def ceM (b : Nat) : Nat := mg (rung b) / U + (!neg b && mg (rung b) % U != 0).toNat
theorem floor_word {b : Nat} (h : fin b) : FloatKind.f64.encode ((FloatKind.f64.decode b).integral .down) = Ieee.double.word (neg b) (rnd (flM b) 0) := by
  obtain ⟨m, e, rb, vb⟩ := read_fin h
  show Ieee.double.write ((Ieee.double.read b).integral .down) = _
  rw [rb]
  simp only [Ieee.Datum.integral]
  rw [cut_down, scale_div, scale_mod, vb]
  exact nearest_eq _ _ _
theorem ceil_word {b : Nat} (h : fin b) : FloatKind.f64.encode ((FloatKind.f64.decode b).integral .up) = Ieee.double.word (neg b) (rnd (ceM b) 0) := by
  obtain ⟨m, e, rb, vb⟩ := read_fin h
  show Ieee.double.write ((Ieee.double.read b).integral .up) = _
  rw [rb]
  simp only [Ieee.Datum.integral]
  rw [cut_up, scale_div, scale_mod, vb]
  exact nearest_eq _ _ _
theorem rnd_whole {m r : Nat} (hr : r ≤ 9218868437227405312) (h : m * U = mg r) : rnd m 0 = r := by
  refine rnd_exact hr ?_
  have e1 : ((0 : Int) + 1074).toNat = 1074 := by decide
  have e2 : (-((0 : Int) + 1074)).toNat = 0 := by decide
  rw [e1, e2, ← h, U, Nat.pow_zero, Nat.mul_one]
/-- beyond 2^53 every number is whole -/
theorem big_whole {b : Nat} (hs : ¬ small b) : mg (rung b) % U = 0 := by
  unfold small at hs
  unfold mg
  rw [if_neg (by omega)]
  have h1 : rung b / 4503599627370496 - 1 = (rung b / 4503599627370496 - 1 - 1074) + 1074 := by omega
  rw [h1, Nat.pow_add, ← Nat.mul_assoc]
  unfold U
  exact Nat.mul_mod_left _ _
theorem big_div {b : Nat} (hs : ¬ small b) : mg (rung b) / U * U = mg (rung b) := Nat.div_mul_cancel (Nat.dvd_of_mod_eq_zero (big_whole hs))
theorem floor_big {b : Nat} (h : fin b) (hb : b < 18446744073709551616) (hs : ¬ small b) : Ieee.double.word (neg b) (rnd (flM b) 0) = b := by
  have hm : rnd (flM b) 0 = rung b := by
    refine rnd_whole h.nn ?_
    unfold flM
    rw [big_whole hs]
    simpa using big_div hs
  rw [hm, word_eta hb]
theorem ceil_big {b : Nat} (h : fin b) (hb : b < 18446744073709551616) (hs : ¬ small b) : Ieee.double.word (neg b) (rnd (ceM b) 0) = b := by
  have hm : rnd (ceM b) 0 = rung b := by
    refine rnd_whole h.nn ?_
    unfold ceM
    rw [big_whole hs]
    simpa using big_div hs
  rw [hm, word_eta hb]
theorem sv_div (b : Nat) : sv b / (U : Int) = if neg b then -(flM b : Int) else flM b := by
  have hU := U_pos
  unfold sv flM sg
  have h1 := Nat.div_add_mod (mg (rung b)) U
  have h2 := Nat.mod_lt (mg (rung b)) hU
  generalize mg (rung b) = x at *
  cases neg b
  · simp
  · simp only [if_true, Bool.true_and]
    generalize hq : x / U = q at *
    generalize hr : x % U = r at *
    have h3 : (x : Int) = (U : Int) * q + r := by exact_mod_cast h1.symm
    by_cases h0 : r = 0
    · subst h0
      simp only [bne_self_eq_false, Bool.toNat_false, Nat.add_zero]
      rw [h3]
      simp only [Int.natCast_zero, Int.add_zero]
      rw [← Int.mul_neg, Int.mul_ediv_cancel_left _ (by omega)]
    · have e : (r != 0) = true := by simp; omega
      rw [e]
      simp only [Bool.toNat_true]
      have h4 : -(x : Int) = ((U : Int) - r) + (U : Int) * (-((q + 1 : Nat) : Int)) := by
        rw [h3, Int.mul_neg, Int.natCast_add, Int.mul_add]; omega
      rw [h4, Int.add_mul_ediv_left _ _ (by omega), Int.ediv_eq_zero_of_lt (by omega) (by omega)]
      omega
theorem flM_le {b : Nat} (hs : small b) : flM b ≤ 9007199254740992 := by
  have h := small_mg.1 hs
  unfold flM
  have hU := U_pos
  by_cases h0 : mg (rung b) % U = 0
  · rw [h0]
    have : mg (rung b) / U ≤ 9007199254740992 := Nat.div_le_of_le_mul (by rw [Nat.mul_comm]; exact h)
    simpa using this
  · have h1 : mg (rung b) < 9007199254740992 * U := by
      rcases Nat.lt_or_eq_of_le h with h2 | h2
      · exact h2
      · rw [h2, Nat.mul_mod_left] at h0; exact absurd rfl h0
    have h2 : mg (rung b) / U < 9007199254740992 := (Nat.div_lt_iff_lt_mul hU).2 h1
    have h3 := Bool.toNat_le (neg b && mg (rung b) % U != 0)
    omega
theorem flI_G {b : Nat} (hs : small b) : G (flI b) := by
  have h := flM_le hs
  unfold flI
  rw [sv_div]
  unfold G
  split <;> omega
theorem floor_small {b : Nat} (hs : small b) : norm (Ieee.double.word (neg b) (rnd (flM b) 0)) = fi (flI b) := by
  have hG := flI_G hs
  have hr := fi_rung hG.1 hG.2
  have hM : (flI b).natAbs = flM b := by
    unfold flI; rw [sv_div]; split <;> omega
  have h1 : rnd (flM b) 0 = rung (fi (flI b)) := by
    rw [← hM]
    exact rnd_whole (by omega) hr.1.symm
  rw [← norm_tidy (fi_tidy hG.1 hG.2)]
  refine norm_key (word_lt64 _ (by rw [h1]; exact rung_lt _)) (fi_lt64 _) ?_
  rw [h1]
  have h2 : neg (fi (flI b)) = decide (flI b < 0) := fi_neg _
  unfold key
  rw [rung_word _ (by omega), neg_word _ (by omega), h2]
  by_cases h0 : flI b = 0
  · have : rung (fi (flI b)) = 0 := by rw [h0]; decide
    rw [this]; simp
  · have h3 : decide (flI b < 0) = neg b := by
      unfold flI at h0 ⊢
      rw [sv_div] at h0 ⊢
      cases hn : neg b <;> simp [hn] at h0 ⊢
      omega
    rw [h3]
end Fl
end Go.Proofs.Ytdfhefnjoekgbaa
