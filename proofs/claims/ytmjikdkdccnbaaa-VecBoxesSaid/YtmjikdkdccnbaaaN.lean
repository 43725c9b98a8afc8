/- Contracts of the functions of num and rebusref03 on single words, but for the powers and the whole numbers.
   Contracts of the functions of num and rebusref03, more: sums, products, quotients, the greater and the lesser one, wholeness, sameness.
   Contracts of the functions of num and rebusref03 on whole numbers.
   Contracts of the functions of num and rebusref03 on whole numbers: products, rests.
   Contracts of the functions of num and rebusref03: truths, signs, sizes, whole numbers below and above.
   Contracts of the functions of num and rebusref03: truths, signs, sizes, whole numbers below and above: the walks. -/
import Derived.Test.YtmjikdkdccnbaaaRows
import Derived.Test.YtmjikdkdccnbaaaF
import Derived.WalkKit
import Derived.WalkSpells
import Derived.WalkLawsBesides
import Derived.Lib.Hide
import Derived.Laws.Externs
namespace Go.Proofs.Ytmjikdkdccnbaaa
open Go.RowKit Fl

namespace Fl
theorem key_max : key 9218868437227405311 = 9218868437227405311 := by decide
theorem key_nmax : key 18442240474082181119 = -9218868437227405311 := by decide
theorem key_zero : key 0 = 0 := by decide
theorem key_top : key 4845873199050653696 = 4845873199050653696 := by decide
theorem key_ntop : key 14069245235905429504 = -4845873199050653696 := by decide
theorem key_one : key 4607182418800017408 = 4607182418800017408 := by decide
theorem nn_max : nn 9218868437227405311 := by decide
theorem nn_nmax : nn 18442240474082181119 := by decide
theorem nn_zero : nn 0 := by decide
theorem nn_top : nn 4845873199050653696 := by decide
theorem nn_ntop : nn 14069245235905429504 := by decide
theorem nn_one : nn 4607182418800017408 := by decide
theorem fin_one : fin 4607182418800017408 := by decide
theorem key_abs (b : Nat) : key b = rung b ∨ key b = -(rung b : Int) := by unfold key; split <;> simp
theorem eq_zero {b : Nat} (h : nn b) : (FloatKind.f64.format.order b 0 == some .eq) = decide (rung b = 0) := by
  rw [c_eq h nn_zero, key_zero]
  have := key_abs b
  by_cases e : rung b = 0
  · simp [e]; omega
  · simp [e]; omega
theorem ne_zero {b : Nat} (h : nn b) : (FloatKind.f64.format.order b 0 != some .eq) = !decide (rung b = 0) := by
  rw [← eq_zero h]; rfl
/-- what Tidy makes of a word -/
def dn (b : Nat) : Nat := if fin b then norm b else 0
def de (b : Nat) : Int := if fin b then 0 else 24
theorem dn_tidy (b : Nat) (hb : b < 18446744073709551616) : tidy (dn b) := by
  unfold dn
  split
  · exact tidy_norm ‹_› hb
  · exact ⟨by decide, by decide, fun _ => rfl⟩
theorem dn_of {b : Nat} (h : fin b) : dn b = norm b := if_pos h
/-- the tests of Tidy -/
structure TidyTests (b : Nat) : Prop where
  ne : (FloatKind.f64.format.order b b != some .eq) = !decide (nn b)
  gt : (FloatKind.f64.format.order b 9218868437227405311 == some .gt) = decide (rung b = 9218868437227405312 ∧ neg b = false)
  lt : (FloatKind.f64.format.order b 18442240474082181119 == some .lt) = decide (rung b = 9218868437227405312 ∧ neg b = true)
  ge : (FloatKind.f64.format.order b 18442240474082181119 == some .gt || FloatKind.f64.format.order b 18442240474082181119 == some .eq) = decide (nn b ∧ ¬ (rung b = 9218868437227405312 ∧ neg b = true))
  le : (FloatKind.f64.format.order b 9218868437227405311 == some .lt || FloatKind.f64.format.order b 9218868437227405311 == some .eq) = decide (nn b ∧ ¬ (rung b = 9218868437227405312 ∧ neg b = false))
theorem tidy_tests (b : Nat) : TidyTests b := by
  by_cases h : nn b
  · have hr : rung b ≤ 9218868437227405312 := h
    refine ⟨?_, ?_, ?_, ?_, ?_⟩
    · rw [c_ne h h]; simp [h]
    · rw [c_gt h nn_max, key_max]; unfold key; cases neg b <;> simp <;> omega
    · rw [c_lt h nn_nmax, key_nmax]; unfold key; cases neg b <;> simp <;> omega
    · rw [c_gt h nn_nmax, c_eq h nn_nmax, key_nmax]; unfold key; cases neg b <;> simp [h] <;> first | omega | (rw [Bool.eq_iff_iff]; simp; omega)
    · rw [c_lt h nn_max, c_eq h nn_max, key_max]; unfold key; cases neg b <;> simp [h] <;> first | omega | (rw [Bool.eq_iff_iff]; simp; omega)
  · have hr : rung b ≠ 9218868437227405312 := by unfold nn at h; omega
    refine ⟨?_, ?_, ?_, ?_, ?_⟩
    · rw [c_nen (.inl h)]; simp [h]
    · rw [c_nan (.inl h)]; simp [hr]
    · rw [c_nan (.inl h)]; simp [hr]
    · rw [c_nan (.inl h), c_nan (.inl h)]; simp [h]
    · rw [c_nan (.inl h), c_nan (.inl h)]; simp [h]
/-- the three classes of words, for walks -/
theorem classes (b : Nat) : (fin b ∧ nn b ∧ rung b ≠ 9218868437227405312) ∨ (¬ fin b ∧ ¬ nn b ∧ rung b ≠ 9218868437227405312) ∨ (¬ fin b ∧ nn b ∧ rung b = 9218868437227405312) := by
  unfold fin nn; omega
end Fl

/-! ### Tidy -/
set_option maxHeartbeats 400000 in
theorem tidy_any (b : Nat) (w : World) :
    Calls Try.prog 44 #[.float .f64 b] w fun e w' => e = .returned (.tuple #[.float .f64 (dn b), .bool (decide (fin b))]) ∧ w = w' := by
  obtain ⟨c1, c2, c3, _, _⟩ := tidy_tests b
  rcases classes b with ⟨h, hn, hi⟩ | ⟨h, hn, hi⟩ | ⟨h, hn, hi⟩
  · have c4 := eq_zero hn
    rw [dn_of h]
    unfold norm
    simp only [hn, hi, false_and, decide_true, decide_false, Bool.not_true] at c1 c2 c3
    rw [decide_eq_true h]
    by_cases e : rung b = 0
    all_goals
      simp only [e, decide_true, decide_false] at c4
      first | rw [if_pos e] | rw [if_neg e]
      clear h hn hi e
      go_enter Try.func44, Try.ntmps44
      go_wp2
      go_ret2
      exact ⟨rfl, rfl⟩
  · simp only [hn, hi, false_and, decide_false, Bool.not_false] at c1 c2 c3
    unfold dn
    rw [decide_eq_false h, if_neg h]
    clear h hn hi
    go_enter Try.func44, Try.ntmps44
    go_wp2
    go_ret2
    exact ⟨rfl, rfl⟩
  · simp only [hn, decide_true, Bool.not_true] at c1
    simp only [hi, true_and] at c2 c3
    unfold dn
    rw [decide_eq_false h, if_neg h]
    cases hs : neg b
    all_goals
      simp only [hs, decide_true, Bool.false_eq_true, Bool.true_eq_false, decide_false] at c2 c3
      clear h hn hi hs
      go_enter Try.func44, Try.ntmps44
      go_wp2
      go_ret2
      exact ⟨rfl, rfl⟩

end Go.Proofs.Ytmjikdkdccnbaaa

namespace Go.Proofs.Ytmjikdkdccnbaaa
open Go.RowKit Fl

set_option maxHeartbeats 400000
/-! ### Add, Sub, Mul, Div -/
/-- a quotient: nothing by nothing is 1 -/
def dvN (a b : Nat) : Nat := if rung b = 0 then (if rung a = 0 then 4607182418800017408 else 0) else dn (fdiv a b)
def dvE (a b : Nat) : Int := if rung b = 0 then (if rung a = 0 then 0 else 24) else de (fdiv a b)
/-! ### Max, Min, Sign, Abs, Flag, Truth -/
def fmax (a b : Nat) : Nat := if key a < key b then b else a
def fmin (a b : Nat) : Nat := if key b < key a then b else a
/-! ### Whole -/
theorem small_ge {b : Nat} : (FloatKind.f64.format.order b 14069245235905429504 == some .gt || FloatKind.f64.format.order b 14069245235905429504 == some .eq) = decide (nn b ∧ (neg b = true → small b)) := by
  by_cases h : nn b
  · rw [c_gt h nn_ntop, c_eq h nn_ntop, key_ntop]; unfold key small; cases neg b <;> simp [h] <;> first | omega | (rw [Bool.eq_iff_iff]; simp; omega)
  · rw [c_nan (.inl h), c_nan (.inl h)]; simp [h]
theorem small_le {b : Nat} : (FloatKind.f64.format.order b 4845873199050653696 == some .lt || FloatKind.f64.format.order b 4845873199050653696 == some .eq) = decide (nn b ∧ (neg b = false → small b)) := by
  by_cases h : nn b
  · rw [c_lt h nn_top, c_eq h nn_top, key_top]; unfold key small; cases neg b <;> simp [h] <;> first | omega | (rw [Bool.eq_iff_iff]; simp; omega)
  · rw [c_nan (.inl h), c_nan (.inl h)]; simp [h]
/-- what Whole makes of a word -/
def wn (b : Nat) : Int := if small b then trn b else 0
theorem back_eq {b : Nat} (h : small b) : (FloatKind.f64.format.order (floatOfInt .f64 (trn b)) b == some .eq) = decide (whole b) := by
  have hb := trn_le h
  rw [fi_conv, c_eq (fi_fin hb.1 hb.2).nn h.fin.nn]
  exact decide_eq_decide.2 (whole_key h)
/-! ### The references: Finite, Tidy, Done, Reckon, Bits -/
theorem finite_any (b : Nat) (w : World) :
    Calls Try.prog 48 #[.float .f64 b] w fun e w' => e = .returned (.bool (decide (fin b))) ∧ w = w' := by
  obtain ⟨_, _, _, c4, c5⟩ := tidy_tests b
  rcases classes b with ⟨h, hn, hi⟩ | ⟨h, hn, hi⟩ | ⟨h, hn, hi⟩
  · simp only [hn, hi, false_and, not_false_eq_true, and_self, decide_true] at c4 c5
    rw [decide_eq_true h]
    clear h hn hi
    go_enter Try.func48, Try.ntmps48
    go_wp2
    go_ret
    exact ⟨rfl, rfl⟩
  · simp only [hn, false_and, decide_false] at c4 c5
    rw [decide_eq_false h]
    clear h hn hi
    go_enter Try.func48, Try.ntmps48
    go_wp2
    go_ret
    exact ⟨rfl, rfl⟩
  · simp only [hn, hi, true_and] at c4 c5
    rw [decide_eq_false h]
    cases hs : neg b
    all_goals
      simp only [hs, Bool.false_eq_true, Bool.true_eq_false, not_true_eq_false, not_false_eq_true, decide_true, decide_false] at c4 c5
      clear h hn hi hs
      go_enter Try.func48, Try.ntmps48
      go_wp2
      go_ret
      exact ⟨rfl, rfl⟩
theorem rtidy_any (b : Nat) (w : World) :
    Calls Try.prog 45 #[.float .f64 b] w fun e w' => e = .returned (.tuple #[.float .f64 (dn b), .bool (decide (fin b))]) ∧ w = w' := by
  have c := finite_any b w
  by_cases h : fin b
  · have c4 := eq_zero h.nn
    rw [dn_of h]
    unfold norm
    rw [decide_eq_true h] at c ⊢
    by_cases e : rung b = 0
    all_goals
      simp only [e, decide_true, decide_false] at c4
      first | rw [if_pos e] | rw [if_neg e]
      clear h e
      go_enter Try.func45, Try.ntmps45
      go_wp2_with (go_at_call 48; refine c.mono ?_; rintro e w' ⟨rfl, rfl⟩)
      go_ret2
      exact ⟨rfl, rfl⟩
  · rw [decide_eq_false h] at c ⊢
    unfold dn
    rw [if_neg h]
    clear h
    go_enter Try.func45, Try.ntmps45
    go_wp2_with (go_at_call 48; refine c.mono ?_; rintro e w' ⟨rfl, rfl⟩)
    go_ret2
    exact ⟨rfl, rfl⟩
theorem bits_any (a b : Nat) (ha : nn a) (hb : nn b) (la : a < 18446744073709551616) (lb : b < 18446744073709551616) (w : World) :
    Calls Try.prog 49 #[.float .f64 a, .float .f64 b] w fun e w' => e = .returned (.bool (decide (a = b))) ∧ w = w' := by
  have c1 := c_eq ha hb
  have c2 := ne_zero ha
  by_cases h : key a = key b
  · simp only [h, decide_true] at c1
    by_cases g : rung a = 0
    · simp only [g, decide_true, Bool.not_true] at c2
      have g' : rung b = 0 := by unfold key at h; rw [g] at h; split at h <;> split at h <;> omega
      have r1 := @run_div Try.prog _ _ fin_one (show fin a by unfold fin; omega) (by rw [show rung 4607182418800017408 = 4607182418800017408 by decide]; omega)
      have r2 := @run_div Try.prog _ _ fin_one (show fin b by unfold fin; omega) (by rw [show rung 4607182418800017408 = 4607182418800017408 by decide]; omega)
      have hv : decide (a = b) = (FloatKind.f64.format.order (fdiv 4607182418800017408 a) (fdiv 4607182418800017408 b) == some .eq) := by
        rw [div_zero fin_one (by decide) g, div_zero fin_one (by decide) g']
        have n1 : ∀ s, nn (Ieee.double.word s 9218868437227405312) := by intro s; unfold nn; rw [rung_word _ (by omega)]; omega
        rw [c_eq (n1 _) (n1 _)]
        rw [decide_eq_decide]
        have e1 : neg 4607182418800017408 = false := by decide
        rw [e1]
        unfold key
        rw [neg_word _ (by omega), neg_word _ (by omega), rung_word _ (by omega), rung_word _ (by omega)]
        rw [← word_eta la, ← word_eta lb, g, g']
        cases neg a <;> cases neg b <;> decide
      rw [hv]
      clear hv g g' h
      go_enter Try.func49, Try.ntmps49
      go_wp2
      go_ret
      exact ⟨rfl, rfl⟩
    · simp only [g, decide_false, Bool.not_false] at c2
      have hv : a = b := by
        have h1 := norm_key la lb h
        unfold norm at h1
        rw [if_neg g, if_neg (by unfold key at h; intro g'; rw [g'] at h; split at h <;> split at h <;> omega)] at h1
        exact h1
      rw [decide_eq_true hv]
      clear hv g h
      go_enter Try.func49, Try.ntmps49
      go_wp2
      go_ret
      exact ⟨rfl, rfl⟩
  · simp only [h, decide_false] at c1
    have hv : ¬ a = b := fun e => h (by rw [e])
    rw [decide_eq_false hv]
    clear hv h c2
    go_enter Try.func49, Try.ntmps49
    go_wp2
    go_ret
    exact ⟨rfl, rfl⟩

end Go.Proofs.Ytmjikdkdccnbaaa

namespace Go.Proofs.Ytmjikdkdccnbaaa
open Go.RowKit Fl

set_option maxHeartbeats 400000
namespace Fl
/-- at most 2^53 in size -/
def G (n : Int) : Prop := -9007199254740992 ≤ n ∧ n ≤ 9007199254740992
instance (n : Int) : Decidable (G n) := inferInstanceAs (Decidable (_ ∧ _))
end Fl

theorem rsmall_any (n : Int) (w : World) :
    Calls Try.prog 38 #[.int .i64 n] w fun e w' => e = .returned (.bool (decide (G n))) ∧ w = w' := by
  by_cases h1 : -9007199254740992 ≤ n
  · by_cases h2 : n ≤ 9007199254740992
    · rw [decide_eq_true (show G n from ⟨h1, h2⟩)]
      go_enter Try.func38, Try.ntmps38
      go_wp2
      go_ret
      exact ⟨rfl, rfl⟩
    · rw [decide_eq_false (show ¬ G n from fun h => h2 h.2)]
      go_enter Try.func38, Try.ntmps38
      go_wp2
      go_ret
      exact ⟨rfl, rfl⟩
  · rw [decide_eq_false (show ¬ G n from fun h => h1 h.1)]
    go_enter Try.func38, Try.ntmps38
    go_wp2
    go_ret
    exact ⟨rfl, rfl⟩
/-- what a whole number's sum, difference or product comes to -/
def gN (n : Int) : Int := if G n then n else 0
end Go.Proofs.Ytmjikdkdccnbaaa

namespace Go.Proofs.Ytmjikdkdccnbaaa
open Go.RowKit Fl

set_option maxHeartbeats 400000
namespace Fl
theorem tmod_bd (a b : Int) (h : a ≠ 0) : -(a.natAbs : Int) < b.tmod a ∧ b.tmod a < a.natAbs := by
  have h1 := Int.natAbs_tmod b a
  have h2 : b.natAbs % a.natAbs < a.natAbs := Nat.mod_lt _ (by omega)
  omega
/-- what is left of b by a, of a's sign; b itself by 0 -/
def restI (a b : Int) : Int := if a = 0 then b else if b.tmod a ≠ 0 ∧ ¬ (b.tmod a < 0 ↔ a < 0) then b.tmod a + a else b.tmod a
theorem rest_zero (a b : Int) (h : ¬ a = 0) (h1 : b.tmod a = 0) : Ending.returned (.int .i64 0) = Ending.returned (.int .i64 (restI a b)) := by
  unfold restI; rw [if_neg h, if_neg (by omega), h1]
theorem rest_turn (a b : Int) (h : ¬ a = 0) (h2 : (b.tmod a != 0) = true ∧ (!decide (b.tmod a < 0) == decide (a < 0)) = true) (a1 : -9223372036854775808 ≤ a) (a2 : a ≤ 9223372036854775807) : Ending.returned (.int .i64 (wrap64 (b.tmod a + a))) = Ending.returned (.int .i64 (restI a b)) := by
  have h3 := tmod_bd a b h
  have h4 : b.tmod a ≠ 0 ∧ ¬ (b.tmod a < 0 ↔ a < 0) := by
    have h5 := h2.1
    have h6 := h2.2
    refine ⟨by simpa using h5, ?_⟩
    intro h7
    by_cases h8 : b.tmod a < 0 <;> by_cases h9 : a < 0 <;> simp [h8, h9] at h6 h7
  unfold restI; rw [if_neg h, if_pos h4]
  congr 2
  unfold wrap64
  omega
theorem rest_stay (a b : Int) (h : ¬ a = 0) (h2 : (b.tmod a != 0) = false ∨ (!decide (b.tmod a < 0) == decide (a < 0)) = false) : Ending.returned (.int .i64 (b.tmod a)) = Ending.returned (.int .i64 (restI a b)) := by
  unfold restI; rw [if_neg h, if_neg]
  rintro ⟨h3, h4⟩
  rcases h2 with h2 | h2
  · simp at h2; exact h3 h2
  · apply h4
    by_cases h5 : b.tmod a < 0 <;> by_cases h6 : a < 0 <;> simp [h5, h6] at h2 ⊢
theorem restI_lt {a b : Int} (a1 : -9223372036854775808 ≤ a) (a2 : a ≤ 9223372036854775807) (b1 : -9223372036854775808 ≤ b) (b2 : b ≤ 9223372036854775807) : -9223372036854775808 ≤ restI a b ∧ restI a b ≤ 9223372036854775807 := by
  unfold restI
  split
  · omega
  · have := tmod_bd a b ‹_›
    split <;> omega
theorem restI_G {a b : Int} (ha : G a) (hb : G b) : G (restI a b) := by
  unfold G at *
  unfold restI
  split
  · exact hb
  · have := tmod_bd a b ‹_›
    split <;> omega
theorem rrest_wrap (a b : Int) (h : a ≠ 0) (h' : a ≠ -1) (b1 : -9223372036854775808 ≤ b) (b2 : b ≤ 9223372036854775807) : wrap64 (b.tdiv a) = b.tdiv a ∧ wrap64 (b - wrap64 (b.tdiv a * a)) = b.tmod a := by
  have h1 := Int.tmod_add_mul_tdiv b a
  have h2 := Int.natAbs_tmod b a
  have h3 : (b.tdiv a).natAbs = b.natAbs / a.natAbs := Int.natAbs_tdiv b a
  have h5 : b.natAbs % a.natAbs ≤ b.natAbs := Nat.mod_le _ _
  have h6 : -9223372036854775808 ≤ b.tdiv a ∧ b.tdiv a ≤ 9223372036854775807 := by
    by_cases ha1 : a = 1
    · subst ha1; rw [Int.tdiv_one]; exact ⟨b1, b2⟩
    · have : b.natAbs / a.natAbs ≤ b.natAbs / 2 := Nat.div_le_div_left (by omega) (by omega)
      omega
  have h7 : wrap64 (b.tdiv a) = b.tdiv a := by unfold wrap64; omega
  have h8 : b.tdiv a * a = b - b.tmod a := by rw [Int.mul_comm]; omega
  have h9 : (b.tmod a < 0 → b < 0) ∧ (0 < b.tmod a → 0 < b) := by
    constructor
    · intro hh; have := Int.tmod_nonneg (a := b) a; omega
    · intro hh; have := Int.tmod_nonneg (a := -b) a; rw [Int.neg_tmod] at this; omega
  refine ⟨h7, ?_⟩
  rw [h8]
  unfold wrap64
  omega
end Fl

theorem ret_intb {a b : Int} {c : Bool} (h : a = b) : Ending.returned (.tuple #[.int .i64 a, .bool c]) = Ending.returned (.tuple #[.int .i64 b, .bool c]) := by rw [h]
end Go.Proofs.Ytmjikdkdccnbaaa

namespace Go.Proofs.Ytmjikdkdccnbaaa
open Go.RowKit Fl

namespace Fl
/-! ### The other sign -/
theorem xor_sign {b : Nat} (hb : b < 18446744073709551616) : b ^^^ 9223372036854775808 = opp b := by
  have h1 : b = rung b + (b / 9223372036854775808) * 9223372036854775808 := by unfold rung; omega
  have h2 : b / 9223372036854775808 < 2 := by omega
  have hr : rung b < 2 ^ 63 := rung_lt b
  have key : ∀ x, x < 2 ^ 63 → x ^^^ 2 ^ 63 = x + 2 ^ 63 ∧ (x + 2 ^ 63) ^^^ 2 ^ 63 = x := by
    intro x hx
    have e1 : x ^^^ 2 ^ 63 = x + 2 ^ 63 := by
      have h3 := Nat.two_pow_add_eq_or_of_lt hx 1
      rw [Nat.mul_one] at h3
      rw [Nat.add_comm, h3]
      apply Nat.eq_of_testBit_eq
      intro i
      rw [Nat.testBit_xor, Nat.testBit_or, Nat.testBit_two_pow]
      by_cases hi : i = 63
      · subst hi
        rw [Nat.testBit_lt_two_pow hx]; simp
      · have : decide (63 = i) = false := by simp; omega
        rw [this]; simp
    exact ⟨e1, by rw [← e1, Nat.xor_assoc, Nat.xor_self, Nat.xor_zero]⟩
  obtain ⟨k1, k2⟩ := key (rung b) hr
  unfold opp Ieee.Format.word neg
  rw [sw_eq]
  have h3 : b / 9223372036854775808 = 0 ∨ b / 9223372036854775808 = 1 := by omega
  rcases h3 with h3 | h3
  · rw [h3] at h1 ⊢
    have e : b = rung b := by omega
    rw [show (9223372036854775808 : Nat) = 2 ^ 63 by decide] at *
    conv => lhs; rw [e]
    rw [k1]; simp; omega
  · rw [h3] at h1 ⊢
    rw [show (9223372036854775808 : Nat) = 2 ^ 63 by decide] at *
    have e : b = rung b + 2 ^ 63 := by omega
    conv => lhs; rw [e]
    rw [k2]; simp
theorem opp_key {b : Nat} (h : nn b) : key (opp b) = -key b := by
  unfold key
  rw [opp_rung h, opp_neg h]
  cases neg b <;> simp
theorem opp_nn {b : Nat} (h : nn b) : nn (opp b) := by unfold nn; rw [opp_rung h]; exact h
theorem word_lt64 (s : Bool) {r : Nat} (h : r < 9223372036854775808) : Ieee.double.word s r < 18446744073709551616 := by
  unfold Ieee.Format.word
  rw [sw_eq]
  split <;> omega
theorem opp_lt (b : Nat) : opp b < 18446744073709551616 := word_lt64 _ (rung_lt b)
theorem opp_opp {b : Nat} (h : nn b) (hb : b < 18446744073709551616) : opp (opp b) = b := by
  unfold opp
  rw [neg_word _ h, rung_word _ h, Bool.not_not]
  exact word_eta hb
/-- a tidy number with the other sign -/
def ng (b : Nat) : Nat := norm (opp b)
theorem ng_tidy {b : Nat} (h : fin b) : tidy (ng b) := tidy_norm (by unfold fin; rw [opp_rung h.nn]; exact h) (opp_lt b)
theorem ng_key {b : Nat} (h : fin b) : key (ng b) = -key b := by unfold ng; rw [key_norm, opp_key h.nn]
theorem sv_opp {b : Nat} (h : nn b) : sv (opp b) = - sv b := by
  unfold sv
  rw [opp_rung h, opp_neg h]
  cases neg b <;> simp [sg]
theorem zero_sub {b : Nat} (h : tidy b) : fsub 0 b = ng b := by
  have f0 : fin 0 := by decide
  have h1 := sub_some f0 h.1
  have hk : key (fsub 0 b) = key (ng b) := by
    rw [ng_key h.1, ← opp_key h.1.nn]
    refine fsub_key f0 h.1 (opp_nn h.1.nn) ?_
    rw [sv_opp h.1.nn, show sv 0 = 0 by decide]; omega
  by_cases hz : rung b = 0
  · have hb := h.2.2 hz
    subst hb
    decide
  · have hn := norm_key h1.2.2 (ng_tidy h.1).2.1 hk
    rw [norm_tidy (ng_tidy h.1)] at hn
    have hr : rung (fsub 0 b) ≠ 0 := by
      intro h0
      have h2 : key (fsub 0 b) = 0 := by unfold key; rw [h0]; simp
      rw [hk, ng_key h.1] at h2
      unfold key at h2
      split at h2 <;> omega
    unfold norm at hn
    rw [if_neg hr] at hn
    exact hn
/-- a number and nothing is that number -/
theorem add_zero {b : Nat} (h : tidy b) : fadd b 0 = b := by
  have f0 : fin 0 := by decide
  have h1 := add_some h.1 f0
  have hk : key (fadd b 0) = key b := fadd_key h.1 f0 h.1.nn (by rw [show sv 0 = 0 by decide]; omega)
  by_cases hz : rung b = 0
  · have hb := h.2.2 hz
    subst hb
    decide
  · have hn := norm_key h1.2.2 h.2.1 hk
    rw [norm_tidy h] at hn
    have hr : rung (fadd b 0) ≠ 0 := by
      intro h0
      have h2 : key (fadd b 0) = 0 := by unfold key; rw [h0]; simp
      rw [hk] at h2
      unfold key at h2
      split at h2 <;> omega
    unfold norm at hn
    rw [if_neg hr] at hn
    exact hn
theorem ng_fi {n : Int} (h : G n) : ng (fi n) = fi (-n) := by
  have f1 := fi_fin h.1 h.2
  have h' : G (-n) := by unfold G at *; omega
  refine tidy_key (ng_tidy f1) (fi_tidy h'.1 h'.2) ?_
  rw [ng_key f1, ← opp_key f1.nn, key_inj, sv_opp f1.nn, fi_sv h.1 h.2, fi_sv h'.1 h'.2, Int.neg_mul]

/-! ### Whole numbers below and above -/
def flI (b : Nat) : Int := sv b / (U : Int)
/-- the greatest whole number that isn't above -/
def flN (b : Nat) : Nat := if small b then fi (flI b) else b
def ceN (b : Nat) : Nat := ng (flN (ng b))

theorem cut_down (s : Bool) (n d : Nat) : Ieee.Toward.down.cut s n d = n / 2 ^ d + (s && n % 2 ^ d != 0).toNat := by
  unfold Ieee.Toward.cut
  simp only [shl_one]
  by_cases hd : d ≤ n.log2 + 2
  · rw [Nat.min_eq_left hd]
  · rw [Nat.min_eq_right (by omega)]
    have h3 := @Nat.lt_log2_self n
    have h4 : 2 ^ (n.log2 + 1) ≤ 2 ^ (n.log2 + 2) := Nat.pow_le_pow_right (by decide) (by omega)
    have h5 : 2 ^ (n.log2 + 1) ≤ 2 ^ d := Nat.pow_le_pow_right (by decide) (by omega)
    rw [Nat.div_eq_of_lt (by omega), Nat.div_eq_of_lt (by omega), Nat.mod_eq_of_lt (by omega), Nat.mod_eq_of_lt (by omega)]
theorem cut_up (s : Bool) (n d : Nat) : Ieee.Toward.up.cut s n d = n / 2 ^ d + (!s && n % 2 ^ d != 0).toNat := by
  unfold Ieee.Toward.cut
  simp only [shl_one]
  by_cases hd : d ≤ n.log2 + 2
  · rw [Nat.min_eq_left hd]
  · rw [Nat.min_eq_right (by omega)]
    have h3 := @Nat.lt_log2_self n
    have h4 : 2 ^ (n.log2 + 1) ≤ 2 ^ (n.log2 + 2) := Nat.pow_le_pow_right (by decide) (by omega)
    have h5 : 2 ^ (n.log2 + 1) ≤ 2 ^ d := Nat.pow_le_pow_right (by decide) (by omega)
    rw [Nat.div_eq_of_lt (by omega), Nat.div_eq_of_lt (by omega), Nat.mod_eq_of_lt (by omega), Nat.mod_eq_of_lt (by omega)]
theorem scale_mod (m e : Nat) : ((m <<< (-1074 + (e : Int)).toNat) % 2 ^ (-(-1074 + (e : Int))).toNat != 0) = (m * 2 ^ e % U != 0) := by
  rw [Nat.shiftLeft_eq]
  unfold U
  by_cases h : 1074 ≤ e
  · have e1 : (-(-1074 + (e : Int))).toNat = 0 := by omega
    have e3 : e = e - 1074 + 1074 := by omega
    rw [e1, Nat.pow_zero, Nat.mod_one]
    conv => rhs; rw [e3, Nat.pow_add, ← Nat.mul_assoc, Nat.mul_mod_left]
  · have e1 : (-(-1074 + (e : Int))).toNat = 1074 - e := by omega
    have e2 : (-1074 + (e : Int)).toNat = 0 := by omega
    have e3 : 1074 = (1074 - e) + e := by omega
    rw [e1, e2, Nat.pow_zero, Nat.mul_one]
    conv => rhs; rw [e3, Nat.pow_add]
    rw [Nat.mul_mod_mul_right, Bool.eq_iff_iff]
    have := Nat.two_pow_pos e
    simp only [bne_iff_ne, ne_eq, Nat.mul_eq_zero]
    omega
/-- the magnitude of what is told below and above -/
def flM (b : Nat) : Nat := mg (rung b) / U + (neg b && mg (rung b) % U != 0).toNat
def ceM (b : Nat) : Nat := mg (rung b) / U + (!neg b && mg (rung b) % U != 0).toNat
theorem floor_word {b : Nat} (h : fin b) : FloatKind.f64.encode ((FloatKind.f64.decode b).integral .down) = Ieee.double.word (neg b) (rnd (flM b) 0) := by
  obtain ⟨m, e, rb, vb⟩ := read_fin h
  show Ieee.double.write ((Ieee.double.read b).integral .down) = _
  rw [rb]
  simp only [Ieee.Datum.integral]
  rw [cut_down, scale_div, scale_mod, vb]
  exact nearest_eq _ _ _
theorem ceil_word {b : Nat} (h : fin b) : FloatKind.f64.encode ((FloatKind.f64.decode b).integral .up) = Ieee.double.word (neg b) (rnd (ceM b) 0) := by
  obtain ⟨m, e, rb, vb⟩ := read_fin h
  show Ieee.double.write ((Ieee.double.read b).integral .up) = _
  rw [rb]
  simp only [Ieee.Datum.integral]
  rw [cut_up, scale_div, scale_mod, vb]
  exact nearest_eq _ _ _
theorem rnd_whole {m r : Nat} (hr : r ≤ 9218868437227405312) (h : m * U = mg r) : rnd m 0 = r := by
  refine rnd_exact hr ?_
  have e1 : ((0 : Int) + 1074).toNat = 1074 := by decide
  have e2 : (-((0 : Int) + 1074)).toNat = 0 := by decide
  rw [e1, e2, ← h, U, Nat.pow_zero, Nat.mul_one]
/-- beyond 2^53 every number is whole -/
theorem big_whole {b : Nat} (hs : ¬ small b) : mg (rung b) % U = 0 := by
  unfold small at hs
  unfold mg
  rw [if_neg (by omega)]
  have h1 : rung b / 4503599627370496 - 1 = (rung b / 4503599627370496 - 1 - 1074) + 1074 := by omega
  rw [h1, Nat.pow_add, ← Nat.mul_assoc]
  unfold U
  exact Nat.mul_mod_left _ _
theorem big_div {b : Nat} (hs : ¬ small b) : mg (rung b) / U * U = mg (rung b) := Nat.div_mul_cancel (Nat.dvd_of_mod_eq_zero (big_whole hs))
theorem floor_big {b : Nat} (h : fin b) (hb : b < 18446744073709551616) (hs : ¬ small b) : Ieee.double.word (neg b) (rnd (flM b) 0) = b := by
  have hm : rnd (flM b) 0 = rung b := by
    refine rnd_whole h.nn ?_
    unfold flM
    rw [big_whole hs]
    simpa using big_div hs
  rw [hm, word_eta hb]
theorem ceil_big {b : Nat} (h : fin b) (hb : b < 18446744073709551616) (hs : ¬ small b) : Ieee.double.word (neg b) (rnd (ceM b) 0) = b := by
  have hm : rnd (ceM b) 0 = rung b := by
    refine rnd_whole h.nn ?_
    unfold ceM
    rw [big_whole hs]
    simpa using big_div hs
  rw [hm, word_eta hb]
theorem sv_div (b : Nat) : sv b / (U : Int) = if neg b then -(flM b : Int) else flM b := by
  have hU := U_pos
  unfold sv flM sg
  have h1 := Nat.div_add_mod (mg (rung b)) U
  have h2 := Nat.mod_lt (mg (rung b)) hU
  generalize mg (rung b) = x at *
  cases neg b
  · simp
  · simp only [if_true, Bool.true_and]
    generalize hq : x / U = q at *
    generalize hr : x % U = r at *
    have h3 : (x : Int) = (U : Int) * q + r := by exact_mod_cast h1.symm
    by_cases h0 : r = 0
    · subst h0
      simp only [bne_self_eq_false, Bool.toNat_false, Nat.add_zero]
      rw [h3]
      simp only [Int.natCast_zero, Int.add_zero]
      rw [← Int.mul_neg, Int.mul_ediv_cancel_left _ (by omega)]
    · have e : (r != 0) = true := by simp; omega
      rw [e]
      simp only [Bool.toNat_true]
      have h4 : -(x : Int) = ((U : Int) - r) + (U : Int) * (-((q + 1 : Nat) : Int)) := by
        rw [h3, Int.mul_neg, Int.natCast_add, Int.mul_add]; omega
      rw [h4, Int.add_mul_ediv_left _ _ (by omega), Int.ediv_eq_zero_of_lt (by omega) (by omega)]
      omega
theorem flM_le {b : Nat} (hs : small b) : flM b ≤ 9007199254740992 := by
  have h := small_mg.1 hs
  unfold flM
  have hU := U_pos
  by_cases h0 : mg (rung b) % U = 0
  · rw [h0]
    have : mg (rung b) / U ≤ 9007199254740992 := Nat.div_le_of_le_mul (by rw [Nat.mul_comm]; exact h)
    simpa using this
  · have h1 : mg (rung b) < 9007199254740992 * U := by
      rcases Nat.lt_or_eq_of_le h with h2 | h2
      · exact h2
      · rw [h2, Nat.mul_mod_left] at h0; exact absurd rfl h0
    have h2 : mg (rung b) / U < 9007199254740992 := (Nat.div_lt_iff_lt_mul hU).2 h1
    have h3 := Bool.toNat_le (neg b && mg (rung b) % U != 0)
    omega
theorem flI_G {b : Nat} (hs : small b) : G (flI b) := by
  have h := flM_le hs
  unfold flI
  rw [sv_div]
  unfold G
  split <;> omega
theorem floor_small {b : Nat} (hs : small b) : norm (Ieee.double.word (neg b) (rnd (flM b) 0)) = fi (flI b) := by
  have hG := flI_G hs
  have hr := fi_rung hG.1 hG.2
  have hM : (flI b).natAbs = flM b := by
    unfold flI; rw [sv_div]; split <;> omega
  have h1 : rnd (flM b) 0 = rung (fi (flI b)) := by
    rw [← hM]
    exact rnd_whole (by omega) hr.1.symm
  rw [← norm_tidy (fi_tidy hG.1 hG.2)]
  refine norm_key (word_lt64 _ (by rw [h1]; exact rung_lt _)) (fi_lt64 _) ?_
  rw [h1]
  have h2 : neg (fi (flI b)) = decide (flI b < 0) := fi_neg _
  unfold key
  rw [rung_word _ (by omega), neg_word _ (by omega), h2]
  by_cases h0 : flI b = 0
  · have : rung (fi (flI b)) = 0 := by rw [h0]; decide
    rw [this]; simp
  · have h3 : decide (flI b < 0) = neg b := by
      unfold flI at h0 ⊢
      rw [sv_div] at h0 ⊢
      cases hn : neg b <;> simp [hn] at h0 ⊢
      omega
    rw [h3]
end Fl
end Go.Proofs.Ytmjikdkdccnbaaa

namespace Go.Proofs.Ytmjikdkdccnbaaa
open Go.RowKit Fl

set_option maxHeartbeats 400000
def bitW (b : Bool) : Nat := if b then 4607182418800017408 else 0
theorem flag_any (b : Bool) (w : World) : Calls Try.prog 42 #[.bool b] w fun e w' => e = .returned (.float .f64 (bitW b)) ∧ w = w' := by
  cases b
  all_goals
    go_enter Try.func42, Try.ntmps42
    go_wp2
    go_ret
    exact ⟨rfl, rfl⟩
theorem eq_one {b : Nat} (h : tidy b) : (FloatKind.f64.format.order b 4607182418800017408 == some .eq) = decide (b = 4607182418800017408) := by
  rw [c_eq h.1.nn nn_one, decide_eq_decide]
  exact ⟨fun e => tidy_key h ⟨fin_one, by decide, fun h => absurd h (by decide)⟩ e, fun e => by rw [e]⟩
theorem eq_zero' {b : Nat} (h : tidy b) : (FloatKind.f64.format.order b 0 == some .eq) = decide (b = 0) := by
  rw [eq_zero h.1.nn, decide_eq_decide]
  exact ⟨h.2.2, fun e => by rw [e]; decide⟩
theorem gt_zero {b : Nat} (h : nn b) : (FloatKind.f64.format.order b 0 == some .gt) = decide (0 < key b) := by
  rw [c_gt h nn_zero, key_zero]
theorem lt_zero {b : Nat} (h : nn b) : (FloatKind.f64.format.order b 0 == some .lt) = decide (key b < 0) := by
  rw [c_lt h nn_zero, key_zero]
/-- a sign -/
def sgN (b : Nat) : Nat := if 0 < key b then 4607182418800017408 else if key b < 0 then 13830554455654793216 else 0
def absN (b : Nat) : Nat := if key b < 0 then opp b else b
/-! ### math.Floor, math.Ceil -/
end Go.Proofs.Ytmjikdkdccnbaaa
