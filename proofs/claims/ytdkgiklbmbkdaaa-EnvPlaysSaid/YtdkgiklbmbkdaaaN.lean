/- Contracts of the functions of num and rebusref03 on single words, but for the powers and the whole numbers.
   Contracts of the functions of num and rebusref03, more: sums, products, quotients, the greater and the lesser one, wholeness, sameness.
   Contracts of the functions of num and rebusref03 on whole numbers.
   Contracts of the functions of num and rebusref03 on whole numbers: products, rests.
   Contracts of the functions of num and rebusref03: truths, signs, sizes, whole numbers below and above.
   Contracts of the functions of num and rebusref03: truths, signs, sizes, whole numbers below and above: the walks. -/
import Derived.Test.YtdkgiklbmbkdaaaRows
import Derived.Test.YtdkgiklbmbkdaaaF
import Derived.WalkKit
import Derived.WalkSpells
import Derived.WalkLawsBesides
import Derived.Lib.Hide
import Derived.Laws.Externs
namespace Go.Proofs.Ytdkgiklbmbkdaaa
open Go.RowKit Fl

namespace Fl
theorem key_max : key 9218868437227405311 = 9218868437227405311 := by decide
theorem key_nmax : key 18442240474082181119 = -9218868437227405311 := by decide
theorem key_zero : key 0 = 0 := by decide
theorem key_top : key 4845873199050653696 = 4845873199050653696 := by decide
theorem key_ntop : key 14069245235905429504 = -4845873199050653696 := by decide
theorem nn_max : nn 9218868437227405311 := by decide
theorem nn_nmax : nn 18442240474082181119 := by decide
theorem nn_zero : nn 0 := by decide
theorem nn_top : nn 4845873199050653696 := by decide
theorem nn_ntop : nn 14069245235905429504 := by decide
theorem nn_one : nn 4607182418800017408 := by decide
theorem fin_one : fin 4607182418800017408 := by decide
theorem key_abs (b : Nat) : key b = rung b ∨ key b = -(rung b : Int) := by unfold key; split <;> simp
theorem eq_zero {b : Nat} (h : nn b) : (FloatKind.f64.format.order b 0 == some .eq) = decide (rung b = 0) := by
  rw [c_eq h nn_zero, key_zero]
  have := key_abs b
  by_cases e : rung b = 0
  · simp [e]; omega
  · simp [e]; omega
/-- what Tidy makes of a word -/
def dn (b : Nat) : Nat := if fin b then norm b else 0
def de (b : Nat) : Int := if fin b then 0 else 24
theorem dn_tidy (b : Nat) (hb : b < 18446744073709551616) : tidy (dn b) := by
  unfold dn
  split
  · exact tidy_norm ‹_› hb
  · exact ⟨by decide, by decide, fun _ => rfl⟩
theorem dn_of {b : Nat} (h : fin b) : dn b = norm b := if_pos h
/-- the tests of Tidy -/
structure TidyTests (b : Nat) : Prop where
  ne : (FloatKind.f64.format.order b b != some .eq) = !decide (nn b)
  gt : (FloatKind.f64.format.order b 9218868437227405311 == some .gt) = decide (rung b = 9218868437227405312 ∧ neg b = false)
  lt : (FloatKind.f64.format.order b 18442240474082181119 == some .lt) = decide (rung b = 9218868437227405312 ∧ neg b = true)
  ge : (FloatKind.f64.format.order b 18442240474082181119 == some .gt || FloatKind.f64.format.order b 18442240474082181119 == some .eq) = decide (nn b ∧ ¬ (rung b = 9218868437227405312 ∧ neg b = true))
  le : (FloatKind.f64.format.order b 9218868437227405311 == some .lt || FloatKind.f64.format.order b 9218868437227405311 == some .eq) = decide (nn b ∧ ¬ (rung b = 9218868437227405312 ∧ neg b = false))
theorem tidy_tests (b : Nat) : TidyTests b := by
  by_cases h : nn b
  · have hr : rung b ≤ 9218868437227405312 := h
    refine ⟨?_, ?_, ?_, ?_, ?_⟩
    · rw [c_ne h h]; simp [h]
    · rw [c_gt h nn_max, key_max]; unfold key; cases neg b <;> simp <;> omega
    · rw [c_lt h nn_nmax, key_nmax]; unfold key; cases neg b <;> simp <;> omega
    · rw [c_gt h nn_nmax, c_eq h nn_nmax, key_nmax]; unfold key; cases neg b <;> simp [h] <;> first | omega | (rw [Bool.eq_iff_iff]; simp; omega)
    · rw [c_lt h nn_max, c_eq h nn_max, key_max]; unfold key; cases neg b <;> simp [h] <;> first | omega | (rw [Bool.eq_iff_iff]; simp; omega)
  · have hr : rung b ≠ 9218868437227405312 := by unfold nn at h; omega
    refine ⟨?_, ?_, ?_, ?_, ?_⟩
    · rw [c_nen (.inl h)]; simp [h]
    · rw [c_nan (.inl h)]; simp [hr]
    · rw [c_nan (.inl h)]; simp [hr]
    · rw [c_nan (.inl h), c_nan (.inl h)]; simp [h]
    · rw [c_nan (.inl h), c_nan (.inl h)]; simp [h]
/-- the three classes of words, for walks -/
theorem classes (b : Nat) : (fin b ∧ nn b ∧ rung b ≠ 9218868437227405312) ∨ (¬ fin b ∧ ¬ nn b ∧ rung b ≠ 9218868437227405312) ∨ (¬ fin b ∧ nn b ∧ rung b = 9218868437227405312) := by
  unfold fin nn; omega
end Fl

/-! ### Tidy -/
set_option maxHeartbeats 400000 in
theorem tidy_any (b : Nat) (w : World) :
    Calls Try.prog 42 #[.float .f64 b] w fun e w' => e = .returned (.tuple #[.float .f64 (dn b), .bool (decide (fin b))]) ∧ w = w' := by
  obtain ⟨c1, c2, c3, _, _⟩ := tidy_tests b
  rcases classes b with ⟨h, hn, hi⟩ | ⟨h, hn, hi⟩ | ⟨h, hn, hi⟩
  · have c4 := eq_zero hn
    rw [dn_of h]
    unfold norm
    simp only [hn, hi, false_and, decide_true, decide_false, Bool.not_true] at c1 c2 c3
    rw [decide_eq_true h]
    by_cases e : rung b = 0
    all_goals
      simp only [e, decide_true, decide_false] at c4
      first | rw [if_pos e] | rw [if_neg e]
      clear h hn hi e
      go_enter Try.func42, Try.ntmps42
      go_wp2
      go_ret2
      exact ⟨rfl, rfl⟩
  · simp only [hn, hi, false_and, decide_false, Bool.not_false] at c1 c2 c3
    unfold dn
    rw [decide_eq_false h, if_neg h]
    clear h hn hi
    go_enter Try.func42, Try.ntmps42
    go_wp2
    go_ret2
    exact ⟨rfl, rfl⟩
  · simp only [hn, decide_true, Bool.not_true] at c1
    simp only [hi, true_and] at c2 c3
    unfold dn
    rw [decide_eq_false h, if_neg h]
    cases hs : neg b
    all_goals
      simp only [hs, decide_true, Bool.false_eq_true, Bool.true_eq_false, decide_false] at c2 c3
      clear h hn hi hs
      go_enter Try.func42, Try.ntmps42
      go_wp2
      go_ret2
      exact ⟨rfl, rfl⟩

end Go.Proofs.Ytdkgiklbmbkdaaa

namespace Go.Proofs.Ytdkgiklbmbkdaaa
open Go.RowKit Fl

set_option maxHeartbeats 400000
/-! ### Add, Sub, Mul, Div -/
/-- a quotient: nothing by nothing is 1 -/
def dvN (a b : Nat) : Nat := if rung b = 0 then (if rung a = 0 then 4607182418800017408 else 0) else dn (fdiv a b)
def dvE (a b : Nat) : Int := if rung b = 0 then (if rung a = 0 then 0 else 24) else de (fdiv a b)
/-! ### Max, Min, Sign, Abs, Flag, Truth -/
def fmax (a b : Nat) : Nat := if key a < key b then b else a
def fmin (a b : Nat) : Nat := if key b < key a then b else a
/-! ### Whole -/
theorem small_ge {b : Nat} : (FloatKind.f64.format.order b 14069245235905429504 == some .gt || FloatKind.f64.format.order b 14069245235905429504 == some .eq) = decide (nn b ∧ (neg b = true → small b)) := by
  by_cases h : nn b
  · rw [c_gt h nn_ntop, c_eq h nn_ntop, key_ntop]; unfold key small; cases neg b <;> simp [h] <;> first | omega | (rw [Bool.eq_iff_iff]; simp; omega)
  · rw [c_nan (.inl h), c_nan (.inl h)]; simp [h]
theorem small_le {b : Nat} : (FloatKind.f64.format.order b 4845873199050653696 == some .lt || FloatKind.f64.format.order b 4845873199050653696 == some .eq) = decide (nn b ∧ (neg b = false → small b)) := by
  by_cases h : nn b
  · rw [c_lt h nn_top, c_eq h nn_top, key_top]; unfold key small; cases neg b <;> simp [h] <;> first | omega | (rw [Bool.eq_iff_iff]; simp; omega)
  · rw [c_nan (.inl h), c_nan (.inl h)]; simp [h]
/-- what Whole makes of a word -/
def wn (b : Nat) : Int := if small b then trn b else 0
theorem back_eq {b : Nat} (h : small b) : (FloatKind.f64.format.order (floatOfInt .f64 (trn b)) b == some .eq) = decide (whole b) := by
  have hb := trn_le h
  rw [fi_conv, c_eq (fi_fin hb.1 hb.2).nn h.fin.nn]
  exact decide_eq_decide.2 (whole_key h)
theorem whole_any (b : Nat) (w : World) :
    Calls Try.prog 65 #[.float .f64 b] w fun e w' => e = .returned (.tuple #[.int .i64 (wn b), .bool (decide (whole b))]) ∧ w = w' := by
  have c1 := @small_ge b
  have c2 := @small_le b
  unfold wn
  by_cases h : small b
  · rw [if_pos h]
    simp only [h, h.fin.nn, implies_true, and_self, decide_true] at c1 c2
    have r := @run_toInt Try.prog b h 75 2 (by kernel_rfl) (by kernel_rfl)
    have c3 := back_eq h
    clear h
    go_enter Try.func65, Try.ntmps65
    go_wp2
    go_ret2
    exact ⟨rfl, rfl⟩
  · rw [if_neg h]
    have hw : ¬ whole b := fun hw => h hw.1
    rw [decide_eq_false hw]
    simp only [h, imp_false] at c1 c2
    by_cases g : nn b
    · simp only [g, true_and] at c1 c2
      cases hs : neg b
      all_goals
        simp only [hs, Bool.false_eq_true, Bool.true_eq_false, not_true_eq_false, not_false_eq_true, decide_true, decide_false] at c1 c2
        clear h hw g hs
        go_enter Try.func65, Try.ntmps65
        go_wp2
        go_ret2
        exact ⟨rfl, rfl⟩
    · simp only [g, false_and, decide_false] at c1 c2
      clear h hw g
      go_enter Try.func65, Try.ntmps65
      go_wp2
      go_ret2
      exact ⟨rfl, rfl⟩
/-! ### The references: Finite, Tidy, Done, Reckon, Bits -/
end Go.Proofs.Ytdkgiklbmbkdaaa

namespace Go.Proofs.Ytdkgiklbmbkdaaa
open Go.RowKit Fl

set_option maxHeartbeats 400000
namespace Fl
/-- at most 2^53 in size -/
def G (n : Int) : Prop := -9007199254740992 ≤ n ∧ n ≤ 9007199254740992
instance (n : Int) : Decidable (G n) := inferInstanceAs (Decidable (_ ∧ _))
end Fl

/-- what a whole number's sum, difference or product comes to -/
def gN (n : Int) : Int := if G n then n else 0
end Go.Proofs.Ytdkgiklbmbkdaaa

namespace Go.Proofs.Ytdkgiklbmbkdaaa
open Go.RowKit Fl

set_option maxHeartbeats 400000
namespace Fl
/-- what is left of b by a, of a's sign; b itself by 0 -/
def restI (a b : Int) : Int := if a = 0 then b else if b.tmod a ≠ 0 ∧ ¬ (b.tmod a < 0 ↔ a < 0) then b.tmod a + a else b.tmod a
end Fl

end Go.Proofs.Ytdkgiklbmbkdaaa

namespace Go.Proofs.Ytdkgiklbmbkdaaa
open Go.RowKit Fl

namespace Fl
/-! ### The other sign -/
/-- a tidy number with the other sign -/
def ng (b : Nat) : Nat := norm (opp b)
/-- a number and nothing is that number -/
theorem add_zero {b : Nat} (h : tidy b) : fadd b 0 = b := by
  have f0 : fin 0 := by decide
  have h1 := add_some h.1 f0
  have hk : key (fadd b 0) = key b := fadd_key h.1 f0 h.1.nn (by rw [show sv 0 = 0 by decide]; omega)
  by_cases hz : rung b = 0
  · have hb := h.2.2 hz
    subst hb
    decide
  · have hn := norm_key h1.2.2 h.2.1 hk
    rw [norm_tidy h] at hn
    have hr : rung (fadd b 0) ≠ 0 := by
      intro h0
      have h2 : key (fadd b 0) = 0 := by unfold key; rw [h0]; simp
      rw [hk] at h2
      unfold key at h2
      split at h2 <;> omega
    unfold norm at hn
    rw [if_neg hr] at hn
    exact hn
/-! ### Whole numbers below and above -/
def flI (b : Nat) : Int := sv b / (U : Int)
/-- the greatest whole number that isn't above -/
def flN (b : Nat) : Nat := if small b then fi (flI b) else b
def ceN (b : Nat) : Nat := ng (flN (ng b))

/-- the magnitude of what is told below and above -/
def flM (b : Nat) : Nat := mg (rung b) / U + (neg b && mg (rung b) % U != 0).toNat
def ceM (b : Nat) : Nat := mg (rung b) / U + (!neg b && mg (rung b) % U != 0).toNat
end Fl
end Go.Proofs.Ytdkgiklbmbkdaaa

namespace Go.Proofs.Ytdkgiklbmbkdaaa
open Go.RowKit Fl

set_option maxHeartbeats 400000
def bitW (b : Bool) : Nat := if b then 4607182418800017408 else 0
theorem flag_any (b : Bool) (w : World) : Calls Try.prog 30 #[.bool b] w fun e w' => e = .returned (.float .f64 (bitW b)) ∧ w = w' := by
  cases b
  all_goals
    go_enter Try.func30, Try.ntmps30
    go_wp2
    go_ret
    exact ⟨rfl, rfl⟩
theorem eq_one {b : Nat} (h : tidy b) : (FloatKind.f64.format.order b 4607182418800017408 == some .eq) = decide (b = 4607182418800017408) := by
  rw [c_eq h.1.nn nn_one, decide_eq_decide]
  exact ⟨fun e => tidy_key h ⟨fin_one, by decide, fun h => absurd h (by decide)⟩ e, fun e => by rw [e]⟩
theorem eq_zero' {b : Nat} (h : tidy b) : (FloatKind.f64.format.order b 0 == some .eq) = decide (b = 0) := by
  rw [eq_zero h.1.nn, decide_eq_decide]
  exact ⟨h.2.2, fun e => by rw [e]; decide⟩
theorem truth_any (b : Nat) (h : tidy b) (w : World) : Calls Try.prog 73 #[.float .f64 b] w fun e w' => e = .returned (.tuple #[.bool (decide (b = 4607182418800017408)), .bool (decide (b = 0 ∨ b = 4607182418800017408))]) ∧ w = w' := by
  have c1 := eq_one h
  have c0 := eq_zero' h
  by_cases h0 : b = 0
  · rw [decide_eq_true (Or.inl h0)]
    have h1 : ¬ b = 4607182418800017408 := by rw [h0]; decide
    rw [decide_eq_false h1] at c1 ⊢
    rw [decide_eq_true h0] at c0
    clear h0 h1 h
    go_enter Try.func73, Try.ntmps73
    go_wp2
    go_ret2
    exact ⟨rfl, rfl⟩
  · have e : decide (b = 0 ∨ b = 4607182418800017408) = decide (b = 4607182418800017408) := by rw [decide_eq_decide]; exact ⟨fun h => h.resolve_left h0, Or.inr⟩
    rw [e]
    rw [decide_eq_false h0] at c0
    clear e h h0
    generalize decide (b = 4607182418800017408) = d at *
    go_enter Try.func73, Try.ntmps73
    go_wp2
    go_ret2
    exact ⟨rfl, rfl⟩
/-- a sign -/
def sgN (b : Nat) : Nat := if 0 < key b then 4607182418800017408 else if key b < 0 then 13830554455654793216 else 0
def absN (b : Nat) : Nat := if key b < 0 then opp b else b
/-! ### math.Floor, math.Ceil -/
end Go.Proofs.Ytdkgiklbmbkdaaa
