/- Contracts of the functions of num and rebusref03, more: sums, products, quotients, the greater and the lesser one, wholeness, sameness. -/
import Derived.Test.YtdfhefnjoekgbaaNa
import Derived.Test.YtdfhefnjoekgbaaFd
namespace Go.Proofs.Ytdfhefnjoekgbaa
open Go.RowKit Fl

set_option maxHeartbeats 400000
/-! ### Add, Sub, Mul, Div -/
/-- a quotient: nothing by nothing is 1 -/
def dvN (a b : Nat) : Nat := if rung b = 0 then (if rung a = 0 then 4607182418800017408 else 0) else dn (fdiv a b)
def dvE (a b : Nat) : Int := if rung b = 0 then (if rung a = 0 then 0 else 24) else de (fdiv a b)
/-! ### Max, Min, Sign, Abs, Flag, Truth -/
def fmax (a b : Nat) : Nat := if key a < key b then b else a
def fmin (a b : Nat) : Nat := if key b < key a then b else a
/-! ### Whole -/
theorem small_ge {b : Nat} : (FloatKind.f64.format.order b 14069245235905429504 == some .gt || FloatKind.f64.format.order b 14069245235905429504 == some .eq) = decide (nn b ∧ (neg b = true → small b)) := by
  by_cases h : nn b
  · rw [c_gt h nn_ntop, c_eq h nn_ntop, key_ntop]; unfold key small; cases neg b <;> simp [h] <;> first | omega | (rw [Bool.eq_iff_iff]; simp; omega)
  · rw [c_nan (.inl h), c_nan (.inl h)]; simp [h]
theorem small_le {b : Nat} : (FloatKind.f64.format.order b 4845873199050653696 == some .lt || FloatKind.f64.format.order b 4845873199050653696 == some .eq) = decide (nn b ∧ (neg b = false → small b)) := by
  by_cases h : nn b
  · rw [c_lt h nn_top, c_eq h nn_top, key_top]; unfold key small; cases neg b <;> simp [h] <;> first | omega | (rw [Bool.eq_iff_iff]; simp; omega)
  · rw [c_nan (.inl h), c_nan (.inl h)]; simp [h]
/-- what Whole makes of a word -/
def wn (b : Nat) : Int := if small b then trn b else 0
theorem back_eq {b : Nat} (h : small b) : (FloatKind.f64.format.order (floatOfInt .f64 (trn b)) b == some .eq) = decide (whole b) := by
  have hb := trn_le h
  rw [fi_conv, c_eq (fi_fin hb.1 hb.2).nn h.fin.nn]
  exact decide_eq_decide.2 (whole_key h)
theorem whole_any (b : Nat) (w : World) :
    Calls Try.prog 65 #[.float .f64 b] w fun e w' => e = .returned (.tuple #[.int .i64 (wn b), .bool (decide (whole b))]) ∧ w = w' := by
  have c1 := @small_ge b
  have c2 := @small_le b
  unfold wn
  by_cases h : small b
  · rw [if_pos h]
    simp only [h, h.fin.nn, implies_true, and_self, decide_true] at c1 c2
    have r := @run_toInt Try.prog b h 81 2 (by kernel_rfl) (by kernel_rfl)
    have c3 := back_eq h
    clear h
    go_enter Try.func65, Try.ntmps65
    go_wp2
    go_ret2
    exact ⟨rfl, rfl⟩
  · rw [if_neg h]
    have hw : ¬ whole b := fun hw => h hw.1
    rw [decide_eq_false hw]
    simp only [h, imp_false] at c1 c2
    by_cases g : nn b
    · simp only [g, true_and] at c1 c2
      cases hs : neg b
      all_goals
        simp only [hs, Bool.false_eq_true, Bool.true_eq_false, not_true_eq_false, not_false_eq_true, decide_true, decide_false] at c1 c2
        clear h hw g hs
        go_enter Try.func65, Try.ntmps65
        go_wp2
        go_ret2
        exact ⟨rfl, rfl⟩
    · simp only [g, false_and, decide_false] at c1 c2
      clear h hw g
      go_enter Try.func65, Try.ntmps65
      go_wp2
      go_ret2
      exact ⟨rfl, rfl⟩
theorem rwhole_any (b : Nat) (w : World) :
    Calls Try.prog 63 #[.float .f64 b] w fun e w' => e = .returned (.bool (decide (whole b))) ∧ w = w' := by
  have c1 := @small_ge b
  have c2 := @small_le b
  by_cases h : small b
  · simp only [h, h.fin.nn, implies_true, and_self, decide_true] at c1 c2
    have r := @run_toInt Try.prog b h 81 2 (by kernel_rfl) (by kernel_rfl)
    have c3 := back_eq h
    clear h
    go_enter Try.func63, Try.ntmps63
    go_wp2
    go_ret
    exact ⟨rfl, rfl⟩
  · have hw : ¬ whole b := fun hw => h hw.1
    rw [decide_eq_false hw]
    simp only [h, imp_false] at c1 c2
    by_cases g : nn b
    · simp only [g, true_and] at c1 c2
      cases hs : neg b
      all_goals
        simp only [hs, Bool.false_eq_true, Bool.true_eq_false, not_true_eq_false, not_false_eq_true, decide_true, decide_false] at c1 c2
        clear h hw g hs
        go_enter Try.func63, Try.ntmps63
        go_wp2
        go_ret
        exact ⟨rfl, rfl⟩
    · simp only [g, false_and, decide_false] at c1 c2
      clear h hw g
      go_enter Try.func63, Try.ntmps63
      go_wp2
      go_ret
      exact ⟨rfl, rfl⟩

/-! ### The references: Finite, Tidy, Done, Reckon, Bits -/
theorem finite_any (b : Nat) (w : World) :
    Calls Try.prog 77 #[.float .f64 b] w fun e w' => e = .returned (.bool (decide (fin b))) ∧ w = w' := by
  obtain ⟨_, _, _, c4, c5⟩ := tidy_tests b
  rcases classes b with ⟨h, hn, hi⟩ | ⟨h, hn, hi⟩ | ⟨h, hn, hi⟩
  · simp only [hn, hi, false_and, not_false_eq_true, and_self, decide_true] at c4 c5
    rw [decide_eq_true h]
    clear h hn hi
    go_enter Try.func77, Try.ntmps77
    go_wp2
    go_ret
    exact ⟨rfl, rfl⟩
  · simp only [hn, false_and, decide_false] at c4 c5
    rw [decide_eq_false h]
    clear h hn hi
    go_enter Try.func77, Try.ntmps77
    go_wp2
    go_ret
    exact ⟨rfl, rfl⟩
  · simp only [hn, hi, true_and] at c4 c5
    rw [decide_eq_false h]
    cases hs : neg b
    all_goals
      simp only [hs, Bool.false_eq_true, Bool.true_eq_false, not_true_eq_false, not_false_eq_true, decide_true, decide_false] at c4 c5
      clear h hn hi hs
      go_enter Try.func77, Try.ntmps77
      go_wp2
      go_ret
      exact ⟨rfl, rfl⟩
theorem rtidy_any (b : Nat) (w : World) :
    Calls Try.prog 45 #[.float .f64 b] w fun e w' => e = .returned (.tuple #[.float .f64 (dn b), .bool (decide (fin b))]) ∧ w = w' := by
  have c := finite_any b w
  by_cases h : fin b
  · have c4 := eq_zero h.nn
    rw [dn_of h]
    unfold norm
    rw [decide_eq_true h] at c ⊢
    by_cases e : rung b = 0
    all_goals
      simp only [e, decide_true, decide_false] at c4
      first | rw [if_pos e] | rw [if_neg e]
      clear h e
      go_enter Try.func45, Try.ntmps45
      go_wp2_with (go_at_call 77; refine c.mono ?_; rintro e w' ⟨rfl, rfl⟩)
      go_ret2
      exact ⟨rfl, rfl⟩
  · rw [decide_eq_false h] at c ⊢
    unfold dn
    rw [if_neg h]
    clear h
    go_enter Try.func45, Try.ntmps45
    go_wp2_with (go_at_call 77; refine c.mono ?_; rintro e w' ⟨rfl, rfl⟩)
    go_ret2
    exact ⟨rfl, rfl⟩
theorem bits_any (a b : Nat) (ha : nn a) (hb : nn b) (la : a < 18446744073709551616) (lb : b < 18446744073709551616) (w : World) :
    Calls Try.prog 61 #[.float .f64 a, .float .f64 b] w fun e w' => e = .returned (.bool (decide (a = b))) ∧ w = w' := by
  have c1 := c_eq ha hb
  have c2 := ne_zero ha
  by_cases h : key a = key b
  · simp only [h, decide_true] at c1
    by_cases g : rung a = 0
    · simp only [g, decide_true, Bool.not_true] at c2
      have g' : rung b = 0 := by unfold key at h; rw [g] at h; split at h <;> split at h <;> omega
      have r1 := @run_div Try.prog _ _ fin_one (show fin a by unfold fin; omega) (by rw [show rung 4607182418800017408 = 4607182418800017408 by decide]; omega)
      have r2 := @run_div Try.prog _ _ fin_one (show fin b by unfold fin; omega) (by rw [show rung 4607182418800017408 = 4607182418800017408 by decide]; omega)
      have hv : decide (a = b) = (FloatKind.f64.format.order (fdiv 4607182418800017408 a) (fdiv 4607182418800017408 b) == some .eq) := by
        rw [div_zero fin_one (by decide) g, div_zero fin_one (by decide) g']
        have n1 : ∀ s, nn (Ieee.double.word s 9218868437227405312) := by intro s; unfold nn; rw [rung_word _ (by omega)]; omega
        rw [c_eq (n1 _) (n1 _)]
        rw [decide_eq_decide]
        have e1 : neg 4607182418800017408 = false := by decide
        rw [e1]
        unfold key
        rw [neg_word _ (by omega), neg_word _ (by omega), rung_word _ (by omega), rung_word _ (by omega)]
        rw [← word_eta la, ← word_eta lb, g, g']
        cases neg a <;> cases neg b <;> decide
      rw [hv]
      clear hv g g' h
      go_enter Try.func61, Try.ntmps61
      go_wp2
      go_ret
      exact ⟨rfl, rfl⟩
    · simp only [g, decide_false, Bool.not_false] at c2
      have hv : a = b := by
        have h1 := norm_key la lb h
        unfold norm at h1
        rw [if_neg g, if_neg (by unfold key at h; intro g'; rw [g'] at h; split at h <;> split at h <;> omega)] at h1
        exact h1
      rw [decide_eq_true hv]
      clear hv g h
      go_enter Try.func61, Try.ntmps61
      go_wp2
      go_ret
      exact ⟨rfl, rfl⟩
  · simp only [h, decide_false] at c1
    have hv : ¬ a = b := fun e => h (by rw [e])
    rw [decide_eq_false hv]
    clear hv h c2
    go_enter Try.func61, Try.ntmps61
    go_wp2
    go_ret
    exact ⟨rfl, rfl⟩

end Go.Proofs.Ytdfhefnjoekgbaa
