/- Contracts of arith.Length, rebusref10.Length, logic.table, logic.One, rebusref12.One. -/
import Derived.Test.YtdfhefnjoekgbaaHp
namespace Go.Proofs.Ytdfhefnjoekgbaa
open Go.RowKit
/-- how many elements come of two lengths -/
def lenOk (m n : Int) : Bool := m == n || m == 1 || n == 1
def lenV (m n : Int) : Int := if m = n then m else if m = 1 then n else if n = 1 then m else 0
def rlenV (m n : Int) : Int := if m = n ∨ n = 1 then m else if m = 1 then n else -1
theorem rlen_ok {m n : Int} (h : lenOk m n = true) : rlenV m n = lenV m n := by
  simp only [lenOk, Bool.or_eq_true, beq_iff_eq] at h
  unfold rlenV lenV
  split <;> split <;> (try split) <;> (try split) <;> omega
theorem rlen_no {m n : Int} (h : lenOk m n = false) : rlenV m n = -1 ∧ lenV m n = 0 := by
  have h' : ¬ (m = n ∨ m = 1 ∨ n = 1) := by
    intro h2
    have : lenOk m n = true := by simp only [lenOk, Bool.or_eq_true, beq_iff_eq, or_assoc]; exact h2
    rw [h] at this; cases this
  unfold rlenV lenV
  rw [if_neg (by omega), if_neg (by omega), if_neg (by omega), if_neg (by omega), if_neg (by omega)]
  exact ⟨rfl, rfl⟩
set_option maxHeartbeats 400000
theorem length_any (m n : Int) (w : World) : Calls Try.prog 71 #[.int .i64 m, .int .i64 n] w fun e w' => e = .returned (.tuple #[.int .i64 (lenV m n), .bool (lenOk m n)]) ∧ w = w' := by
  unfold lenV lenOk
  by_cases h1 : m = n
  · rw [if_pos h1]
    subst h1
    go_enter Try.func71, Try.ntmps71
    go_wp2
    go_ret2
    exact ⟨by simp, rfl⟩
  · have e1 : (m == n) = false := by simpa using h1
    rw [if_neg h1, e1]
    by_cases h2 : m = 1
    · subst h2
      clear h1
      rw [if_pos rfl]
      go_enter Try.func71, Try.ntmps71
      go_wp2
      go_ret2
      exact ⟨by simp, rfl⟩
    · have e2 : (m == 1) = false := by simpa using h2
      rw [if_neg h2, e2]
      by_cases h3 : n = 1
      · subst h3
        clear h1 h2
        rw [if_pos rfl]
        go_enter Try.func71, Try.ntmps71
        go_wp2
        go_ret2
        exact ⟨by simp, rfl⟩
      · have e3 : (n == 1) = false := by simpa using h3
        rw [if_neg h3, e3]
        clear h1 h2 h3
        go_enter Try.func71, Try.ntmps71
        go_wp2
        go_ret2
        exact ⟨rfl, rfl⟩
theorem rlength_any (m n : Int) (w : World) : Calls Try.prog 75 #[.int .i64 m, .int .i64 n] w fun e w' => e = .returned (.int .i64 (rlenV m n)) ∧ w = w' := by
  unfold rlenV
  by_cases h1 : m = n
  · rw [if_pos (.inl h1)]
    subst h1
    go_enter Try.func75, Try.ntmps75
    go_wp2
    go_ret
    exact ⟨rfl, rfl⟩
  · have e1 : (m == n) = false := by simpa using h1
    by_cases h3 : n = 1
    · rw [if_pos (.inr h3)]
      subst h3
      clear h1
      go_enter Try.func75, Try.ntmps75
      go_wp2
      go_ret
      exact ⟨rfl, rfl⟩
    · have e3 : (n == 1) = false := by simpa using h3
      rw [if_neg (by omega)]
      by_cases h2 : m = 1
      · subst h2
        clear h1 h3
        rw [if_pos rfl]
        go_enter Try.func75, Try.ntmps75
        go_wp2
        go_ret
        exact ⟨rfl, rfl⟩
      · have e2 : (m == 1) = false := by simpa using h2
        rw [if_neg h2]
        clear h1 h2 h3
        go_enter Try.func75, Try.ntmps75
        go_wp2
        go_ret
        exact ⟨rfl, rfl⟩
/-- a function of truths as a table -/
def tblN (f : Int) : Nat := if f = 21 then 8 else if f = 22 then 14 else if f = 23 then 7 else if f = 24 then 1 else 0
def okL (f : Int) : Bool := decide (21 ≤ f ∧ f ≤ 24)
def oneL (f : Int) (a b : Bool) : Bool := if f = 21 then a && b else if f = 22 then a || b else if f = 23 then !a || !b else if f = 24 then !a && !b else false
structure NotL (f : Int) : Prop where
  e1 : (f == 21) = false
  e2 : (f == 22) = false
  e3 : (f == 23) = false
  e4 : (f == 24) = false
end Go.Proofs.Ytdfhefnjoekgbaa
