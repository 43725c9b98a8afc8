/- Contracts of the functions of num and rebusref03: rests of words, powers. -/
import Derived.Test.YtidnikndjhfgaaaDoorNe
namespace Go.Proofs.YtidnikndjhfgaaaDoor
open Go.RowKit Fl

set_option maxHeartbeats 400000
/-- a rest of words -/
def rsN (a b : Nat) : Nat := if whole a ∧ whole b then fi (restI (trn a) (trn b)) else 0
def rsE (a b : Nat) : Int := if whole a ∧ whole b then 0 else 24
/-! ### Powers -/
namespace Fl
theorem wraps_i64 (n : Int) (h₀ : 0 ≤ n) (h₁ : n < 2 ^ 63) : IntKind.i64.wrap n = n := by rw [IntKind.wrap_i64]; omega
theorem i64_and1 (x : Int) (h₀ : 0 ≤ x) (h₁ : x < 9223372036854775808) : bits .and .i64 x 1 = x % 2 := bits_mask .i64 63 (by decide) wraps_i64 1 (by decide) x h₀ h₁
theorem i64_and63 (x : Int) (h₀ : 0 ≤ x) (h₁ : x < 9223372036854775808) : bits .and .i64 x 63 = x % 64 := bits_mask .i64 63 (by decide) wraps_i64 6 (by decide) x h₀ h₁
theorem and1_odd {k : Nat} (h : k ≤ 1023) (o : k % 2 = 1) : (bits .and .i64 (k : Int) 1 == 1) = true := by rw [i64_and1 _ (by omega) (by omega)]; simp; omega
theorem and1_even {k : Nat} (h : k ≤ 1023) (o : ¬ k % 2 = 1) : (bits .and .i64 (k : Int) 1 == 1) = false := by rw [i64_and1 _ (by omega) (by omega)]; simp; omega
theorem mod2_odd {k : Nat} (o : k % 2 = 1) : ((k : Int) % 2 == 1) = true := by simp; omega
theorem mod2_even {k : Nat} (o : ¬ k % 2 = 1) : ((k : Int) % 2 == 1) = false := by simp; omega
def powL : Nat → Nat → Nat → Nat → Nat
  | 0, _, out, _ => out
  | f + 1, k, out, x => if k = 0 then out else powL f (k / 2) (if k % 2 = 1 then fmul out x else out) (if 1 < k then fmul x x else x)
/-- 'a' multiplied with itself, 'k' times -/
def powN (k a : Nat) : Nat := powL k k 4607182418800017408 a
theorem powL_zero (f out x : Nat) : powL f 0 out x = out := by cases f <;> simp [powL]
/-- what is still to be done -/
def PowTo (R k out x : Nat) : Prop := oneSide out x ∧ ∃ f, k ≤ f ∧ powL f k out x = R
theorem PowTo.start {k a : Nat} (ha : nn a) (hl : a < 18446744073709551616) : PowTo (powN k a) k 4607182418800017408 a :=
  ⟨oneSide_one ha hl, k, Nat.le_refl _, rfl⟩
theorem PowTo.done {R out x : Nat} (h : PowTo R 0 out x) : out = R := by
  obtain ⟨_, f, _, h2⟩ := h
  rw [powL_zero] at h2
  exact h2
theorem PowTo.nn {R k out x : Nat} (h : PowTo R k out x) : Fl.nn out := by
  rcases h.1 with ⟨h1, _⟩ | ⟨h1, _⟩
  · exact h1.1
  · exact h1.fin.nn
theorem PowTo.step {R k out x : Nat} (h : PowTo R k out x) (hk : k ≠ 0) : PowTo R (k / 2) (if k % 2 = 1 then fmul out x else out) (if 1 < k then fmul x x else x) := by
  obtain ⟨h1, f, h2, h3⟩ := h
  cases f with
  | zero => omega
  | succ f =>
    unfold powL at h3
    rw [if_neg hk] at h3
    refine ⟨?_, f, by omega, h3⟩
    by_cases a : k % 2 = 1
    · rw [if_pos a]
      have h4 := h1.mul.2.1
      by_cases b : 1 < k
      · rw [if_pos b]; exact h4.square.2
      · rw [if_neg b]; exact h4
    · rw [if_neg a]
      by_cases b : 1 < k
      · rw [if_pos b]; exact h1.square.2
      · rw [if_neg b]; exact h1
theorem run_mul_side {P : Program} {a b : Nat} (h : oneSide a b) : ∀ (t : TypeId) (w : World), (binOp .mul t (.float .f64 a) (.float .f64 b)).run P w = .ok (.float .f64 (fmul a b)) w :=
  fun t w => run_float_arith w .mul t .f64 a b _ h.mul.1
theorem run_square_side {P : Program} {a b : Nat} (h : oneSide a b) : ∀ (t : TypeId) (w : World), (binOp .mul t (.float .f64 b) (.float .f64 b)).run P w = .ok (.float .f64 (fmul b b)) w :=
  fun t w => run_float_arith w .mul t .f64 b b _ h.square.1
end Fl

/-- both words' numbers of a power, where the exponent is one -/
def powE (n : Int) (a : Nat) : Nat × Int :=
  if n < -1023 ∨ 1023 < n then (0, 24)
  else if 0 ≤ n then (dn (powN n.natAbs a), de (powN n.natAbs a))
  else if ¬ fin (powN n.natAbs a) ∨ rung (powN n.natAbs a) = 0 then (0, 24)
  else (dn (fdiv 4607182418800017408 (powN n.natAbs a)), de (fdiv 4607182418800017408 (powN n.natAbs a)))
def pwN (a b : Nat) : Nat := if whole b then (powE (trn b) a).1 else 0
def pwE (a b : Nat) : Int := if whole b then (powE (trn b) a).2 else 24

/-- the post of a power's walk behind the loop -/
def PowPost (n : Int) (a : Nat) (w : World) (e : Ending) (w' : World) : Prop := e = .returned (.tuple #[.float .f64 (powE n a).1, .int .i64 (powE n a).2]) ∧ w = w'

theorem post_pos {n : Int} {a o : Nat} (h : powN n.natAbs a = o) (s : 0 ≤ n) (hn : n ≤ 1023) (w : World) : PowPost n a w (.returned (.tuple #[.float .f64 (dn o), .int .i64 (de o)])) w := by
  subst h
  unfold PowPost powE
  rw [if_neg (by omega), if_pos s]
  exact ⟨rfl, rfl⟩
theorem post_zero {n : Int} {a o : Nat} (h : powN n.natAbs a = o) (hn : -1023 ≤ n) (s : n < 0) (hz : rung o = 0) (w : World) : PowPost n a w (.returned (.tuple #[.float .f64 0, .int .i64 24])) w := by
  subst h
  unfold PowPost powE
  rw [if_neg (by omega), if_neg (by omega), if_pos (Or.inr hz)]
  exact ⟨rfl, rfl⟩
theorem post_inf {n : Int} {a o : Nat} (h : powN n.natAbs a = o) (hn : -1023 ≤ n) (s : n < 0) (hf : ¬ fin o) (w : World) : PowPost n a w (.returned (.tuple #[.float .f64 0, .int .i64 24])) w := by
  subst h
  unfold PowPost powE
  rw [if_neg (by omega), if_neg (by omega), if_pos (Or.inl hf)]
  exact ⟨rfl, rfl⟩
theorem post_inv {n : Int} {a o : Nat} (h : powN n.natAbs a = o) (hn : -1023 ≤ n) (s : n < 0) (hf : fin o) (hz : ¬ rung o = 0) (w : World) : PowPost n a w (.returned (.tuple #[.float .f64 (dn (fdiv 4607182418800017408 o)), .int .i64 (de (fdiv 4607182418800017408 o))])) w := by
  subst h
  unfold PowPost powE
  rw [if_neg (by omega), if_neg (by omega), if_neg (by rintro (h | h); exact h hf; exact hz h)]
  exact ⟨rfl, rfl⟩

end Go.Proofs.YtidnikndjhfgaaaDoor
