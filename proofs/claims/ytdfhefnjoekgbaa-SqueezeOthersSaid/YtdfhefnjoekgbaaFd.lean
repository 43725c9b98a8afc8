/- Plain facts on quotients and on products with an infinity. -/
import Derived.Test.YtdfhefnjoekgbaaFi
namespace Go.Proofs.Ytdfhefnjoekgbaa.Fl
open Ieee Go Go.RowKit

theorem mag_zero {m e r : Nat} (h : m * 2 ^ e = mg r) : m = 0 ↔ r = 0 := by
  have h1 := @mg_lt_iff 0 r
  rw [mg_zero] at h1
  constructor
  · intro hm; subst hm; rw [Nat.zero_mul] at h; omega
  · intro hr; subst hr
    rw [mg_zero] at h
    rcases Nat.eq_zero_or_pos m with h2 | h2
    · exact h2
    · have := Nat.mul_pos h2 (Nat.two_pow_pos e); omega

theorem div_some {a b : Nat} (ha : fin a) (hb : fin b) (h0 : ¬ (rung a = 0 ∧ rung b = 0)) : double.div a b = some (fdiv a b) ∧ nn (fdiv a b) ∧ fdiv a b < 18446744073709551616 := by
  obtain ⟨m, e, ra, va⟩ := read_fin ha
  obtain ⟨n, f, rb, vb⟩ := read_fin hb
  have hm := mag_zero va
  have hn := mag_zero vb
  have h : ∃ d, double.div a b = some d ∧ nn d := by
    unfold Format.div
    rw [ra, rb]
    simp only [Datum.quotient]
    by_cases hn0 : n = 0
    · rw [if_pos hn0, if_neg (by omega)]
      refine ⟨_, rfl, ?_⟩
      show nn (double.word _ _)
      unfold nn
      rw [rung_word _ (by rw [ir_eq]; omega), ir_eq]
      exact Nat.le_refl _
    · rw [if_neg hn0]
      exact ⟨_, rfl, nearest_nn _ _ _⟩
  obtain ⟨d, h1, h2⟩ := h
  have h3 : fdiv a b = d := by unfold fdiv; rw [h1]; rfl
  rw [h3]
  exact ⟨h1, h2, double.div_lt h1⟩

/-- a number that isn't 0, divided by 0 -/
theorem div_zero {a b : Nat} (ha : fin a) (ha0 : rung a ≠ 0) (hb : rung b = 0) : fdiv a b = double.word (neg a ^^ neg b) 9218868437227405312 := by
  have fb : fin b := by unfold fin; omega
  obtain ⟨m, e, ra, va⟩ := read_fin ha
  obtain ⟨n, f, rb, vb⟩ := read_fin fb
  have hm := mag_zero va
  have hn := mag_zero vb
  unfold fdiv Format.div
  rw [ra, rb]
  simp only [Datum.quotient]
  rw [if_pos (hn.2 hb), if_neg (by omega)]
  show double.word _ _ = _
  rw [ir_eq]

/-- a product with an infinity -/
theorem mul_inf {a b : Nat} (ha : nn a) (hb : nn b) (h : (¬ fin a ∧ rung b ≠ 0) ∨ (¬ fin b ∧ rung a ≠ 0)) : double.mul a b = some (fmul a b) ∧ rung (fmul a b) = 9218868437227405312 := by
  have key : ∃ s, double.mul a b = some (double.word s 9218868437227405312) := by
    unfold Format.mul
    by_cases fa : fin a
    · have hfb : ¬ fin b ∧ rung a ≠ 0 := by rcases h with h | h; exact absurd fa h.1; exact h
      obtain ⟨m, e, ra, va⟩ := read_fin fa
      have hi : rung b = 9218868437227405312 := by unfold nn at hb; unfold fin at hfb; omega
      rw [ra, read_inf hi]
      simp only [Datum.product]
      rw [if_neg (by have := mag_zero va; omega)]
      refine ⟨(neg b ^^ neg a), ?_⟩
      rw [← ir_eq]; rfl
    · have hj : rung a = 9218868437227405312 := by unfold nn at ha; unfold fin at fa; omega
      rw [read_inf hj]
      by_cases fb : fin b
      · have hfa : ¬ fin a ∧ rung b ≠ 0 := by rcases h with h | h; exact h; exact absurd fb h.1
        obtain ⟨n, f, rb, vb⟩ := read_fin fb
        rw [rb]
        simp only [Datum.product]
        rw [if_neg (by have := mag_zero vb; omega)]
        refine ⟨(neg a ^^ neg b), ?_⟩
        rw [← ir_eq]; rfl
      · have hi : rung b = 9218868437227405312 := by unfold nn at hb; unfold fin at fb; omega
        rw [read_inf hi]
        refine ⟨(neg a ^^ neg b), ?_⟩
        rw [← ir_eq]; rfl
  obtain ⟨s, e⟩ := key
  have h3 : fmul a b = double.word s 9218868437227405312 := by unfold fmul; rw [e]; rfl
  rw [h3]
  exact ⟨e, rung_word _ (by omega)⟩

/-! ### Products of words on one side of 1 -/
def bigw (b : Nat) : Prop := nn b ∧ 4607182418800017408 ≤ rung b ∧ b < 18446744073709551616
def lilw (b : Nat) : Prop := rung b ≤ 4607182418800017408 ∧ b < 18446744073709551616
theorem lilw.fin {b : Nat} (h : lilw b) : fin b := by have := h.1; unfold Fl.fin; omega
theorem big_mul {a b : Nat} (ha : bigw a) (hb : bigw b) : double.mul a b = some (fmul a b) ∧ bigw (fmul a b) := by
  have h1 := ha.2.1
  have h2 := hb.2.1
  by_cases hf : fin a ∧ fin b
  · obtain ⟨e, n, l⟩ := mul_some hf.1 hf.2
    refine ⟨e, n, mul_ge hf.1 hf.2 (by omega) ?_, l⟩
    rw [mg_one]
    exact Nat.mul_le_mul (by rw [← mg_one]; exact mg_le h1) (by rw [← mg_one]; exact mg_le h2)
  · have hx : (¬ fin a ∧ rung b ≠ 0) ∨ (¬ fin b ∧ rung a ≠ 0) := by
      by_cases fa : fin a
      · exact Or.inr ⟨fun fb => hf ⟨fa, fb⟩, by omega⟩
      · exact Or.inl ⟨fa, by omega⟩
    obtain ⟨e, r⟩ := mul_inf ha.1 hb.1 hx
    refine ⟨e, ?_, by omega, double.mul_lt e⟩
    unfold nn; omega
theorem lil_mul {a b : Nat} (ha : lilw a) (hb : lilw b) : double.mul a b = some (fmul a b) ∧ lilw (fmul a b) := by
  obtain ⟨e, n, l⟩ := mul_some ha.fin hb.fin
  refine ⟨e, mul_le ha.fin hb.fin ?_, l⟩
  rw [mg_one]
  exact Nat.mul_le_mul (by rw [← mg_one]; exact mg_le ha.1) (by rw [← mg_one]; exact mg_le hb.1)

/-- both on one side of 1 -/
def oneSide (a b : Nat) : Prop := (bigw a ∧ bigw b) ∨ (lilw a ∧ lilw b)
theorem oneSide.mul {a b : Nat} (h : oneSide a b) : double.mul a b = some (fmul a b) ∧ oneSide (fmul a b) b ∧ nn (fmul a b) := by
  rcases h with ⟨h1, h2⟩ | ⟨h1, h2⟩
  · obtain ⟨e, g⟩ := big_mul h1 h2
    exact ⟨e, Or.inl ⟨g, h2⟩, g.1⟩
  · obtain ⟨e, g⟩ := lil_mul h1 h2
    exact ⟨e, Or.inr ⟨g, h2⟩, g.fin.nn⟩
theorem oneSide.square {a b : Nat} (h : oneSide a b) : double.mul b b = some (fmul b b) ∧ oneSide a (fmul b b) := by
  rcases h with ⟨h1, h2⟩ | ⟨h1, h2⟩
  · obtain ⟨e, g⟩ := big_mul h2 h2
    exact ⟨e, Or.inl ⟨h1, g⟩⟩
  · obtain ⟨e, g⟩ := lil_mul h2 h2
    exact ⟨e, Or.inr ⟨h1, g⟩⟩
theorem oneSide_one {a : Nat} (ha : nn a) (hl : a < 18446744073709551616) : oneSide 4607182418800017408 a := by
  have h1 : rung 4607182418800017408 = 4607182418800017408 := by decide
  by_cases h : 4607182418800017408 ≤ rung a
  · exact Or.inl ⟨⟨by decide, by rw [h1]; exact Nat.le_refl _, by decide⟩, ha, h, hl⟩
  · exact Or.inr ⟨⟨by rw [h1]; exact Nat.le_refl _, by decide⟩, by omega, hl⟩

/-! ### The operations as the walk runs them -/
section
variable {P : Program}
theorem run_add {a b : Nat} (ha : fin a) (hb : fin b) : ∀ (t : TypeId) (w : World), (binOp .add t (.float .f64 a) (.float .f64 b)).run P w = .ok (.float .f64 (fadd a b)) w :=
  fun t w => run_float_arith w .add t .f64 a b _ (add_some ha hb).1
theorem run_sub {a b : Nat} (ha : fin a) (hb : fin b) : ∀ (t : TypeId) (w : World), (binOp .sub t (.float .f64 a) (.float .f64 b)).run P w = .ok (.float .f64 (fsub a b)) w :=
  fun t w => run_float_arith w .sub t .f64 a b _ (sub_some ha hb).1
theorem run_mul {a b : Nat} (ha : fin a) (hb : fin b) : ∀ (t : TypeId) (w : World), (binOp .mul t (.float .f64 a) (.float .f64 b)).run P w = .ok (.float .f64 (fmul a b)) w :=
  fun t w => run_float_arith w .mul t .f64 a b _ (mul_some ha hb).1
theorem run_div {a b : Nat} (ha : fin a) (hb : fin b) (h0 : ¬ (rung a = 0 ∧ rung b = 0)) : ∀ (t : TypeId) (w : World), (binOp .quo t (.float .f64 a) (.float .f64 b)).run P w = .ok (.float .f64 (fdiv a b)) w :=
  fun t w => run_float_arith w .quo t .f64 a b _ (div_some ha hb h0).1
theorem run_toInt {b : Nat} (h : small b) {src dst : TypeId} (hs : (P.underlying src).isSome = true) (hd : P.underlying dst = some (.int .i64)) : ∀ (w : World), (convert src dst (.float .f64 b)).run P w = .ok (.int .i64 (trn b)) w :=
  fun w => run_convert_float_int w src dst .f64 .i64 b _ hs hd (toIntVal h)
end
end Go.Proofs.Ytdfhefnjoekgbaa.Fl
