/- Contracts of the functions of num and rebusref03 on whole numbers: products, rests. -/
import Derived.Test.YtnpmjchbelhgfaaNc
namespace Go.Proofs.Ytnpmjchbelhgfaa
open Go.RowKit Fl

set_option maxHeartbeats 400000
namespace Fl
theorem tmod_bd (a b : Int) (h : a ≠ 0) : -(a.natAbs : Int) < b.tmod a ∧ b.tmod a < a.natAbs := by
  have h1 := Int.natAbs_tmod b a
  have h2 : b.natAbs % a.natAbs < a.natAbs := Nat.mod_lt _ (by omega)
  omega
/-- what is left of b by a, of a's sign; b itself by 0 -/
def restI (a b : Int) : Int := if a = 0 then b else if b.tmod a ≠ 0 ∧ ¬ (b.tmod a < 0 ↔ a < 0) then b.tmod a + a else b.tmod a
theorem rest_zero (a b : Int) (h : ¬ a = 0) (h1 : b.tmod a = 0) : Ending.returned (.int .i64 0) = Ending.returned (.int .i64 (restI a b)) := by
  unfold restI; rw [if_neg h, if_neg (by omega), h1]
theorem rest_turn (a b : Int) (h : ¬ a = 0) (h2 : (b.tmod a != 0) = true ∧ (!decide (b.tmod a < 0) == decide (a < 0)) = true) (a1 : -9223372036854775808 ≤ a) (a2 : a ≤ 9223372036854775807) : Ending.returned (.int .i64 (wrap64 (b.tmod a + a))) = Ending.returned (.int .i64 (restI a b)) := by
  have h3 := tmod_bd a b h
  have h4 : b.tmod a ≠ 0 ∧ ¬ (b.tmod a < 0 ↔ a < 0) := by
    have h5 := h2.1
    have h6 := h2.2
    refine ⟨by simpa using h5, ?_⟩
    intro h7
    by_cases h8 : b.tmod a < 0 <;> by_cases h9 : a < 0 <;> simp [h8, h9] at h6 h7
  unfold restI; rw [if_neg h, if_pos h4]
  congr 2
  unfold wrap64
  omega
theorem rest_stay (a b : Int) (h : ¬ a = 0) (h2 : (b.tmod a != 0) = false ∨ (!decide (b.tmod a < 0) == decide (a < 0)) = false) : Ending.returned (.int .i64 (b.tmod a)) = Ending.returned (.int .i64 (restI a b)) := by
  unfold restI; rw [if_neg h, if_neg]
  rintro ⟨h3, h4⟩
  rcases h2 with h2 | h2
  · simp at h2; exact h3 h2
  · apply h4
    by_cases h5 : b.tmod a < 0 <;> by_cases h6 : a < 0 <;> simp [h5, h6] at h2 ⊢
theorem restI_lt {a b : Int} (a1 : -9223372036854775808 ≤ a) (a2 : a ≤ 9223372036854775807) (b1 : -9223372036854775808 ≤ b) (b2 : b ≤ 9223372036854775807) : -9223372036854775808 ≤ restI a b ∧ restI a b ≤ 9223372036854775807 := by
  unfold restI
  split
  · omega
  · have := tmod_bd a b ‹_›
    split <;> omega
theorem restI_G {a b : Int} (ha : G a) (hb : G b) : G (restI a b) := by
  unfold G at *
  unfold restI
  split
  · exact hb
  · have := tmod_bd a b ‹_›
    split <;> omega
theorem rrest_wrap (a b : Int) (h : a ≠ 0) (h' : a ≠ -1) (b1 : -9223372036854775808 ≤ b) (b2 : b ≤ 9223372036854775807) : wrap64 (b.tdiv a) = b.tdiv a ∧ wrap64 (b - wrap64 (b.tdiv a * a)) = b.tmod a := by
  have h1 := Int.tmod_add_mul_tdiv b a
  have h2 := Int.natAbs_tmod b a
  have h3 : (b.tdiv a).natAbs = b.natAbs / a.natAbs := Int.natAbs_tdiv b a
  have h5 : b.natAbs % a.natAbs ≤ b.natAbs := Nat.mod_le _ _
  have h6 : -9223372036854775808 ≤ b.tdiv a ∧ b.tdiv a ≤ 9223372036854775807 := by
    by_cases ha1 : a = 1
    · subst ha1; rw [Int.tdiv_one]; exact ⟨b1, b2⟩
    · have : b.natAbs / a.natAbs ≤ b.natAbs / 2 := Nat.div_le_div_left (by omega) (by omega)
      omega
  have h7 : wrap64 (b.tdiv a) = b.tdiv a := by unfold wrap64; omega
  have h8 : b.tdiv a * a = b - b.tmod a := by rw [Int.mul_comm]; omega
  have h9 : (b.tmod a < 0 → b < 0) ∧ (0 < b.tmod a → 0 < b) := by
    constructor
    · intro hh; have := Int.tmod_nonneg (a := b) a; omega
    · intro hh; have := Int.tmod_nonneg (a := -b) a; rw [Int.neg_tmod] at this; omega
  refine ⟨h7, ?_⟩
  rw [h8]
  unfold wrap64
  omega
end Fl

theorem restInt_any (a b : Int) (a1 : -9223372036854775808 ≤ a) (a2 : a ≤ 9223372036854775807) (w : World) :
    Calls Try.prog 16 #[.int .i64 a, .int .i64 b] w fun e w' => e = .returned (.int .i64 (restI a b)) ∧ w = w' := by
  by_cases a0 : a = 0
  · subst a0
    go_enter Try.func16, Try.ntmps16
    go_wp2
    go_ret
    exact ⟨rfl, rfl⟩
  · have na : (a == 0) = false := by simp; omega
    have h := a0
    go_enter Try.func16, Try.ntmps16
    go_wp2
    · go_ret
      exact ⟨rest_zero a b h ‹_›, rfl⟩
    · go_ret
      exact ⟨rest_turn a b h ‹_› a1 a2, rfl⟩
    · go_ret
      exact ⟨rest_stay a b h ‹_›, rfl⟩

theorem rrest_any (a b : Int) (a1 : -9223372036854775808 ≤ a) (a2 : a ≤ 9223372036854775807) (b1 : -9223372036854775808 ≤ b) (b2 : b ≤ 9223372036854775807) (w : World) :
    Calls Try.prog 17 #[.int .i64 a, .int .i64 b] w fun e w' => e = .returned (.int .i64 (restI a b)) ∧ w = w' := by
  by_cases a0 : a = 0
  · subst a0
    go_enter Try.func17, Try.ntmps17
    go_wp2
    go_ret
    exact ⟨rfl, rfl⟩
  · have na : (a == 0) = false := by simp; omega
    by_cases an : a = -1
    · subst an
      have e : restI (-1) b = 0 := by
        have h := tmod_bd (-1) b (by omega)
        unfold restI
        rw [if_neg (by omega), if_neg (by omega)]
        omega
      rw [e]
      clear e a0 na
      go_enter Try.func17, Try.ntmps17
      go_wp2
      go_ret
      exact ⟨rfl, rfl⟩
    · have nn : (a == -1) = false := by simp; omega
      obtain ⟨hx, hy⟩ := rrest_wrap a b a0 an b1 b2
      have ht := tmod_bd a b a0
      have hd : (if b.tmod a ≠ 0 ∧ ¬ (b.tmod a < 0 ↔ a < 0) then b.tmod a + a else b.tmod a) = restI a b := by unfold restI; rw [if_neg a0]
      rw [← hd]
      have h := a0
      clear hd an
      generalize b.tmod a = t at *
      rcases Int.lt_trichotomy t 0 with st | st | st <;> rcases Int.lt_or_gt_of_ne a0 with sa | sa
      · rw [if_neg (by omega)]
        go_enter Try.func17, Try.ntmps17
        go_wp2
        go_ret
        exact ⟨rfl, rfl⟩
      · rw [if_pos (by omega)]
        have e : IntKind.i64.wrap (t + a) = t + a := IntWalk.i64_in _ (by omega)
        go_enter Try.func17, Try.ntmps17
        go_wp2
        go_ret
        exact ⟨rfl, rfl⟩
      · rw [if_neg (by omega)]
        subst st
        go_enter Try.func17, Try.ntmps17
        go_wp2
        go_ret
        exact ⟨congrArg (fun z => Ending.returned (.int .i64 z)) hy, rfl⟩
      · rw [if_neg (by omega)]
        subst st
        go_enter Try.func17, Try.ntmps17
        go_wp2
        go_ret
        exact ⟨congrArg (fun z => Ending.returned (.int .i64 z)) hy, rfl⟩
      · rw [if_pos (by omega)]
        have e : IntKind.i64.wrap (t + a) = t + a := IntWalk.i64_in _ (by omega)
        go_enter Try.func17, Try.ntmps17
        go_wp2
        go_ret
        exact ⟨rfl, rfl⟩
      · rw [if_neg (by omega)]
        go_enter Try.func17, Try.ntmps17
        go_wp2
        go_ret
        exact ⟨rfl, rfl⟩

theorem ret_intb {a b : Int} {c : Bool} (h : a = b) : Ending.returned (.tuple #[.int .i64 a, .bool c]) = Ending.returned (.tuple #[.int .i64 b, .bool c]) := by rw [h]
theorem mulInt_abs (x y : Int) (sx sy : Bool) (x0 : 0 < x) (y0 : 0 < y) (x1 : x ≤ 9007199254740992) (y1 : y ≤ 9007199254740992) (w : World) :
    Calls Try.prog 30 #[.int .i64 (if sx then -x else x), .int .i64 (if sy then -y else y)] w fun e w' => e = .returned (.tuple #[.int .i64 (if x * y ≤ 9007199254740992 then (if sx ^^ sy then -(x * y) else x * y) else 0), .bool (decide (x * y ≤ 9007199254740992))]) ∧ w = w' := by
  have hp : 0 < x * y := Int.mul_pos x0 y0
  have ga : G (if sx then -x else x) := by unfold G; split <;> omega
  have gb : G (if sy then -y else y) := by unfold G; split <;> omega
  have na : ((if sx then -x else x) == 0) = false := by simp; split <;> omega
  have nb : ((if sy then -y else y) == 0) = false := by simp; split <;> omega
  have dm : x ≤ 9007199254740992 / y ↔ x * y ≤ 9007199254740992 := Int.le_ediv_iff_mul_le y0
  by_cases hm : x * y ≤ 9007199254740992
  · have hq : ¬ 9007199254740992 / y < x := by omega
    rw [if_pos hm, decide_eq_true hm]
    clear dm
    cases sx <;> cases sy <;> simp only [Bool.false_eq_true, if_false, if_true, Bool.xor_false, Bool.xor_true, Bool.not_false, Bool.not_true] at ga gb na nb ⊢
    all_goals
      have da := decide_eq_true ga
      have db := decide_eq_true gb
      clear ga gb
      go_enter Try.func30, Try.ntmps30
      go_wp2_with (first | (go_at_call 45; refine (good_any _ _).mono ?_; rintro e w' ⟨rfl, rfl⟩))
      go_ret2
      refine ⟨ret_intb ?_, rfl⟩
      first | rfl | (unfold wrap64; simp only [Int.neg_mul, Int.mul_neg]; omega)
  · have hq : 9007199254740992 / y < x := by omega
    rw [if_neg hm, decide_eq_false hm]
    clear dm
    cases sx <;> cases sy <;> simp only [Bool.false_eq_true, if_false, if_true] at ga gb na nb ⊢
    all_goals
      have da := decide_eq_true ga
      have db := decide_eq_true gb
      clear ga gb
      go_enter Try.func30, Try.ntmps30
      go_wp2_with (first | (go_at_call 45; refine (good_any _ _).mono ?_; rintro e w' ⟨rfl, rfl⟩))
      go_ret2
      exact ⟨rfl, rfl⟩
end Go.Proofs.Ytnpmjchbelhgfaa
