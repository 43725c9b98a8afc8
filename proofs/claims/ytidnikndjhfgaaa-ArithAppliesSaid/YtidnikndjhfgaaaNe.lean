/- Contracts of the functions of num and rebusref03: differences and products of whole numbers, rests of words, powers. -/
import Derived.Test.YtidnikndjhfgaaaN
namespace Go.Proofs.Ytidnikndjhfgaaa
open Go.RowKit Fl

set_option maxHeartbeats 400000
theorem subInt_any (a b : Int) (w : World) :
    Calls Try.prog 108 #[.int .i64 a, .int .i64 b] w fun e w' => e = .returned (.tuple #[.int .i64 (if G a ∧ G b then gN (a - b) else 0), .bool (decide (G a ∧ G b ∧ G (a - b)))]) ∧ w = w' := by
  by_cases ha : G a
  · have da := decide_eq_true ha
    by_cases hb : G b
    · have db := decide_eq_true hb
      rw [if_pos ⟨ha, hb⟩]
      have e1 : decide (G a ∧ G b ∧ G (a - b)) = decide (G (a - b)) := by simp [ha, hb]
      rw [e1]
      have cp := pair_any (a - b) (decide (G (a - b))) w
      have hg : (if decide (G (a - b)) = true then a - b else 0) = gN (a - b) := by simp [gN]
      rw [hg] at cp
      have cf := fit_any (a - b) w
      obtain ⟨a1, a2⟩ := id ha
      obtain ⟨b1, b2⟩ := id hb
      clear e1 hg ha hb
      generalize decide (G (a - b)) = d at *
      generalize gN (a - b) = m at *
      go_enter Try.func108, Try.ntmps108
      go_wp2_with (first | (go_at_call 115; refine (good_any _ _).mono ?_; rintro e w' ⟨rfl, rfl⟩) | (go_at_call 117; refine cf.mono ?_; rintro e w' ⟨rfl, rfl⟩) | (go_at_call 116; refine cp.mono ?_; rintro e w' ⟨rfl, rfl⟩))
      go_ret2
      exact ⟨rfl, rfl⟩
    · have db := decide_eq_false hb
      rw [if_neg (fun h => hb h.2), decide_eq_false (fun h => hb h.2.1)]
      clear ha hb
      go_enter Try.func108, Try.ntmps108
      go_wp2_with (first | (go_at_call 115; refine (good_any _ _).mono ?_; rintro e w' ⟨rfl, rfl⟩))
      go_ret2
      exact ⟨rfl, rfl⟩
  · have da := decide_eq_false ha
    rw [if_neg (fun h => ha h.1), decide_eq_false (fun h => ha h.1)]
    clear ha
    go_enter Try.func108, Try.ntmps108
    go_wp2_with (first | (go_at_call 115; refine (good_any _ _).mono ?_; rintro e w' ⟨rfl, rfl⟩))
    go_ret2
    exact ⟨rfl, rfl⟩

theorem signs (a : Int) : a = if decide (a < 0) then -(a.natAbs : Int) else (a.natAbs : Int) := by
  by_cases h : a < 0 <;> simp [h] <;> omega
theorem G_mul (a b : Int) : G (a * b) ↔ (a.natAbs : Int) * (b.natAbs : Int) ≤ 9007199254740992 := by
  have h : ((a * b).natAbs : Int) = (a.natAbs : Int) * (b.natAbs : Int) := by rw [Int.natAbs_mul, Int.natCast_mul]
  rw [← h]
  unfold G
  omega
theorem mul_signs (a b : Int) : (if decide (a < 0) ^^ decide (b < 0) then -((a.natAbs : Int) * (b.natAbs : Int)) else (a.natAbs : Int) * (b.natAbs : Int)) = a * b := by
  conv => rhs; rw [signs a, signs b]
  by_cases h : a < 0 <;> by_cases k : b < 0 <;> simp [h, k, Int.neg_mul, Int.mul_neg]
theorem mulInt_any (a b : Int) (w : World) :
    Calls Try.prog 109 #[.int .i64 a, .int .i64 b] w fun e w' => e = .returned (.tuple #[.int .i64 (if G a ∧ G b then gN (a * b) else 0), .bool (decide (G a ∧ G b ∧ G (a * b)))]) ∧ w = w' := by
  by_cases ha : G a
  · have da := decide_eq_true ha
    by_cases hb : G b
    · have db := decide_eq_true hb
      rw [if_pos ⟨ha, hb⟩]
      have e1 : decide (G a ∧ G b ∧ G (a * b)) = decide (G (a * b)) := by simp [ha, hb]
      rw [e1]
      by_cases a0 : a = 0
      · subst a0
        have e2 : gN (0 * b) = 0 := by unfold gN; simp
        have e3 : decide (G (0 * b)) = true := by rw [Int.zero_mul]; decide
        rw [e2, e3]
        clear e1 e2 e3 ha hb
        go_enter Try.func109, Try.ntmps109
        go_wp2_with (first | (go_at_call 115; refine (good_any _ _).mono ?_; rintro e w' ⟨rfl, rfl⟩))
        go_ret2
        exact ⟨rfl, rfl⟩
      by_cases b0 : b = 0
      · subst b0
        have e2 : gN (a * 0) = 0 := by unfold gN; simp
        have e3 : decide (G (a * 0)) = true := by rw [Int.mul_zero]; decide
        have na : (a == 0) = false := by simp; omega
        rw [e2, e3]
        clear e1 e2 e3 ha hb a0
        go_enter Try.func109, Try.ntmps109
        go_wp2_with (first | (go_at_call 115; refine (good_any _ _).mono ?_; rintro e w' ⟨rfl, rfl⟩))
        go_ret2
        exact ⟨rfl, rfl⟩
      have c := mulInt_abs (a.natAbs : Int) (b.natAbs : Int) (decide (a < 0)) (decide (b < 0)) (by omega) (by omega) (by unfold G at ha; omega) (by unfold G at hb; omega) w
      rw [← signs a, ← signs b, mul_signs a b] at c
      have e2 : (if (a.natAbs : Int) * (b.natAbs : Int) ≤ 9007199254740992 then a * b else 0) = gN (a * b) := by
        unfold gN
        by_cases h : G (a * b)
        · rw [if_pos h, if_pos ((G_mul a b).1 h)]
        · rw [if_neg h, if_neg (fun h' => h ((G_mul a b).2 h'))]
      have e3 : decide ((a.natAbs : Int) * (b.natAbs : Int) ≤ 9007199254740992) = decide (G (a * b)) := decide_eq_decide.2 (G_mul a b).symm
      rw [e2, e3] at c
      exact c
    · have db := decide_eq_false hb
      rw [if_neg (fun h => hb h.2), decide_eq_false (fun h => hb h.2.1)]
      clear ha hb
      go_enter Try.func109, Try.ntmps109
      go_wp2_with (first | (go_at_call 115; refine (good_any _ _).mono ?_; rintro e w' ⟨rfl, rfl⟩))
      go_ret2
      exact ⟨rfl, rfl⟩
  · have da := decide_eq_false ha
    rw [if_neg (fun h => ha h.1), decide_eq_false (fun h => ha h.1)]
    clear ha
    go_enter Try.func109, Try.ntmps109
    go_wp2_with (first | (go_at_call 115; refine (good_any _ _).mono ?_; rintro e w' ⟨rfl, rfl⟩))
    go_ret2
    exact ⟨rfl, rfl⟩

theorem rsize_any (n : Int) (h : -9223372036854775808 < n) (h' : n ≤ 9223372036854775807) (w : World) :
    Calls Try.prog 87 #[.int .i64 n] w fun e w' => e = .returned (.int .i64 (n.natAbs : Int)) ∧ w = w' := by
  by_cases s : n < 0
  · have e : (n.natAbs : Int) = -n := by omega
    rw [e]
    clear e
    go_enter Try.func87, Try.ntmps87
    go_wp2
    go_ret
    refine ⟨?_, rfl⟩
    simp
  · have e : (n.natAbs : Int) = n := by omega
    rw [e]
    clear e
    go_enter Try.func87, Try.ntmps87
    go_wp2
    go_ret
    exact ⟨rfl, rfl⟩
end Go.Proofs.Ytidnikndjhfgaaa
