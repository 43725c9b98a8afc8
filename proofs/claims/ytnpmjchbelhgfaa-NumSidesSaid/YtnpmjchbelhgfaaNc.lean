/- Contracts of the functions of num and rebusref03 on whole numbers. -/
import Derived.Test.YtnpmjchbelhgfaaNb
namespace Go.Proofs.Ytnpmjchbelhgfaa
open Go.RowKit Fl

set_option maxHeartbeats 400000
namespace Fl
/-- at most 2^53 in size -/
def G (n : Int) : Prop := -9007199254740992 ≤ n ∧ n ≤ 9007199254740992
instance (n : Int) : Decidable (G n) := inferInstanceAs (Decidable (_ ∧ _))
end Fl

theorem good_any (n : Int) (w : World) :
    Calls Try.prog 45 #[.int .i64 n] w fun e w' => e = .returned (.bool (decide (G n))) ∧ w = w' := by
  by_cases h1 : -9007199254740992 ≤ n
  · by_cases h2 : n ≤ 9007199254740992
    · rw [decide_eq_true (show G n from ⟨h1, h2⟩)]
      go_enter Try.func45, Try.ntmps45
      go_wp2
      go_ret
      exact ⟨rfl, rfl⟩
    · rw [decide_eq_false (show ¬ G n from fun h => h2 h.2)]
      go_enter Try.func45, Try.ntmps45
      go_wp2
      go_ret
      exact ⟨rfl, rfl⟩
  · rw [decide_eq_false (show ¬ G n from fun h => h1 h.1)]
    go_enter Try.func45, Try.ntmps45
    go_wp2
    go_ret
    exact ⟨rfl, rfl⟩
theorem rsmall_any (n : Int) (w : World) :
    Calls Try.prog 31 #[.int .i64 n] w fun e w' => e = .returned (.bool (decide (G n))) ∧ w = w' := by
  by_cases h1 : -9007199254740992 ≤ n
  · by_cases h2 : n ≤ 9007199254740992
    · rw [decide_eq_true (show G n from ⟨h1, h2⟩)]
      go_enter Try.func31, Try.ntmps31
      go_wp2
      go_ret
      exact ⟨rfl, rfl⟩
    · rw [decide_eq_false (show ¬ G n from fun h => h2 h.2)]
      go_enter Try.func31, Try.ntmps31
      go_wp2
      go_ret
      exact ⟨rfl, rfl⟩
  · rw [decide_eq_false (show ¬ G n from fun h => h1 h.1)]
    go_enter Try.func31, Try.ntmps31
    go_wp2
    go_ret
    exact ⟨rfl, rfl⟩
theorem fit_any (n : Int) (w : World) :
    Calls Try.prog 47 #[.int .i64 n] w fun e w' => e = .returned (.tuple #[.int .i64 n, .bool (decide (G n))]) ∧ w = w' := by
  by_cases h1 : -9007199254740992 ≤ n
  · by_cases h2 : n ≤ 9007199254740992
    · rw [decide_eq_true (show G n from ⟨h1, h2⟩)]
      go_enter Try.func47, Try.ntmps47
      go_wp2
      go_ret2
      exact ⟨rfl, rfl⟩
    · rw [decide_eq_false (show ¬ G n from fun h => h2 h.2)]
      go_enter Try.func47, Try.ntmps47
      go_wp2
      go_ret2
      exact ⟨rfl, rfl⟩
  · rw [decide_eq_false (show ¬ G n from fun h => h1 h.1)]
    go_enter Try.func47, Try.ntmps47
    go_wp2
    go_ret2
    exact ⟨rfl, rfl⟩
theorem pair_any (n : Int) (b : Bool) (w : World) :
    Calls Try.prog 46 #[.int .i64 n, .bool b] w fun e w' => e = .returned (.tuple #[.int .i64 (if b then n else 0), .bool b]) ∧ w = w' := by
  cases b
  all_goals
    go_enter Try.func46, Try.ntmps46
    go_wp2
    go_ret2
    exact ⟨rfl, rfl⟩
/-- what a whole number's sum, difference or product comes to -/
def gN (n : Int) : Int := if G n then n else 0
theorem addInt_any (a b : Int) (w : World) :
    Calls Try.prog 28 #[.int .i64 a, .int .i64 b] w fun e w' => e = .returned (.tuple #[.int .i64 (if G a ∧ G b then gN (a + b) else 0), .bool (decide (G a ∧ G b ∧ G (a + b)))]) ∧ w = w' := by
  by_cases ha : G a
  · have da := decide_eq_true ha
    by_cases hb : G b
    · have db := decide_eq_true hb
      rw [if_pos ⟨ha, hb⟩]
      have e1 : decide (G a ∧ G b ∧ G (a + b)) = decide (G (a + b)) := by simp [ha, hb]
      rw [e1]
      have cp := pair_any (a + b) (decide (G (a + b))) w
      have hg : (if decide (G (a + b)) = true then a + b else 0) = gN (a + b) := by simp [gN]
      rw [hg] at cp
      have cf := fit_any (a + b) w
      obtain ⟨a1, a2⟩ := id ha
      obtain ⟨b1, b2⟩ := id hb
      clear e1 hg ha hb
      generalize decide (G (a + b)) = d at *
      generalize gN (a + b) = m at *
      go_enter Try.func28, Try.ntmps28
      go_wp2_with (first | (go_at_call 45; refine (good_any _ _).mono ?_; rintro e w' ⟨rfl, rfl⟩) | (go_at_call 47; refine cf.mono ?_; rintro e w' ⟨rfl, rfl⟩) | (go_at_call 46; refine cp.mono ?_; rintro e w' ⟨rfl, rfl⟩))
      go_ret2
      exact ⟨rfl, rfl⟩
    · have db := decide_eq_false hb
      rw [if_neg (fun h => hb h.2), decide_eq_false (fun h => hb h.2.1)]
      clear ha hb
      go_enter Try.func28, Try.ntmps28
      go_wp2_with (first | (go_at_call 45; refine (good_any _ _).mono ?_; rintro e w' ⟨rfl, rfl⟩))
      go_ret2
      exact ⟨rfl, rfl⟩
  · have da := decide_eq_false ha
    rw [if_neg (fun h => ha h.1), decide_eq_false (fun h => ha h.1)]
    clear ha
    go_enter Try.func28, Try.ntmps28
    go_wp2_with (first | (go_at_call 45; refine (good_any _ _).mono ?_; rintro e w' ⟨rfl, rfl⟩))
    go_ret2
    exact ⟨rfl, rfl⟩
end Go.Proofs.Ytnpmjchbelhgfaa
