/- Contracts of the functions of num and rebusref03 on whole numbers. -/
import Derived.Test.YtmjikdkdccnbaaaNb
namespace Go.Proofs.Ytmjikdkdccnbaaa
open Go.RowKit Fl

set_option maxHeartbeats 400000
namespace Fl
/-- at most 2^53 in size -/
def G (n : Int) : Prop := -9007199254740992 ≤ n ∧ n ≤ 9007199254740992
instance (n : Int) : Decidable (G n) := inferInstanceAs (Decidable (_ ∧ _))
end Fl

theorem rsmall_any (n : Int) (w : World) :
    Calls Try.prog 38 #[.int .i64 n] w fun e w' => e = .returned (.bool (decide (G n))) ∧ w = w' := by
  by_cases h1 : -9007199254740992 ≤ n
  · by_cases h2 : n ≤ 9007199254740992
    · rw [decide_eq_true (show G n from ⟨h1, h2⟩)]
      go_enter Try.func38, Try.ntmps38
      go_wp2
      go_ret
      exact ⟨rfl, rfl⟩
    · rw [decide_eq_false (show ¬ G n from fun h => h2 h.2)]
      go_enter Try.func38, Try.ntmps38
      go_wp2
      go_ret
      exact ⟨rfl, rfl⟩
  · rw [decide_eq_false (show ¬ G n from fun h => h1 h.1)]
    go_enter Try.func38, Try.ntmps38
    go_wp2
    go_ret
    exact ⟨rfl, rfl⟩
/-- what a whole number's sum, difference or product comes to -/
def gN (n : Int) : Int := if G n then n else 0
end Go.Proofs.Ytmjikdkdccnbaaa
