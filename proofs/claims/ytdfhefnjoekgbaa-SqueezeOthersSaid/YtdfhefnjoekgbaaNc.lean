/- Contracts of the functions of num and rebusref03 on whole numbers. -/
import Derived.Test.YtdfhefnjoekgbaaNb
namespace Go.Proofs.Ytdfhefnjoekgbaa
open Go.RowKit Fl

set_option maxHeartbeats 400000
namespace Fl
/-- at most 2^53 in size -/
def G (n : Int) : Prop := -9007199254740992 ≤ n ∧ n ≤ 9007199254740992
instance (n : Int) : Decidable (G n) := inferInstanceAs (Decidable (_ ∧ _))
end Fl

/-- what a whole number's sum, difference or product comes to -/
def gN (n : Int) : Int := if G n then n else 0
end Go.Proofs.Ytdfhefnjoekgbaa
