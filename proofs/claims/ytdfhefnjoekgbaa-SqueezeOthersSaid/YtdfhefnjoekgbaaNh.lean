/- The chapter's examples of num, and what the laws hold against each other. -/
import Derived.Test.YtdfhefnjoekgbaaNg
import Derived.ProofKit
import Derived.OpenShut
namespace Go.Proofs.Ytdfhefnjoekgbaa
open Go.RowKit Fl

set_option maxHeartbeats 400000
theorem own : ownKnob Try.prog.godebug = none := by kernel_rfl
theorem lt64_of_wf {x : Nat} (h : (Lit.float .f64 x).wf = true) : x < 18446744073709551616 := by
  simpa [Lit.wf] using h
end Go.Proofs.Ytdfhefnjoekgbaa
