/- The chapter's examples of num, and what the laws hold against each other. -/
import Derived.Test.YtidnikndjhfgaaaDoorNg
import Derived.ProofKit
import Derived.OpenShut
namespace Go.Proofs.YtidnikndjhfgaaaDoor
open Go.RowKit Fl

set_option maxHeartbeats 400000
theorem own : ownKnob Tryd.prog.godebug = none := by kernel_rfl
theorem lt64_of_wf {x : Nat} (h : (Lit.float .f64 x).wf = true) : x < 18446744073709551616 := by
  simpa [Lit.wf] using h
theorem div_l1 (w : World) : Calls Tryd.prog 53 #[.float .f64 0, .float .f64 0] w fun e w' => e = .returned (.tuple #[.float .f64 4607182418800017408, .int .i64 0]) ∧ w = w' := by
  have c := div_any 0 0 (by decide) (by decide) w
  rw [show dvN 0 0 = 4607182418800017408 by decide +kernel, show dvE 0 0 = 0 by decide +kernel] at c
  exact c
end Go.Proofs.YtidnikndjhfgaaaDoor
