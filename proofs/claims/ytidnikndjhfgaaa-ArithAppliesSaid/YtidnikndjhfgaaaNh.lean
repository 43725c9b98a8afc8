/- The chapter's examples of num, and what the laws hold against each other. -/
import Derived.Test.YtidnikndjhfgaaaNg
import Derived.ProofKit
import Derived.OpenShut
namespace Go.Proofs.Ytidnikndjhfgaaa
open Go.RowKit Fl

set_option maxHeartbeats 400000
theorem own : ownKnob Try.prog.godebug = none := by kernel_rfl
theorem lt64_of_wf {x : Nat} (h : (Lit.float .f64 x).wf = true) : x < 18446744073709551616 := by
  simpa [Lit.wf] using h
theorem rest_l1 (w : World) : Calls Try.prog 61 #[.float .f64 4613937818241073152, .float .f64 13830554455654793216] w fun e w' => e = .returned (.tuple #[.float .f64 4611686018427387904, .int .i64 0]) ∧ w = w' := by
  have c := rest_any 4613937818241073152 13830554455654793216 w
  rw [show rsN 4613937818241073152 13830554455654793216 = 4611686018427387904 by decide +kernel, show rsE 4613937818241073152 13830554455654793216 = 0 by decide +kernel] at c
  exact c
theorem rest_l2 (w : World) : Calls Try.prog 61 #[.float .f64 13837309855095848960, .float .f64 4607182418800017408] w fun e w' => e = .returned (.tuple #[.float .f64 13835058055282163712, .int .i64 0]) ∧ w = w' := by
  have c := rest_any 13837309855095848960 4607182418800017408 w
  rw [show rsN 13837309855095848960 4607182418800017408 = 13835058055282163712 by decide +kernel, show rsE 13837309855095848960 4607182418800017408 = 0 by decide +kernel] at c
  exact c
theorem power_l1 (w : World) : Calls Try.prog 62 #[.float .f64 4611686018427387904, .float .f64 13830554455654793216] w fun e w' => e = .returned (.tuple #[.float .f64 4602678819172646912, .int .i64 0]) ∧ w = w' := by
  have c := power_any 4611686018427387904 13830554455654793216 (by decide) (by decide) w
  rw [show pwN 4611686018427387904 13830554455654793216 = 4602678819172646912 by decide +kernel, show pwE 4611686018427387904 13830554455654793216 = 0 by decide +kernel] at c
  exact c
theorem div_l1 (w : World) : Calls Try.prog 58 #[.float .f64 0, .float .f64 0] w fun e w' => e = .returned (.tuple #[.float .f64 4607182418800017408, .int .i64 0]) ∧ w = w' := by
  have c := div_any 0 0 (by decide) (by decide) w
  rw [show dvN 0 0 = 4607182418800017408 by decide +kernel, show dvE 0 0 = 0 by decide +kernel] at c
  exact c
end Go.Proofs.Ytidnikndjhfgaaa
