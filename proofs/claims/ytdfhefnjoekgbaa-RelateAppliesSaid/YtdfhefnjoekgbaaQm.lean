/- The chapter's example of squeeze. -/
import Derived.Test.YtdfhefnjoekgbaaQl
namespace Go.Proofs.Ytdfhefnjoekgbaa
open Go.RowKit Bv Fl
attribute [local go_sem ↓] Go.wp_at_zero Go.wp_at_succ
/-- what a literal slice leaves -/
theorem Sl.lit (w : World) (us : Array Value) (t : TypeId) : Sl (w.alloc (.cells us t)) 1 (some ⟨w.heap.size, 0, none⟩) us.size us.toList := by
  refine ⟨by simp, fun _ => ⟨_, rfl, by simp, fun j u hu => ?_⟩⟩
  rw [show (Addr.add ⟨w.heap.size, 0, none⟩ j) = ⟨w.heap.size, j, none⟩ by unfold Addr.add; split <;> simp_all]
  rw [World.cell?_alloc_new]
  simpa using hu
set_option maxHeartbeats 1000000
end Go.Proofs.Ytdfhefnjoekgbaa
