/- Contracts of squeeze: Squeeze of numbers. -/
import Derived.Test.YtdfhefnjoekgbaaDoorQk
import Derived.Test.YtdfhefnjoekgbaaDoorQf
namespace Go.Proofs.YtdfhefnjoekgbaaDoor
open Go.RowKit Bv Fl
attribute [local go_sem ↓] Go.wp_at_zero Go.wp_at_succ
def SqPost (r : Nat) (v0 : Value) (K : Nat) (l : List Nat) (w : World) (e : Ending) (w' : World) : Prop :=
  ∃ v, e = .returned v ∧ (∀ S, NumS w v0 K l S → NumS w' v r l (fun i => S i ∨ New w.heap.size i)) ∧ Ext w w'
set_option maxHeartbeats 2000000
end Go.Proofs.YtdfhefnjoekgbaaDoor
