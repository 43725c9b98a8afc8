/- logic.Truths. -/
import Derived.Test.YtdfhefnjoekgbaaRb
import Derived.Test.YtdfhefnjoekgbaaRa
namespace Go.Proofs.Ytdfhefnjoekgbaa
open Go.ChangeShapes Go.WideShapes Go.RowKit Bv Fl
set_option maxHeartbeats 1000000
set_option maxRecDepth 100000
/-- numbers as truths -/
def TruthsY (v0 : Value) (K : Nat) (l : List Nat) (w : World) (e : Ending) (w' : World) : Prop :=
  ∃ v, e = .returned (.tuple #[v, .bool true]) ∧ (∀ S, NumS w v0 K l S → BitS w' v (toB l) (fun i => S i ∨ New w.heap.size i)) ∧ Ext w w'
end Go.Proofs.Ytdfhefnjoekgbaa
