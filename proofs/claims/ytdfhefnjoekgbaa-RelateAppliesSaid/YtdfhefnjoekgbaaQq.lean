/- SqueezeInto, for every input: the walk. -/
import Derived.Test.YtdfhefnjoekgbaaQp
namespace Go.Proofs.Ytdfhefnjoekgbaa
open Go.ChangeShapes Go.WideShapes Go.RowKit Bv Fl

/-- Into, where the numbers fit -/
def IntoY (v0 : Value) (K k : Nat) (l : List Nat) (w : World) (e : Ending) (w' : World) : Prop :=
  ∃ v, e = .returned (.tuple #[v, .bool true]) ∧ (∀ S, NumS w v0 K l S → NumS w' v k l (fun i => S i ∨ New w.heap.size i)) ∧ Ext w w'
set_option maxHeartbeats 1000000
end Go.Proofs.Ytdfhefnjoekgbaa
