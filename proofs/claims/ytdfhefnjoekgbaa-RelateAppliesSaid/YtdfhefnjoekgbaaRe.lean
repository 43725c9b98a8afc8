/- rebusref12.Truths, rebusref12.Apply. -/
import Derived.Test.YtdfhefnjoekgbaaRd
import Derived.Test.YtdfhefnjoekgbaaQl
namespace Go.Proofs.Ytdfhefnjoekgbaa
open Go.ChangeShapes Go.WideShapes Go.RowKit Bv Fl
/-- the first k are truths -/
def upT (l : List Nat) (k : Nat) : Prop := ∀ j, j < k → l.getD j 0 = 0 ∨ l.getD j 0 = 4607182418800017408
set_option maxHeartbeats 1000000
set_option maxRecDepth 100000
def RTruths (b : Bool) (l : List Nat) (n : Nat) (w : World) (e : Ending) (w' : World) : Prop :=
  ∃ A m c, e = .returned (.tuple #[.slice A m c, .bool b]) ∧ Sl w' 1 A m (bools (if b then toB l else [])) ∧ (b = true → m = n) ∧ (b = false → m = 0) ∧ Ext w w'
section
variable (f : Int) (A A' : Option Addr) (m n c c' : Nat) (w : World)
end
end Go.Proofs.Ytdfhefnjoekgbaa
