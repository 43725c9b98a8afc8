/- Contracts of squeeze: Least. -/
import Derived.Test.YtdfhefnjoekgbaaDoorQ
import Derived.Test.YtdfhefnjoekgbaaDoorQe
namespace Go.Proofs.YtdfhefnjoekgbaaDoor
open Go.RowKit Bv Fl

theorem least_three {l : List Nat} {k : Nat} (hw : allW l = true) (hk : k ≤ l.length) (h : lm l k = 3) : leastL l = 3 := by
  unfold leastL
  rw [hw]
  have h1 := lm_mono l hk
  have h2 := lm_le l l.length
  show lm l l.length = 3
  omega

theorem nwhole_four' (v : Value) (K : Nat) (l : List Nat) (j : Nat) (w : World) (h : IsNum w v K l) (hj : j < l.length) (h4 : K = 4) : Calls Tryd.prog 53 #[v, .int .i64 (j : Int)] w fun e w' => e = .returned (.tuple #[.int .i64 0, .bool false]) ∧ Ext w w' := by
  subst h4
  exact nwhole_four v l j w h hj
set_option maxHeartbeats 2000000
end Go.Proofs.YtdfhefnjoekgbaaDoor
