/- The document's Tidy of a list; a box. -/
import Derived.Test.YtdfhefnjoekgbaaVk
namespace Go.Proofs.Ytdfhefnjoekgbaa
open Go.RowKit Bv Fl

/-- what a loop that appends has so far -/
def pre (f : Nat → Value) (k : Nat) : List Value := (List.range k).map f
theorem pre_step (f : Nat → Value) (k : Nat) : pre f k ++ [f k] = pre f (k + 1) := by simp [pre, List.range_succ]
/-- one element, laid for an append -/
theorem Sl.built (w : World) (us : Array Value) (t : TypeId) : Sl (w.alloc (.cells us t)) us.size (some ⟨w.heap.size, 0, none⟩) 1 us.toList := by
  refine ⟨by simp, fun _ => ⟨_, rfl, by simp, fun j u hu => ?_⟩⟩
  rw [show (Addr.add ⟨w.heap.size, 0, none⟩ j) = ⟨w.heap.size, j, none⟩ by unfold Addr.add; split <;> simp_all]
  rw [World.cell?_alloc_new]
  simpa using hu

set_option maxHeartbeats 1000000
def TidyPost (b : Bool) (l : List Nat) (n : Nat) (w : World) (e : Ending) (w' : World) : Prop :=
  ∃ v, e = .returned (.tuple #[v, .bool b]) ∧ (b = true → w'.ownsRow w.heap.size 81 1 v n (f64s (dnL l))) ∧ Ext w w'
end Go.Proofs.Ytdfhefnjoekgbaa
