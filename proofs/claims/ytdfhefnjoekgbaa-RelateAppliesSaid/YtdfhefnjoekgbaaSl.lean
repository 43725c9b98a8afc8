/- What a slice reads. -/
import Derived.Test.YtdfhefnjoekgbaaQq
import Derived.Test.YtdfhefnjoekgbaaRr
namespace Go.Proofs.Ytdfhefnjoekgbaa
open Go.ChangeShapes Go.WideShapes Go.RowKit Bv Fl
/-- of the blocks that there are, those of S alone are read for the slice to show xs -/
def SlS (w : World) (s : Nat) (A : Option Addr) (n : Nat) (xs : List Value) (S : Nat → Prop) : Prop := ∀ w' : World, w.heap.size ≤ w'.heap.size → (∀ i, i < w.heap.size → S i → w'.heap[i]? = w.heap[i]?) → Sl w' s A n xs
section
variable {w w' : World} {s n g : Nat} {A : Option Addr} {xs : List Value} {S : Nat → Prop}
theorem SlS.all (h : Sl w s A n xs) : SlS w s A n xs (fun i => i < w.heap.size) := fun _ hs hk => h.reach hs hk fun _ _ hb => hb
theorem SlS.is (h : SlS w s A n xs S) : Sl w s A n xs := h w (Nat.le_refl _) fun _ _ _ => rfl
theorem SlS.ext (h : SlS w s A n xs S) (hx : Ext w w') : SlS w' s A n xs S := fun w2 hs hk => h w2 (Nat.le_trans hx.size hs) fun i hi hS => (hk i (Nat.lt_of_lt_of_le hi hx.size) hS).trans (hx.block i hi)
theorem SlS.grown (h : SlS w s A n xs S) (hg : w.grownBy w' (some g)) (hS : ¬ S g) : SlS w' s A n xs S := fun w2 hs hk => h w2 (Nat.le_trans hg.size hs) fun i hi hi' => by
  have e : i ≠ g := fun e => hS (e ▸ hi')
  rw [hk i (Nat.lt_of_lt_of_le hi hg.size) hi']
  exact hg.block i hi (by simpa using e)
end
end Go.Proofs.Ytdfhefnjoekgbaa
