/- rebusref12.Truths, rebusref12.Apply. -/
import Derived.Test.YtdfhefnjoekgbaaDoorRd
import Derived.Test.YtdfhefnjoekgbaaDoorQl
namespace Go.Proofs.YtdfhefnjoekgbaaDoor
open Go.ChangeShapes Go.WideShapes Go.RowKit Bv Fl
/-- the first k are truths -/
def upT (l : List Nat) (k : Nat) : Prop := ∀ j, j < k → l.getD j 0 = 0 ∨ l.getD j 0 = 4607182418800017408
theorem upT_step {l : List Nat} {k : Nat} (h : upT l k) (g : l.getD k 0 = 0 ∨ l.getD k 0 = 4607182418800017408) : upT l (k + 1) := by
  intro j hj
  by_cases e : j = k
  · subst e; exact g
  · exact h j (by omega)
theorem ne_one {b : Nat} (h : tidy b) : (FloatKind.f64.format.order b 4607182418800017408 != some .eq) = !decide (b = 4607182418800017408) := by
  show (!(FloatKind.f64.format.order b 4607182418800017408 == some .eq)) = _
  rw [eq_one h]
theorem ne_zero' {b : Nat} (h : tidy b) : (FloatKind.f64.format.order b 0 != some .eq) = !decide (b = 0) := by
  show (!(FloatKind.f64.format.order b 0 == some .eq)) = _
  rw [eq_zero' h]
theorem bools_toB (l : List Nat) : bools (toB l) = pre (fun k => .bool (decide (l.getD k 0 = 4607182418800017408))) l.length := by
  apply List.ext_getElem?
  intro j
  by_cases h : j < l.length
  · rw [bools_get (by rw [toB_length]; exact h), toB_get h]
    simp [pre, h]
  · simp [bools, toB, pre, h]
theorem appB_row (f : Int) (x y : List Bool) (N : Nat) : bools (appB f x y N) = pre (fun i => .bool (oneL f (pkB x i) (pkB y i))) N := by
  simp [bools, appB, tabL, pre]
set_option maxHeartbeats 1000000
set_option maxRecDepth 100000
def RTruths (b : Bool) (l : List Nat) (n : Nat) (w : World) (e : Ending) (w' : World) : Prop :=
  ∃ A m c, e = .returned (.tuple #[.slice A m c, .bool b]) ∧ Sl w' 1 A m (bools (if b then toB l else [])) ∧ (b = true → m = n) ∧ (b = false → m = 0) ∧ Ext w w'
section
variable (f : Int) (A A' : Option Addr) (m n c c' : Nat) (w : World)
theorem okL_yes {f : Int} (h : okL f = true) : 21 ≤ f ∧ f ≤ 24 := of_decide_eq_true h
end
end Go.Proofs.YtdfhefnjoekgbaaDoor
