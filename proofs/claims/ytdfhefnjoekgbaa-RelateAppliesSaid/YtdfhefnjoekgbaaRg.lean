/- rebuslaw12.kept, awake. -/
import Derived.Test.YtdfhefnjoekgbaaRf
import Derived.Test.YtdfhefnjoekgbaaQm
import Derived.Test.YtdfhefnjoekgbaaOs
namespace Go.Proofs.Ytdfhefnjoekgbaa
open Go.ChangeShapes Go.WideShapes Go.RowKit Bv Fl
set_option maxHeartbeats 1000000
set_option maxRecDepth 100000
def KeptY (l : List Nat) (w : World) (e : Ending) (w' : World) : Prop := ∃ v k, e = .returned (.tuple #[v, .bool true]) ∧ NumS w' v k l (New w.heap.size) ∧ Ext w w'
section
variable (A : Option Addr) (l : List Nat) (n : Nat) (hn : n = l.length) (c : Nat) (w : World) (hl : n ≤ 1048576) (K : Int)
include hn hl
end
theorem bools_same (A A' : Option Addr) (l : List Bool) (n n' c c' : Nat) (hn : n = l.length) (hn' : n' = l.length) (w : World) (hl : n ≤ 1048576) (hs : Sl w 1 A n (bools l)) (hs' : Sl w 1 A' n' (bools l)) : Calls Try.prog 39 #[.slice A n c, .slice A' n' c'] w fun e w' => e = .returned (.bool true) ∧ Ext w w' := by
  obtain rfl : n = n' := hn.trans hn'.symm
  refine (boolsq_any A A' l l n n c c' hn hn w hl hs hs').mono ?_
  rintro e w' ⟨rfl, h⟩
  exact ⟨by simp, Ext.of_drewN h⟩
theorem unpack_sl (v : Value) (l : List Bool) (n : Nat) (hn : n = l.length) (w : World) (h : IsB w v l) : Calls Try.prog 40 #[v] w fun e w' => ∃ B cb, e = .returned (.slice B n cb) ∧ Sl w' 1 B n (bools l) ∧ Ext w w' := by
  subst hn
  refine (unpack_any v l w h).mono ?_
  rintro e w' ⟨v', rfl, ho, hx⟩
  obtain ⟨B, cb, rfl, -, -⟩ := own_form ho
  exact ⟨B, cb, rfl, Sl.own ho, hx⟩
attribute [local go_sem ↓] Go.wp_at_zero Go.wp_at_succ
end Go.Proofs.Ytdfhefnjoekgbaa
