/- SqueezeLeast, for every input: the walk. -/
import Derived.Test.YtdfhefnjoekgbaaDoorQm
import Derived.Test.YtdfhefnjoekgbaaDoorVl
namespace Go.Proofs.YtdfhefnjoekgbaaDoor
open Go.ChangeShapes Go.WideShapes Go.RowKit Bv Fl
attribute [local go_sem ↓] Go.wp_at_zero Go.wp_at_succ

theorem nnums_sl (v : Value) (k : Nat) (l : List Nat) (n : Nat) (hn : n = l.length) (w : World) (h : IsNum w v k l) : Calls Tryd.prog 41 #[v] w fun e w' => ∃ B cb, e = .returned (.slice B n cb) ∧ Sl w' 1 B n (f64s l) ∧ Ext w w' := by
  refine (nnums_any v k l w h).mono ?_
  rintro e w' ⟨v', rfl, ho, hx⟩
  obtain ⟨B, cb, rfl, -, -⟩ := own_form ho
  subst hn
  exact ⟨B, cb, rfl, Sl.own ho, hx⟩
theorem kind_zero (z : Value) (hz : zeroVec = z) (w : World) : Calls Tryd.prog 36 #[z] w fun e w' => e = .returned (.int .i64 0) ∧ Ext w w' := by
  subst hz
  exact vkind_any zeroVec VD.none w (IsVec.zero w)

set_option maxHeartbeats 4000000
end Go.Proofs.YtdfhefnjoekgbaaDoor
