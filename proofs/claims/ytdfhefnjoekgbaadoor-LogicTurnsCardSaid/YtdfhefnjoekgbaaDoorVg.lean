/- Contracts of vec: Nums of others, Wholes, Packed, Text, Arrays. -/
import Derived.Test.YtdfhefnjoekgbaaDoorVf
namespace Go.Proofs.YtdfhefnjoekgbaaDoor
open Go.RowKit Bv Fl

set_option maxHeartbeats 1000000
theorem vnums_none (v : Value) (d : VD) (w : World) (h : IsVec w v d) (hc : d.cls ≠ 0) : Calls Tryd.prog 41 #[v] w fun e w' => e = .returned (.slice none 0 0) ∧ Ext w w' := by
  obtain ⟨c1, bn, c3, c4, c5, c6, c7, rfl, _⟩ := h.form
  have HV := Lib.hid h
  have hc0 : ((d.cls : Int) != 0) = true := by simp; omega
  clear h hc
  go_enter Tryd.func41, Tryd.ntmps41
  go_wp2_with fail
  refine (vclass_any _ d _ (by exact HV.out.ext ((Ext.refl w).alloc _))).mono ?_
  rintro e w1 ⟨rfl, hx⟩
  have HX := Lib.hid (((Ext.refl w).alloc _).trans hx)
  clear hx
  go_wp2
  go_ret
  exact ⟨rfl, HX.out⟩

theorem range_getD (l : List Int) : (List.range l.length).map (fun i => l.getD i 0) = l := by
  apply List.ext_getElem?
  intro i
  by_cases h : i < l.length
  · simp [h]
  · rw [List.getElem?_eq_none (by simp; omega), List.getElem?_eq_none (by omega)]
/-! ### Text, Arrays -/
end Go.Proofs.YtdfhefnjoekgbaaDoor
