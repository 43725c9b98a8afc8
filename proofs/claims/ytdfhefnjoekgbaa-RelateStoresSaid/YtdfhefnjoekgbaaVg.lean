/- Contracts of vec: Nums of others, Wholes, Packed, Text, Arrays. -/
import Derived.Test.YtdfhefnjoekgbaaVf
namespace Go.Proofs.Ytdfhefnjoekgbaa
open Go.RowKit Bv Fl

set_option maxHeartbeats 1000000
theorem vnums_none (v : Value) (d : VD) (w : World) (h : IsVec w v d) (hc : d.cls ≠ 0) : Calls Try.prog 21 #[v] w fun e w' => e = .returned (.slice none 0 0) ∧ Ext w w' := by
  obtain ⟨c1, bn, c3, c4, c5, c6, c7, rfl, _⟩ := h.form
  have HV := Lib.hid h
  have hc0 : ((d.cls : Int) != 0) = true := by simp; omega
  clear h hc
  go_enter Try.func21, Try.ntmps21
  go_wp2_with fail
  refine (vclass_any _ d _ (by exact HV.out.ext ((Ext.refl w).alloc _))).mono ?_
  rintro e w1 ⟨rfl, hx⟩
  have HX := Lib.hid (((Ext.refl w).alloc _).trans hx)
  clear hx
  go_wp2
  go_ret
  exact ⟨rfl, HX.out⟩

theorem range_getD (l : List Int) : (List.range l.length).map (fun i => l.getD i 0) = l := by
  apply List.ext_getElem?
  intro i
  by_cases h : i < l.length
  · simp [h]
  · rw [List.getElem?_eq_none (by simp; omega), List.getElem?_eq_none (by omega)]
/-! ### Text, Arrays -/
theorem vtext_any (v : Value) (l : List Int) (w : World) (h : IsVec w v (VD.chars l)) : Calls Try.prog 29 #[v] w fun e w' => ∃ v', e = .returned v' ∧ w'.ownsRow w.heap.size 21 1 v' l.length (i32s l) ∧ Ext w w' := by
  rcases h with ⟨h, _⟩ | ⟨l, A, c, h, _⟩ | ⟨l, A, c, h, _⟩ | ⟨l, A, c, h, _⟩ | ⟨l, A, c, h, _⟩ | ⟨l', A, c, h, hl, rfl, hs⟩ | ⟨n, cs, A, c, h, _⟩
  · cases h
  · cases h
  · cases h
  · cases h
  · cases h
  · obtain rfl : l = l' := by cases h; rfl
    have hc := cloneI32 A l.length c (i32s l) (w.alloc (.cells #[.int .i64 5, .slice none 0 0, .int .i64 0, .slice none 0 0, .slice none 0 0, .slice none 0 0, .slice A l.length c, .slice none 0 0] 34)) (hs.alloc _) (i32s_one l) (by omega)
    have HX := Lib.hid ((Ext.refl w).alloc (.cells #[.int .i64 5, .slice none 0 0, .int .i64 0, .slice none 0 0, .slice none 0 0, .slice none 0 0, .slice A l.length c, .slice none 0 0] 34))
    clear hs h
    generalize i32s l = xs at *
    generalize l.length = n at *
    go_enter Try.func29, Try.ntmps29
    go_wp2_with fail
    refine hc.mono ?_
    rintro e w1 ⟨v', rfl, hown, hx⟩
    have H1 := Lib.hid (own_base hown (by simp : w.heap.size ≤ _))
    have H2 := Lib.hid (HX.out.trans hx)
    clear hown hx
    go_wp2
    go_ret
    exact ⟨_, rfl, H1.out, H2.out⟩
  · cases h
theorem vtext_none (v : Value) (d : VD) (w : World) (h : IsVec w v d) (hk : d.kind ≠ 5) : Calls Try.prog 29 #[v] w fun e w' => e = .returned (.slice none 0 0) ∧ Ext w w' := by
  obtain ⟨c1, bn, c3, c4, c5, c6, c7, rfl, hk6⟩ := h.form
  have hb : ((d.kind : Int) != 5) = true := by simp; omega
  clear h hk
  generalize (d.kind : Int) = kk at *
  go_enter Try.func29, Try.ntmps29
  go_wp2
  go_ret
  exact ⟨rfl, (Ext.refl w).alloc _⟩
end Go.Proofs.Ytdfhefnjoekgbaa
