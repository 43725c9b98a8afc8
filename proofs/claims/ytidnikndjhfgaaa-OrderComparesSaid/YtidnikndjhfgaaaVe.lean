/- Contracts of vec: in, Num, Whole, Char, Packed. -/
import Derived.Test.YtidnikndjhfgaaaVd
namespace Go.Proofs.Ytidnikndjhfgaaa
open Go.RowKit Bv Fl

theorem IsVec.form {w : World} {v : Value} {d : VD} (h : IsVec w v d) : ∃ c1 bn c3 c4 c5 c6 c7, v = .agg #[.int .i64 (d.kind : Int), c1, .int .i64 bn, c3, c4, c5, c6, c7] ∧ d.kind ≤ 6 := by
  rcases h with ⟨rfl, rfl⟩ | ⟨l, A, c, rfl, _, rfl, _⟩ | ⟨l, A, c, rfl, _, _, rfl, _⟩ | ⟨l, A, c, rfl, _, _, rfl, _⟩ | ⟨l, A, c, rfl, _, _, rfl, _⟩ | ⟨l, A, c, rfl, _, rfl, _⟩ | ⟨n, cs, A, c, rfl, _, _, _, rfl, _⟩
  all_goals exact ⟨_, _, _, _, _, _, _, rfl, Nat.le_of_ble_eq_true rfl⟩

theorem getD_mem {l : List Int} {k : Nat} (h : k < l.length) : l.getD k 0 ∈ l := by
  have : l.getD k 0 = l[k] := by simp [List.getD, h]
  rw [this]; exact List.getElem_mem h
theorem getD_memN {l : List Nat} {k : Nat} (h : k < l.length) : l.getD k 0 ∈ l := by
  have : l.getD k 0 = l[k] := by simp [List.getD, h]
  rw [this]; exact List.getElem_mem h
set_option maxHeartbeats 1000000
theorem vin_any (v : Value) (d : VD) (i : Int) (w : World) (h : IsVec w v d) : Calls Try.prog 79 #[v, .int .i64 i] w fun e w' => e = .returned (.bool (decide (0 ≤ i ∧ i < (d.len : Int)))) ∧ Ext w w' := by
  obtain ⟨c1, bn, c3, c4, c5, c6, c7, rfl, _⟩ := h.form
  have HV := Lib.hid h
  have hlim := h.lim
  clear h
  by_cases h0 : 0 ≤ i
  · rw [show decide (0 ≤ i ∧ i < (d.len : Int)) = decide (i < (d.len : Int)) by simp [h0]]
    go_enter Try.func79, Try.ntmps79
    go_wp2_with fail
    refine (vlen_any _ d _ (by exact HV.out.ext ((Ext.refl w).alloc _))).mono ?_
    rintro e w1 ⟨rfl, hx⟩
    have HX := Lib.hid (((Ext.refl w).alloc _).trans hx)
    clear hx
    go_wp2
    go_ret
    exact ⟨rfl, HX.out⟩
  · rw [decide_eq_false (fun h => h0 h.1)]
    go_enter Try.func79, Try.ntmps79
    go_wp2
    go_ret
    exact ⟨rfl, (Ext.refl w).alloc _⟩

/-- the number at a place, 0 where there is none -/
def VD.numI (d : VD) (i : Int) : Nat := if 0 ≤ i ∧ i < (d.len : Int) then d.num i.toNat else 0
theorem vnum_out (v : Value) (d : VD) (i : Int) (w : World) (h : IsVec w v d) (hi : ¬ (0 ≤ i ∧ i < (d.len : Int))) : Calls Try.prog 51 #[v, .int .i64 i] w fun e w' => e = .returned (.float .f64 0) ∧ Ext w w' := by
  obtain ⟨c1, bn, c3, c4, c5, c6, c7, rfl, _⟩ := h.form
  have HV := Lib.hid h
  clear h
  have hd := decide_eq_false hi
  clear hi
  go_enter Try.func51, Try.ntmps51
  go_wp2_with fail
  refine (vin_any _ d i _ (by exact HV.out.ext ((Ext.refl w).alloc _))).mono ?_
  rintro e w1 ⟨rfl, hx⟩
  have HX := Lib.hid (((Ext.refl w).alloc _).trans hx)
  clear hx
  rw [hd]
  go_wp2
  go_ret
  exact ⟨rfl, HX.out⟩
theorem vnum_in (v : Value) (d : VD) (k : Nat) (w : World) (h : IsVec w v d) (hk : k < d.len) : Calls Try.prog 51 #[v, .int .i64 (k : Int)] w fun e w' => e = .returned (.float .f64 (d.num k)) ∧ Ext w w' := by
  have HV := Lib.hid h
  have hd : decide (0 ≤ (k : Int) ∧ (k : Int) < (d.len : Int)) = true := decide_eq_true ⟨by omega, by omega⟩
  have hlim := h.lim
  rcases h with ⟨rfl, rfl⟩ | ⟨l, A, c, rfl, hl, rfl, hs⟩ | ⟨l, A, c, rfl, _, _, rfl, hs⟩ | ⟨l, A, c, rfl, _, _, rfl, hs⟩ | ⟨l, A, c, rfl, _, _, rfl, hs⟩ | ⟨l, A, c, rfl, _, rfl, hs⟩ | ⟨n, cs, A, c, rfl, _, hn, _, rfl, hs⟩
  · exact absurd hk (by show ¬ k < 0; omega)
  · have hb : IsB w (.agg #[.slice A (wc l.length) c, .int .i64 (l.length : Int)]) l := ⟨hl, A, c, rfl, hs⟩
    have HB := Lib.hid hb
    have hg : bget l (k : Int) = l.getD k false := by unfold bget; rw [if_pos (by omega), Int.toNat_natCast]
    have hr : (VD.bits l).num k = bitW (l.getD k false) := rfl
    rw [hr]
    clear hr hb hs hlim hl hk
    generalize wc l.length = m at *
    generalize VD.bits l = d at *
    generalize (l.length : Int) = n at *
    go_enter Try.func51, Try.ntmps51
    go_wp2_with fail
    refine (vin_any _ d _ _ (by exact HV.out.ext ((Ext.refl w).alloc _))).mono ?_
    rintro e w1 ⟨rfl, hx⟩
    obtain ⟨hc, hf⟩ := hx.cells
    have HX := Lib.hid (((Ext.refl w).alloc _).trans hx)
    clear hx
    rw [hd]
    go_wp2_with fail
    refine (at_any _ l _ _ (by exact HB.out.ext HX.out)).mono ?_
    rintro e w2 ⟨rfl, hx⟩
    have HY := Lib.hid (HX.out.trans hx)
    clear hx hc hf
    rw [hg]
    go_wp2_with fail
    refine (flag_any _ _).mono ?_
    rintro e w3 ⟨rfl, rfl⟩
    go_wp2
    go_ret
    exact ⟨rfl, HY.out⟩
  · obtain ⟨a, u, rfl, hab, hu, hcell⟩ := hs.at1 (show k < l.length from hk)
    rw [i8s_get (show k < l.length from hk)] at hu
    cases hu
    rw [show (VD.smalls l).num k = fi (l.getD k 0) from rfl]
    have hk' : k < l.length := hk
    clear hs hlim hk
    generalize VD.smalls l = d at *
    generalize hx : l.getD k 0 = x at *
    have HX0 := Lib.hid hx
    clear hx HX0
    generalize l.length = n at *
    go_enter Try.func51, Try.ntmps51
    go_wp2_with fail
    refine (vin_any _ d _ _ (by exact HV.out.ext ((Ext.refl w).alloc _))).mono ?_
    rintro e w1 ⟨rfl, hx⟩
    obtain ⟨hc, hf⟩ := hx.cells
    have HX := Lib.hid (((Ext.refl w).alloc _).trans hx)
    have hcell' := (Below.cell HX.out (by rw [addr_block]; exact hab)).trans hcell
    clear hx hcell
    rw [hd]
    go_wp2
    go_ret
    exact ⟨rfl, HX.out⟩
  · obtain ⟨a, u, rfl, hab, hu, hcell⟩ := hs.at1 (show k < l.length from hk)
    rw [i64s_get (show k < l.length from hk)] at hu
    cases hu
    rw [show (VD.ints l).num k = fi (l.getD k 0) from rfl]
    have hk' : k < l.length := hk
    clear hs hlim hk
    generalize VD.ints l = d at *
    generalize hx : l.getD k 0 = x at *
    have HX0 := Lib.hid hx
    clear hx HX0
    generalize l.length = n at *
    go_enter Try.func51, Try.ntmps51
    go_wp2_with fail
    refine (vin_any _ d _ _ (by exact HV.out.ext ((Ext.refl w).alloc _))).mono ?_
    rintro e w1 ⟨rfl, hx⟩
    obtain ⟨hc, hf⟩ := hx.cells
    have HX := Lib.hid (((Ext.refl w).alloc _).trans hx)
    have hcell' := (Below.cell HX.out (by rw [addr_block]; exact hab)).trans hcell
    clear hx hcell
    rw [hd]
    go_wp2
    go_ret
    exact ⟨rfl, HX.out⟩
  · obtain ⟨a, u, rfl, hab, hu, hcell⟩ := hs.at1 (show k < l.length from hk)
    rw [f64s_get (show k < l.length from hk)] at hu
    cases hu
    rw [show (VD.floats l).num k = l.getD k 0 from rfl]
    have hk' : k < l.length := hk
    clear hs hlim hk
    generalize VD.floats l = d at *
    generalize hx : l.getD k 0 = x at *
    have HX0 := Lib.hid hx
    clear hx HX0
    generalize l.length = n at *
    go_enter Try.func51, Try.ntmps51
    go_wp2_with fail
    refine (vin_any _ d _ _ (by exact HV.out.ext ((Ext.refl w).alloc _))).mono ?_
    rintro e w1 ⟨rfl, hx⟩
    obtain ⟨hc, hf⟩ := hx.cells
    have HX := Lib.hid (((Ext.refl w).alloc _).trans hx)
    have hcell' := (Below.cell HX.out (by rw [addr_block]; exact hab)).trans hcell
    clear hx hcell
    rw [hd]
    go_wp2
    go_ret
    exact ⟨rfl, HX.out⟩
  · rw [show (VD.chars l).num k = 0 from rfl]
    clear hs hlim hk
    generalize VD.chars l = d at *
    go_enter Try.func51, Try.ntmps51
    go_wp2_with fail
    refine (vin_any _ d _ _ (by exact HV.out.ext ((Ext.refl w).alloc _))).mono ?_
    rintro e w1 ⟨rfl, hx⟩
    obtain ⟨hc, hf⟩ := hx.cells
    have HX := Lib.hid (((Ext.refl w).alloc _).trans hx)
    clear hx
    rw [hd]
    go_wp2
    go_ret
    exact ⟨rfl, HX.out⟩
  · rw [show (VD.boxes cs).num k = 0 from rfl]
    clear hs hlim hk
    generalize VD.boxes cs = d at *
    go_enter Try.func51, Try.ntmps51
    go_wp2_with fail
    refine (vin_any _ d _ _ (by exact HV.out.ext ((Ext.refl w).alloc _))).mono ?_
    rintro e w1 ⟨rfl, hx⟩
    obtain ⟨hc, hf⟩ := hx.cells
    have HX := Lib.hid (((Ext.refl w).alloc _).trans hx)
    clear hx
    rw [hd]
    go_wp2
    go_ret
    exact ⟨rfl, HX.out⟩
theorem vnum_any (v : Value) (d : VD) (i : Int) (w : World) (h : IsVec w v d) : Calls Try.prog 51 #[v, .int .i64 i] w fun e w' => e = .returned (.float .f64 (d.numI i)) ∧ Ext w w' := by
  unfold VD.numI
  by_cases hi : 0 ≤ i ∧ i < (d.len : Int)
  · rw [if_pos hi]
    obtain ⟨k, rfl⟩ := Int.eq_ofNat_of_zero_le hi.1
    rw [Int.toNat_natCast]
    exact vnum_in v d k w h (by omega)
  · rw [if_neg hi]
    exact vnum_out v d i w h hi

theorem vwhole_out (v : Value) (d : VD) (i : Int) (w : World) (h : IsVec w v d) (hi : ¬ (0 ≤ i ∧ i < (d.len : Int))) : Calls Try.prog 96 #[v, .int .i64 i] w fun e w' => e = .returned (.tuple #[.int .i64 0, .bool false]) ∧ Ext w w' := by
  obtain ⟨c1, bn, c3, c4, c5, c6, c7, rfl, _⟩ := h.form
  have HV := Lib.hid h
  clear h
  have hd := decide_eq_false hi
  clear hi
  go_enter Try.func96, Try.ntmps96
  go_wp2_with fail
  refine (vin_any _ d i _ (by exact HV.out.ext ((Ext.refl w).alloc _))).mono ?_
  rintro e w1 ⟨rfl, hx⟩
  have HX := Lib.hid (((Ext.refl w).alloc _).trans hx)
  clear hx
  rw [hd]
  go_wp2
  go_ret2
  exact ⟨rfl, HX.out⟩
theorem vwhole_in (v : Value) (d : VD) (k : Nat) (w : World) (h : IsVec w v d) (hk : k < d.len) : Calls Try.prog 96 #[v, .int .i64 (k : Int)] w fun e w' => e = .returned (.tuple #[.int .i64 (d.whl k), .bool d.isWhl]) ∧ Ext w w' := by
  have HV := Lib.hid h
  have hd : decide (0 ≤ (k : Int) ∧ (k : Int) < (d.len : Int)) = true := decide_eq_true ⟨by omega, by omega⟩
  have hlim := h.lim
  rcases h with ⟨rfl, rfl⟩ | ⟨l, A, c, rfl, hl, rfl, hs⟩ | ⟨l, A, c, rfl, _, hbd, rfl, hs⟩ | ⟨l, A, c, rfl, _, _, rfl, hs⟩ | ⟨l, A, c, rfl, _, _, rfl, hs⟩ | ⟨l, A, c, rfl, _, rfl, hs⟩ | ⟨n, cs, A, c, rfl, _, hn, _, rfl, hs⟩
  · exact absurd hk (by show ¬ k < 0; omega)
  · have hb : IsB w (.agg #[.slice A (wc l.length) c, .int .i64 (l.length : Int)]) l := ⟨hl, A, c, rfl, hs⟩
    have HB := Lib.hid hb
    have hg : bget l (k : Int) = l.getD k false := by unfold bget; rw [if_pos (by omega), Int.toNat_natCast]
    have hr : (VD.bits l).whl k = if l.getD k false then 1 else 0 := rfl
    rw [hr, show (VD.bits l).isWhl = true from rfl]
    clear hr hb hs hlim hl hk
    generalize wc l.length = m at *
    generalize VD.bits l = d at *
    generalize (l.length : Int) = n at *
    generalize l.getD k false = y at *
    cases y
    all_goals
     go_enter Try.func96, Try.ntmps96
     go_wp2_with fail
     refine (vin_any _ d _ _ (by exact HV.out.ext ((Ext.refl w).alloc _))).mono ?_
     rintro e w1 ⟨rfl, hx⟩
     obtain ⟨hc, hf⟩ := hx.cells
     have HX := Lib.hid (((Ext.refl w).alloc _).trans hx)
     clear hx
     rw [hd]
     go_wp2_with fail
     refine (at_any _ l _ _ (by exact HB.out.ext HX.out)).mono ?_
     rintro e w2 ⟨rfl, hx⟩
     have HY := Lib.hid (HX.out.trans hx)
     clear hx hc hf
     rw [hg]
     go_wp2
     go_ret2
     exact ⟨rfl, HY.out⟩
  · obtain ⟨a, u, rfl, hab, hu, hcell⟩ := hs.at1 (show k < l.length from hk)
    rw [i8s_get (show k < l.length from hk)] at hu
    cases hu
    rw [show (VD.smalls l).isWhl = true from rfl, show (VD.smalls l).whl k = l.getD k 0 from rfl]
    have hk' : k < l.length := hk
    obtain ⟨hb1, hb2⟩ := hbd _ (getD_mem hk')
    clear hs hlim hk hbd
    generalize VD.smalls l = d at *
    generalize hx : l.getD k 0 = x at *
    have HX0 := Lib.hid hx
    clear hx HX0
    generalize l.length = n at *
    go_enter Try.func96, Try.ntmps96
    go_wp2_with fail
    refine (vin_any _ d _ _ (by exact HV.out.ext ((Ext.refl w).alloc _))).mono ?_
    rintro e w1 ⟨rfl, hx⟩
    obtain ⟨hc, hf⟩ := hx.cells
    have HX := Lib.hid (((Ext.refl w).alloc _).trans hx)
    have hcell' := (Below.cell HX.out (by rw [addr_block]; exact hab)).trans hcell
    clear hx hcell
    rw [hd]
    go_wp2
    go_ret2
    exact ⟨rfl, HX.out⟩
  · obtain ⟨a, u, rfl, hab, hu, hcell⟩ := hs.at1 (show k < l.length from hk)
    rw [i64s_get (show k < l.length from hk)] at hu
    cases hu
    rw [show (VD.ints l).isWhl = true from rfl, show (VD.ints l).whl k = l.getD k 0 from rfl]
    have hk' : k < l.length := hk
    clear hs hlim hk
    generalize VD.ints l = d at *
    generalize hx : l.getD k 0 = x at *
    have HX0 := Lib.hid hx
    clear hx HX0
    generalize l.length = n at *
    go_enter Try.func96, Try.ntmps96
    go_wp2_with fail
    refine (vin_any _ d _ _ (by exact HV.out.ext ((Ext.refl w).alloc _))).mono ?_
    rintro e w1 ⟨rfl, hx⟩
    obtain ⟨hc, hf⟩ := hx.cells
    have HX := Lib.hid (((Ext.refl w).alloc _).trans hx)
    have hcell' := (Below.cell HX.out (by rw [addr_block]; exact hab)).trans hcell
    clear hx hcell
    rw [hd]
    go_wp2
    go_ret2
    exact ⟨rfl, HX.out⟩
  · rw [show (VD.floats l).isWhl = false from rfl, show (VD.floats l).whl k = 0 from rfl]
    clear hs hlim hk
    generalize VD.floats l = d at *
    go_enter Try.func96, Try.ntmps96
    go_wp2_with fail
    refine (vin_any _ d _ _ (by exact HV.out.ext ((Ext.refl w).alloc _))).mono ?_
    rintro e w1 ⟨rfl, hx⟩
    obtain ⟨hc, hf⟩ := hx.cells
    have HX := Lib.hid (((Ext.refl w).alloc _).trans hx)
    clear hx
    rw [hd]
    go_wp2
    go_ret2
    exact ⟨rfl, HX.out⟩
  · rw [show (VD.chars l).isWhl = false from rfl, show (VD.chars l).whl k = 0 from rfl]
    clear hs hlim hk
    generalize VD.chars l = d at *
    go_enter Try.func96, Try.ntmps96
    go_wp2_with fail
    refine (vin_any _ d _ _ (by exact HV.out.ext ((Ext.refl w).alloc _))).mono ?_
    rintro e w1 ⟨rfl, hx⟩
    obtain ⟨hc, hf⟩ := hx.cells
    have HX := Lib.hid (((Ext.refl w).alloc _).trans hx)
    clear hx
    rw [hd]
    go_wp2
    go_ret2
    exact ⟨rfl, HX.out⟩
  · rw [show (VD.boxes cs).isWhl = false from rfl, show (VD.boxes cs).whl k = 0 from rfl]
    clear hs hlim hk
    generalize VD.boxes cs = d at *
    go_enter Try.func96, Try.ntmps96
    go_wp2_with fail
    refine (vin_any _ d _ _ (by exact HV.out.ext ((Ext.refl w).alloc _))).mono ?_
    rintro e w1 ⟨rfl, hx⟩
    obtain ⟨hc, hf⟩ := hx.cells
    have HX := Lib.hid (((Ext.refl w).alloc _).trans hx)
    clear hx
    rw [hd]
    go_wp2
    go_ret2
    exact ⟨rfl, HX.out⟩
end Go.Proofs.Ytidnikndjhfgaaa
