/- Contracts of vec: Char, Packed, Nums, Wholes, Text, Arrays. -/
import Derived.Test.YtidnikndjhfgaaaVe
namespace Go.Proofs.Ytidnikndjhfgaaa
open Go.RowKit Bv Fl

theorem run_store_f64 (P : Program) (w : World) (a : Addr) (m : Mode) (b : Nat) : (store a (.float .f64 b) m).run P w = stored P w a (.float .f64 b) m := run_store P w a _ m rfl
attribute [local go_sem] run_store_f64

/-- a list of n cells of which the first k are filled -/
def fillL (f : Nat → Value) (z : Value) (n k : Nat) : List Value := (List.range k).map f ++ List.replicate (n - k) z
theorem fillL_length (f : Nat → Value) (z : Value) {n k : Nat} (h : k ≤ n) : (fillL f z n k).length = n := by simp [fillL]; omega
theorem fillL_zero (f : Nat → Value) (z : Value) (n : Nat) : fillL f z n 0 = List.replicate n z := by simp [fillL]
theorem fillL_full (f : Nat → Value) (z : Value) (n : Nat) : fillL f z n n = (List.range n).map f := by simp [fillL]
theorem fillL_get (f : Nat → Value) (z : Value) {n k : Nat} (h : k < n) : (fillL f z n k)[k]? = some z := by
  rw [fillL, List.getElem?_append_right (by simp)]
  simp [List.getElem?_replicate]
  omega
theorem fillL_set (f : Nat → Value) (z : Value) {n k : Nat} (h : k < n) : (fillL f z n k).set k (f k) = fillL f z n (k + 1) := by
  apply List.ext_getElem?
  intro j
  rw [List.getElem?_set, fillL_length f z (by omega)]
  by_cases hj : k = j
  · subst hj
    rw [if_pos rfl, if_pos h, fillL, List.getElem?_append_left (by simp)]
    simp
  · rw [if_neg hj, fillL, fillL]
    by_cases hjk : j < k
    · rw [List.getElem?_append_left (by simp; omega), List.getElem?_append_left (by simp; omega)]
      simp only [List.getElem?_map, List.getElem?_range hjk, List.getElem?_range (show j < k + 1 by omega)]
    · rw [List.getElem?_append_right (by simp; omega), List.getElem?_append_right (by simp; omega)]
      simp only [List.length_map, List.length_range, List.getElem?_replicate]
      by_cases hjl : j < n
      · rw [if_pos (by omega), if_pos (by omega)]
      · rw [if_neg (by omega), if_neg (by omega)]
theorem made_zero (z : Value) (n : Nat) (f : Nat → Value) : (madeCells #[z] n).toList = fillL f z n 0 := by
  rw [fillL_zero]
  exact toList_madeCells_one _ _

theorem infoF : (Try.prog.info? 56).map (fun i => (i.zero, i.size, i.bytes)) = some (some (.float .f64 0), 1, 8) := by kernel_rfl
theorem infoI : (Try.prog.info? 2).map (fun i => (i.zero, i.size, i.bytes)) = some (some (.int .i64 0), 1, 8) := by kernel_rfl

set_option maxHeartbeats 1000000
/-- the character at a place, 0 where there is none -/
def VD.chrI (d : VD) (i : Int) : Int := if 0 ≤ i ∧ i < (d.len : Int) ∧ d.kind = 5 then d.ns.getD i.toNat 0 else 0
theorem vchar_any (v : Value) (d : VD) (i : Int) (w : World) (h : IsVec w v d) : Calls Try.prog 53 #[v, .int .i64 i] w fun e w' => e = .returned (.int .i32 (d.chrI i)) ∧ Ext w w' := by
  have HV := Lib.hid h
  have hlim := h.lim
  unfold VD.chrI
  by_cases hk : d.kind = 5
  · rcases h with ⟨rfl, rfl⟩ | ⟨l, A, c, rfl, hl, rfl, hs⟩ | ⟨l, A, c, rfl, _, _, rfl, hs⟩ | ⟨l, A, c, rfl, _, _, rfl, hs⟩ | ⟨l, A, c, rfl, _, _, rfl, hs⟩ | ⟨l, A, c, rfl, _, rfl, hs⟩ | ⟨n, cs, A, c, rfl, _, hn, _, rfl, hs⟩
    · cases hk
    · cases hk
    · cases hk
    · cases hk
    · cases hk
    · by_cases hi : 0 ≤ i ∧ i < ((VD.chars l).len : Int)
      · rw [if_pos ⟨hi.1, hi.2, rfl⟩]
        have hd := decide_eq_true hi
        obtain ⟨k, rfl⟩ := Int.eq_ofNat_of_zero_le hi.1
        rw [Int.toNat_natCast]
        have hk' : k < l.length := by have := hi.2; exact Int.ofNat_lt.1 this
        obtain ⟨a, u, rfl, hab, hu, hcell⟩ := hs.at1 hk'
        rw [i32s_get hk'] at hu
        cases hu
        rw [show (VD.chars l).ns.getD k 0 = l.getD k 0 from rfl]
        clear hs hlim hk hi
        generalize VD.chars l = d at *
        generalize hx : l.getD k 0 = x at *
        have HX0 := Lib.hid hx
        clear hx HX0
        generalize l.length = n at *
        go_enter Try.func53, Try.ntmps53
        go_wp2_with fail
        refine (vin_any _ d _ _ (by exact HV.out.ext ((Ext.refl w).alloc _))).mono ?_
        rintro e w1 ⟨rfl, hx⟩
        obtain ⟨hc, hf⟩ := hx.cells
        have HX := Lib.hid (((Ext.refl w).alloc _).trans hx)
        have hcell' := (Below.cell HX.out (by rw [addr_block]; exact hab)).trans hcell
        clear hx hcell
        rw [hd]
        go_wp2
        go_ret
        exact ⟨rfl, HX.out⟩
      · rw [if_neg (fun h => hi ⟨h.1, h.2.1⟩)]
        have hd := decide_eq_false hi
        clear hs hlim hk hi
        generalize VD.chars l = d at *
        generalize l.length = n at *
        go_enter Try.func53, Try.ntmps53
        go_wp2_with fail
        refine (vin_any _ d _ _ (by exact HV.out.ext ((Ext.refl w).alloc _))).mono ?_
        rintro e w1 ⟨rfl, hx⟩
        have HX := Lib.hid (((Ext.refl w).alloc _).trans hx)
        clear hx
        rw [hd]
        go_wp2
        go_ret
        exact ⟨rfl, HX.out⟩
    · cases hk
  · rw [if_neg (fun h => hk h.2.2)]
    obtain ⟨c1, bn, c3, c4, c5, c6, c7, rfl, hk6⟩ := h.form
    have hb : ((d.kind : Int) != 5) = true := by simp; omega
    clear h hlim hk
    generalize (d.kind : Int) = kk at *
    go_enter Try.func53, Try.ntmps53
    go_wp2
    go_ret
    exact ⟨rfl, (Ext.refl w).alloc _⟩

/-- all numbers -/
theorem vnums_any (v : Value) (d : VD) (w : World) (h : IsVec w v d) (hc : d.cls = 0) : Calls Try.prog 42 #[v] w fun e w' => ∃ v', e = .returned v' ∧ w'.ownsRow w.heap.size 56 1 v' d.len (f64s d.nums) ∧ Ext w w' := by
  obtain ⟨c1, bn, c3, c4, c5, c6, c7, rfl, _⟩ := h.form
  have HV := Lib.hid h
  have hlim := h.lim
  have hc0 : ((d.cls : Int) != 0) = false := by rw [hc]; rfl
  clear h
  obtain ⟨i0, hi0, hz0, hz1, hz2⟩ := info_parts infoF
  have hsz : i0.bytes * d.len ≤ 281474976710656 := by rw [hz2]; omega
  have hfull : f64s d.nums = fillL (fun k => .float .f64 (d.num k)) (.float .f64 0) d.len d.len := by
    rw [fillL_full]; simp [f64s, VD.nums]
  rw [hfull]
  have HC := Lib.hid hc
  clear hfull hc
  go_enter Try.func42, Try.ntmps42
  go_wp2_with fail
  refine (vclass_any _ d _ (by exact HV.out.ext ((Ext.refl w).alloc _))).mono ?_
  rintro e w1 ⟨rfl, hx⟩
  obtain ⟨hc1, hf1⟩ := hx.cells
  have HX := Lib.hid (((Ext.refl w).alloc _).trans hx)
  have HB := Lib.hid hx
  clear hx
  go_wp2_with fail
  refine (vlen_any _ d _ (by exact HV.out.ext HX.out)).mono ?_
  rintro e w2 ⟨rfl, hx⟩
  have HX2 := Lib.hid (HX.out.trans hx)
  have HB2 := Lib.hid (HB.out.trans hx)
  clear hx hc1 hf1
  go_wp2_with (at_make; refine wpList_make_full _ rfl _ _ 37 rfl w2.heap.size 56 i0 (.float .f64 0) 1 Try.underlying37 hi0 hz0 hz1 .i64 .i64 _ _ d.len rfl rfl rfl rfl hsz (by simp only [maxLen]; omega) (by simp) ?_)
  intro w3 hown hg
  have hx3 := ext_none hg
  have HR : Hid (w3.ownsRow w2.heap.size 56 1 (.slice (some ⟨w2.heap.size, 0, none⟩) d.len d.len) d.len (fillL (fun k => .float .f64 (d.num k)) (.float .f64 0) d.len 0)) := by
    have e := made_zero (.float .f64 0) d.len (fun k => .float .f64 (d.num k))
    rw [e] at hown; exact hown
  have HB3 := Lib.hid (HB2.out.trans hx3)
  have hs3 : w.heap.size + 1 ≤ w2.heap.size := by have := HB2.out.size; simpa using this
  have HX3 := Lib.hid (HX2.out.trans hx3)
  have hs4 : w2.heap.size ≤ w3.heap.size := hx3.size
  clear hown hg hx3 hsz
  go_wp2_with fail
  go_loopw [13] (fun i wr => ∃ k : Nat, k ≤ d.len ∧ i = .int .i64 k ∧ wr.ownsRow w2.heap.size 56 1 (.slice (some ⟨w2.heap.size, 0, none⟩) d.len d.len) d.len (fillL (fun k => .float .f64 (d.num k)) (.float .f64 0) d.len k) ∧ Below w2.heap.size w3 wr) (fun i _ => d.len - (intOf i).toNat)
  case atStart => exact ⟨0, Nat.zero_le _, rfl, HR.out, Below.refl _ _⟩
  case round =>
    obtain ⟨k, hk, rfl, hown, hbel⟩ := hrel
    have hbx : Below (w.heap.size + 1) (w.alloc (.cells #[.int .i64 (d.kind : Int), c1, .int .i64 bn, c3, c4, c5, c6, c7] 41)) wr := (HB3.out.mono (by simp)).trans (hbel.mono (by omega))
    have hxr : Ext w wr := ((Ext.refl w).alloc _).trans' (hbx.mono (by omega))
    by_cases hlt : k < d.len
    · have hnum := vnum_in _ d k wr (HV.out.ext hxr) hlt
      have hcB := (Below.cell (p := ⟨w.heap.size, 0, none⟩) hbx (by simp))
      have hcs : ∀ o, wr.cell? ⟨w.heap.size, o, none⟩ = (w.alloc (.cells #[.int .i64 (d.kind : Int), c1, .int .i64 bn, c3, c4, c5, c6, c7] 41)).cell? ⟨w.heap.size, o, none⟩ := fun o => Below.cell (p := ⟨w.heap.size, o, none⟩) hbx (by simp)
      have HBX := Lib.hid hbx
      clear hbx hcB hxr
      go_wp2_with fail
      refine hnum.mono ?_
      rintro e w4 ⟨rfl, hx4⟩
      have hown4 := own_ext hown hx4
      have F0 : w4.cell? ⟨w2.heap.size, k, none⟩ = some (.float .f64 0) := by
        rw [hown4.cellAt k (by omega)]; exact fillL_get _ _ hlt
      have F1 : w4.frozen? ⟨w2.heap.size, k, none⟩ = false := hown4.frozenAt k
      have hst := (hown4.stored k (.float .f64 (d.num k))).1
      rw [fillL_set (fun k => .float .f64 (d.num k)) (.float .f64 0) hlt] at hst
      have H1 := Lib.hid hst
      have H2 := Lib.hid ((hbel.trans (hx4.mono (Nat.le_trans hs4 hbel.size))).setCell (p := ⟨w2.heap.size, k, none⟩) (Nat.le_refl _) (.float .f64 (d.num k)))
      clear hst hown4 hown hbel hx4 hnum hcs
      go_wp2
      exact ⟨⟨k + 1, by omega, by go_num, H1.out, H2.out⟩, by simp [intOf]; omega⟩
    · have hkl : k = d.len := by omega
      subst hkl
      have H1 := Lib.hid (own_base hown (show w.heap.size ≤ w2.heap.size by omega))
      have H2 := Lib.hid hxr
      clear hown hbel hbx hxr
      go_wp2
      go_ret
      exact ⟨_, rfl, H1.out, H2.out⟩
end Go.Proofs.Ytidnikndjhfgaaa
