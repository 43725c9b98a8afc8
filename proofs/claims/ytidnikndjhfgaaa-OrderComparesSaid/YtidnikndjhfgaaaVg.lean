/- Contracts of vec: Nums of others, Wholes, Packed, Text, Arrays. -/
import Derived.Test.YtidnikndjhfgaaaVf
namespace Go.Proofs.Ytidnikndjhfgaaa
open Go.RowKit Bv Fl

set_option maxHeartbeats 1000000
theorem vnums_none (v : Value) (d : VD) (w : World) (h : IsVec w v d) (hc : d.cls ≠ 0) : Calls Try.prog 42 #[v] w fun e w' => e = .returned (.slice none 0 0) ∧ Ext w w' := by
  obtain ⟨c1, bn, c3, c4, c5, c6, c7, rfl, _⟩ := h.form
  have HV := Lib.hid h
  have hc0 : ((d.cls : Int) != 0) = true := by simp; omega
  clear h hc
  go_enter Try.func42, Try.ntmps42
  go_wp2_with fail
  refine (vclass_any _ d _ (by exact HV.out.ext ((Ext.refl w).alloc _))).mono ?_
  rintro e w1 ⟨rfl, hx⟩
  have HX := Lib.hid (((Ext.refl w).alloc _).trans hx)
  clear hx
  go_wp2
  go_ret
  exact ⟨rfl, HX.out⟩

/-- the loop of Wholes: truths and small numbers -/
theorem vwholes_loop (v : Value) (d : VD) (w : World) (h : IsVec w v d) (hk12 : d.kind = 1 ∨ d.kind = 2) : Calls Try.prog 93 #[v] w fun e w' => ∃ v', e = .returned (.tuple #[v', .bool true]) ∧ w'.ownsRow w.heap.size 2 1 v' d.len (i64s d.whls) ∧ Ext w w' := by
  obtain ⟨c1, bn, c3, c4, c5, c6, c7, rfl, _⟩ := h.form
  have HV := Lib.hid h
  have hlim := h.lim
  have hwh : d.isWhl = true := by
    rcases h with ⟨rfl, _⟩ | ⟨l, A, c, rfl, _⟩ | ⟨l, A, c, rfl, _⟩ | ⟨l, A, c, rfl, _⟩ | ⟨l, A, c, rfl, _⟩ | ⟨l, A, c, rfl, _⟩ | ⟨n, cs, A, c, rfl, _⟩
    · rcases hk12 with hk | hk <;> cases hk
    · rfl
    · rfl
    · rfl
    · rcases hk12 with hk | hk <;> cases hk
    · rcases hk12 with hk | hk <;> cases hk
    · rcases hk12 with hk | hk <;> cases hk
  clear h
  obtain ⟨i0, hi0, hz0, hz1, hz2⟩ := info_parts infoI
  have hsz : i0.bytes * d.len ≤ 281474976710656 := by rw [hz2]; omega
  have hfull : i64s d.whls = fillL (fun k => .int .i64 (d.whl k)) (.int .i64 0) d.len d.len := by
    rw [fillL_full]; simp [i64s, VD.whls]
  rw [hfull]
  have hk3 : ((d.kind : Int) == 3) = false := by simp; omega
  have hkk : ((d.kind : Int) == 1 || (d.kind : Int) == 2) = true := by simp; omega
  have hb1 : ∃ b, ((d.kind : Int) == 1) = b := ⟨_, rfl⟩
  obtain ⟨b1, hb1⟩ := hb1
  have hb2 : b1 = false → ((d.kind : Int) == 2) = true := by intro h; rw [h] at hb1; rw [hb1] at hkk; simpa using hkk
  have HD : Hid (d.kind = 1 ∨ d.kind = 2) := hk12
  have HWH := Lib.hid hwh
  clear hfull hk12 hkk hwh
  cases b1
  all_goals
    (try have hb2' := hb2 rfl)
    clear hb2
    go_enter Try.func93, Try.ntmps93
    go_wp2_with fail
    refine (vlen_any _ d _ (by exact HV.out.ext ((Ext.refl w).alloc _))).mono ?_
    rintro e w2 ⟨rfl, hx⟩
    have HX2 := Lib.hid (((Ext.refl w).alloc _).trans hx)
    have HB2 := Lib.hid hx
    clear hx
    go_wp2_with (at_make; refine wpList_make_full _ rfl _ _ 36 rfl w2.heap.size 2 i0 (.int .i64 0) 1 Try.underlying36 hi0 hz0 hz1 .i64 .i64 _ _ d.len rfl rfl rfl rfl hsz (by simp only [maxLen]; omega) (by simp) ?_)
    intro w3 hown hg
    have hx3 := ext_none hg
    have HR : Hid (w3.ownsRow w2.heap.size 2 1 (.slice (some ⟨w2.heap.size, 0, none⟩) d.len d.len) d.len (fillL (fun k => .int .i64 (d.whl k)) (.int .i64 0) d.len 0)) := by
      have e := made_zero (.int .i64 0) d.len (fun k => .int .i64 (d.whl k))
      rw [e] at hown; exact hown
    have HB3 := Lib.hid (HB2.out.trans hx3)
    have hs3 : w.heap.size + 1 ≤ w2.heap.size := by have := HB2.out.size; simpa using this
    have HX3 := Lib.hid (HX2.out.trans hx3)
    have hs4 : w2.heap.size ≤ w3.heap.size := hx3.size
    clear hown hg hx3 hsz
    go_wp2_with fail
    go_loopw [21] (fun i wr => ∃ k : Nat, k ≤ d.len ∧ i = .int .i64 k ∧ wr.ownsRow w2.heap.size 2 1 (.slice (some ⟨w2.heap.size, 0, none⟩) d.len d.len) d.len (fillL (fun k => .int .i64 (d.whl k)) (.int .i64 0) d.len k) ∧ Below w2.heap.size w3 wr) (fun i _ => d.len - (intOf i).toNat)
    case atStart => exact ⟨0, Nat.zero_le _, rfl, HR.out, Below.refl _ _⟩
    case round =>
      obtain ⟨k, hk, rfl, hown, hbel⟩ := hrel
      have hbx : Below (w.heap.size + 1) (w.alloc (.cells #[.int .i64 (d.kind : Int), c1, .int .i64 bn, c3, c4, c5, c6, c7] 41)) wr := (HB3.out.mono (by simp)).trans (hbel.mono (by omega))
      have hxr : Ext w wr := ((Ext.refl w).alloc _).trans' (hbx.mono (by omega))
      by_cases hlt : k < d.len
      · have hnum := vwhole_in _ d k wr (HV.out.ext hxr) hlt
        have hcs : ∀ o, wr.cell? ⟨w.heap.size, o, none⟩ = (w.alloc (.cells #[.int .i64 (d.kind : Int), c1, .int .i64 bn, c3, c4, c5, c6, c7] 41)).cell? ⟨w.heap.size, o, none⟩ := fun o => Below.cell (p := ⟨w.heap.size, o, none⟩) hbx (by simp)
        clear hbx hxr
        go_wp2_with fail
        refine hnum.mono ?_
        rintro e w4 ⟨rfl, hx4⟩
        have hown4 := own_ext hown hx4
        have F0 : w4.cell? ⟨w2.heap.size, k, none⟩ = some (.int .i64 0) := by
          rw [hown4.cellAt k (by omega)]; exact fillL_get _ _ hlt
        have F1 : w4.frozen? ⟨w2.heap.size, k, none⟩ = false := hown4.frozenAt k
        have hst := (hown4.stored k (.int .i64 (d.whl k))).1
        rw [fillL_set (fun k => .int .i64 (d.whl k)) (.int .i64 0) hlt] at hst
        have H1 := Lib.hid hst
        have H2 := Lib.hid ((hbel.trans (hx4.mono (Nat.le_trans hs4 hbel.size))).setCell (p := ⟨w2.heap.size, k, none⟩) (Nat.le_refl _) (.int .i64 (d.whl k)))
        clear hst hown4 hown hbel hx4 hnum hcs
        go_wp2
        exact ⟨⟨k + 1, by omega, by go_num, H1.out, H2.out⟩, by simp [intOf]; omega⟩
      · have hkl : k = d.len := by omega
        subst hkl
        have H1 := Lib.hid (own_base hown (show w.heap.size ≤ w2.heap.size by omega))
        have H2 := Lib.hid hxr
        clear hown hbel hbx hxr
        go_wp2
        go_ret2
        exact ⟨_, rfl, H1.out, H2.out⟩
theorem range_getD (l : List Int) : (List.range l.length).map (fun i => l.getD i 0) = l := by
  apply List.ext_getElem?
  intro i
  by_cases h : i < l.length
  · simp [h]
  · rw [List.getElem?_eq_none (by simp; omega), List.getElem?_eq_none (by omega)]
/-- all whole numbers, of a store of such -/
theorem vwholes_any (v : Value) (d : VD) (w : World) (h : IsVec w v d) (hw : d.isWhl = true) : Calls Try.prog 93 #[v] w fun e w' => ∃ v', e = .returned (.tuple #[v', .bool true]) ∧ w'.ownsRow w.heap.size 2 1 v' d.len (i64s d.whls) ∧ Ext w w' := by
  have h' := h
  rcases h with ⟨rfl, _⟩ | ⟨l, A, c, rfl, _⟩ | ⟨l, A, c, rfl, _⟩ | ⟨l, A, c, rfl, hl, _, rfl, hs⟩ | ⟨l, A, c, rfl, _⟩ | ⟨l, A, c, rfl, _⟩ | ⟨n, cs, A, c, rfl, _⟩
  · cases hw
  · exact vwholes_loop v _ w h' (Or.inl rfl)
  · exact vwholes_loop v _ w h' (Or.inr rfl)
  · have hwl : (VD.ints l).whls = l := range_getD l
    have hc := cloneI64 A l.length c (i64s l) (w.alloc (.cells #[.int .i64 3, .slice none 0 0, .int .i64 0, .slice none 0 0, .slice A l.length c, .slice none 0 0, .slice none 0 0, .slice none 0 0] 41)) (hs.alloc _) (i64s_one l) (by omega)
    rw [hwl, show (VD.ints l).len = l.length from rfl]
    have HX := Lib.hid ((Ext.refl w).alloc (.cells #[.int .i64 3, .slice none 0 0, .int .i64 0, .slice none 0 0, .slice A l.length c, .slice none 0 0, .slice none 0 0, .slice none 0 0] 41))
    clear hs h' hwl hw
    generalize i64s l = xs at *
    generalize l.length = n at *
    go_enter Try.func93, Try.ntmps93
    go_wp2_with fail
    refine hc.mono ?_
    rintro e w1 ⟨v', rfl, hown, hx⟩
    have H1 := Lib.hid (own_base hown (by simp : w.heap.size ≤ _))
    have H2 := Lib.hid (HX.out.trans hx)
    clear hown hx
    go_wp2
    go_ret2
    exact ⟨_, rfl, H1.out, H2.out⟩
  · cases hw
  · cases hw
  · cases hw
theorem vwholes_none (v : Value) (d : VD) (w : World) (h : IsVec w v d) (hw : d.isWhl = false) : Calls Try.prog 93 #[v] w fun e w' => e = .returned (.tuple #[.slice none 0 0, .bool false]) ∧ Ext w w' := by
  obtain ⟨c1, bn, c3, c4, c5, c6, c7, rfl, hk6⟩ := h.form
  have hb : ((d.kind : Int) == 1) = false ∧ ((d.kind : Int) == 2) = false ∧ ((d.kind : Int) == 3) = false := by
    rcases h with ⟨rfl, _⟩ | ⟨l, A, c, rfl, _⟩ | ⟨l, A, c, rfl, _⟩ | ⟨l, A, c, rfl, _⟩ | ⟨l, A, c, rfl, _⟩ | ⟨l, A, c, rfl, _⟩ | ⟨n, cs, A, c, rfl, _⟩
    · exact ⟨rfl, rfl, rfl⟩
    · cases hw
    · cases hw
    · cases hw
    · exact ⟨rfl, rfl, rfl⟩
    · exact ⟨rfl, rfl, rfl⟩
    · exact ⟨rfl, rfl, rfl⟩
  obtain ⟨hb1, hb2, hb3⟩ := hb
  clear h hw
  generalize (d.kind : Int) = kk at *
  go_enter Try.func93, Try.ntmps93
  go_wp2
  go_ret2
  exact ⟨rfl, (Ext.refl w).alloc _⟩

/-! ### Text, Arrays -/
end Go.Proofs.Ytidnikndjhfgaaa
