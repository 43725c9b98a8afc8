/- VecChars, for every input. -/
import Derived.Test.YtmjikdkdccnbaaaVm
namespace Go.Proofs.Ytmjikdkdccnbaaa
open Go.ChangeShapes Go.WideShapes Go.RowKit Bv Fl

theorem runes_yes (A A' : Option Addr) (l : List Int) (n c c' : Nat) (hn : n = l.length) (w : World) (hl : n ≤ 1048576) (hs : Sl w 1 A n (i32s l)) (hs' : Sl w 1 A' n (i32s l)) : Calls Try.prog 16 #[.slice A n c, .slice A' n c'] w fun e w' => e = .returned (.bool true) ∧ Ext w w' := by
  refine (runes_any A A' l l n n c c' hn hn w hl hs hs').mono ?_
  rintro e w' ⟨rfl, h⟩
  exact ⟨by simp, Ext.of_drewN h⟩
theorem noneD_cases (cl : Int) : (cl = 1 ∧ noneD cl = VD.chars []) ∨ (cl = 2 ∧ noneD cl = VD.boxes []) ∨ ((cl == 1) = false ∧ (cl == 2) = false ∧ noneD cl = VD.bits []) := by
  unfold noneD
  by_cases h1 : cl = 1
  · simp [h1]
  · by_cases h2 : cl = 2
    · simp [h2]
    · simp [h1, h2]

set_option maxHeartbeats 8000000
set_option maxRecDepth 100000 in
theorem vecChars_in (w : World) (A : Option Addr) (l : List Int) (c : Nat) (hs : Sl w 1 A l.length (i32s l)) (i : Int) (cl : Int) (h5 : l.length ≤ 500) (hi : 0 ≤ i ∧ i < (l.length : Int)) :
    Calls Try.prog 5 #[.slice A l.length c, .int .i64 i, .int .i64 cl] w fun e w' => e = .returned (.bool true) ∧ Ext w w' := by
  obtain ⟨n, hn⟩ : ∃ n, n = l.length := ⟨_, rfl⟩
  have hv0 := vchars_any A l n hn c w (by omega) (by rw [hn]; exact hs)
  rw [← hn] at hs h5 hi ⊢
  have HS := Lib.hid hs
  have HN := Lib.hid hn
  obtain ⟨d, hd⟩ : ∃ d, d = VD.chars l := ⟨_, rfl⟩
  have hk : ((d.kind : Nat) : Int) = 5 := by rw [hd]; rfl
  have hcl : ((d.cls : Nat) : Int) = 1 := by rw [hd]; rfl
  have hln : ((d.len : Nat) : Int) = n := by rw [hd, hn]; rfl
  have hnm : d.numI 0 = 0 := by rw [hd]; unfold VD.numI; split <;> rfl
  have HWH : Hid (d.isWhl = false) := by rw [hd]; rfl
  have HCL : Hid (d.cls ≠ 0) := by rw [hd]; exact Nat.one_ne_zero
  rw [← hd] at hv0
  have HD := Lib.hid hd
  obtain ⟨D, hD⟩ : ∃ D, noneD cl = D := ⟨_, rfl⟩
  have hnone := fun w => vnone_any cl w
  rw [hD] at hnone
  have hD0 : ((D.len : Nat) : Int) = 0 := by rw [← hD]; rcases noneD_cases cl with ⟨_, h⟩ | ⟨_, h⟩ | ⟨_, _, h⟩ <;> rw [h] <;> rfl
  have HDC := Lib.hid hD
  clear hs hn hD
  obtain ⟨k, rfl⟩ := Int.eq_ofNat_of_zero_le hi.1
  have hkn : k < n := by have := hi.2; omega
  have hch : d.chrI (k : Int) = l.getD k 0 := by
    have hd := HD.out
    rw [hd]; unfold VD.chrI; rw [if_pos ⟨hi.1, by have := HN.out; have := hi.2; show (k : Int) < ((l.length : Nat) : Int); omega, rfl⟩, Int.toNat_natCast]; rfl
  obtain ⟨a, u, rfl, hab, hu, hcell⟩ := HS.out.at1 hkn
  rw [i32s_get (by rw [← HN.out]; exact hkn)] at hu
  cases hu
  have hcell : w.cell? (a.add k) = some (.int .i32 (l.getD k 0)) := hcell
  generalize l.getD k 0 = x at *
  clear hi hd
  rcases noneD_cases cl with ⟨rfl, h⟩ | ⟨rfl, h⟩ | ⟨e1, e2, h⟩
  · have hDk : ((D.kind : Nat) : Int) = 5 := by rw [← HDC.out, h]; rfl
    clear h
    go_enter Try.func5, Try.ntmps5
    go_wp2_with fail
    refine hv0.mono ?_
    rintro e w1 ⟨v, rfl, hv, hx⟩
    obtain ⟨a1, n1, k1, bn, a3, n3, k3, a4, n4, k4, a5, n5, k5, a6, n6, k6, a7, n7, k7, rfl⟩ := hv.shape
    rw [hk] at hv ⊢
    have HV := Lib.hid hv
    have HE := Lib.hid hx
    have L0 : ∀ o, (w1.alloc o).cell? (a.add k) = some (.int .i32 x) := fun o => (Below.cell (hx.alloc o) (by rw [addr_block]; exact hab)).trans hcell
    clear hcell
    clear hv hx hv0
    go_wp2_with fail
    refine (hnone _).mono ?_
    rintro e w2 ⟨v, rfl, hv, hx⟩
    obtain ⟨x1, y1, z1, bm, x3, y3, z3, x4, y4, z4, x5, y5, z5, x6, y6, z6, x7, y7, z7, rfl⟩ := hv.shape
    rw [hDk] at hv ⊢
    obtain ⟨hc2, hf2⟩ := hx.cells
    have hz2 : w1.heap.size + 1 ≤ w2.heap.size := by have := hx.size; simpa using this
    have hz3 : w1.heap.size < w2.heap.size := by omega
    have hz4 : w1.heap.size < w2.heap.size + 1 := by omega
    have hz5 : w1.heap.size ≠ w2.heap.size := by omega
    have HU : Hid (IsVec (w2.alloc (.cells #[.int .i64 5, .slice x1 y1 z1, .int .i64 bm, .slice x3 y3 z3, .slice x4 y4 z4, .slice x5 y5 z5, .slice x6 y6 z6, .slice x7 y7 z7] 34)) (.agg #[.int .i64 5, .slice x1 y1 z1, .int .i64 bm, .slice x3 y3 z3, .slice x4 y4 z4, .slice x5 y5 z5, .slice x6 y6 z6, .slice x7 y7 z7]) D) := Lib.hid (hv.ext ((Ext.refl _).alloc _))
    have HV : Hid (IsVec (w2.alloc (.cells #[.int .i64 5, .slice x1 y1 z1, .int .i64 bm, .slice x3 y3 z3, .slice x4 y4 z4, .slice x5 y5 z5, .slice x6 y6 z6, .slice x7 y7 z7] 34)) (.agg #[.int .i64 5, .slice a1 n1 k1, .int .i64 bn, .slice a3 n3 k3, .slice a4 n4 k4, .slice a5 n5 k5, .slice a6 n6 k6, .slice a7 n7 k7]) d) := Lib.hid (HV.out.ext ((((Ext.refl _).alloc _).trans hx).alloc _))
    have HE : Hid (Ext w (w2.alloc (.cells #[.int .i64 5, .slice x1 y1 z1, .int .i64 bm, .slice x3 y3 z3, .slice x4 y4 z4, .slice x5 y5 z5, .slice x6 y6 z6, .slice x7 y7 z7] 34))) := Lib.hid (((HE.out.alloc _).trans hx).alloc _)
    have HX := Lib.hid (Ext.refl (w2.alloc (.cells #[.int .i64 5, .slice x1 y1 z1, .int .i64 bm, .slice x3 y3 z3, .slice x4 y4 z4, .slice x5 y5 z5, .slice x6 y6 z6, .slice x7 y7 z7] 34)))
    clear hv hx
    obtain ⟨hc, hf⟩ := HX.out.cells
    go_wp2_with fail
    refine (vwholes_none _ d _ (HV.out.ext HX.out) HWH.out).mono ?_
    rintro e w' ⟨rfl, hx⟩
    replace HX := Lib.hid (HX.out.trans hx)
    clear hc hf hx
    obtain ⟨hc, hf⟩ := HX.out.cells
    go_wp2_with fail
    refine (vkind_any _ d _ (HV.out.ext HX.out)).mono ?_
    rintro e w' ⟨rfl, hx⟩
    replace HX := Lib.hid (HX.out.trans hx)
    clear hc hf hx
    obtain ⟨hc, hf⟩ := HX.out.cells
    rw [hk]
    go_wp2_with fail
    refine (vclass_any _ d _ (HV.out.ext HX.out)).mono ?_
    rintro e w' ⟨rfl, hx⟩
    replace HX := Lib.hid (HX.out.trans hx)
    clear hc hf hx
    obtain ⟨hc, hf⟩ := HX.out.cells
    rw [hcl]
    go_wp2_with fail
    refine (vlen_any _ d _ (HV.out.ext HX.out)).mono ?_
    rintro e w' ⟨rfl, hx⟩
    replace HX := Lib.hid (HX.out.trans hx)
    clear hc hf hx
    obtain ⟨hc, hf⟩ := HX.out.cells
    rw [hln]
    go_wp2_with fail
    refine (vtext_any _ l _ (by rw [← HD.out]; exact HV.out.ext HX.out)).mono ?_
    rintro e w' ⟨v', rfl, hown, hx⟩
    obtain ⟨B, cb, rfl, _, _⟩ := own_form hown
    replace HX := Lib.hid (HX.out.trans hx)
    have HT : Hid (Sl w' 1 B n (i32s l)) := Lib.hid (by rw [HN.out]; exact Sl.own hown)
    have HS' := Lib.hid (HS.out.ext (HE.out.trans HX.out))
    rw [← HN.out]
    clear hc hf hx hown
    obtain ⟨hc, hf⟩ := HX.out.cells
    go_wp2_with fail
    refine (runes_yes _ _ l n _ _ HN.out _ (by omega) HT.out HS'.out).mono ?_
    rintro e w' ⟨rfl, hx⟩
    replace HX := Lib.hid (HX.out.trans hx)
    clear hc hf hx HT HS'
    obtain ⟨hc, hf⟩ := HX.out.cells
    go_wp2_with fail
    refine (vchar_any _ d _ _ (HV.out.ext HX.out)).mono ?_
    rintro e w' ⟨rfl, hx⟩
    replace HX := Lib.hid (HX.out.trans hx)
    clear hc hf hx
    obtain ⟨hc, hf⟩ := HX.out.cells
    rw [hch]
    go_wp2_with fail
    refine (vnum_any _ d 0 _ (HV.out.ext HX.out)).mono ?_
    rintro e w' ⟨rfl, hx⟩
    replace HX := Lib.hid (HX.out.trans hx)
    clear hc hf hx
    obtain ⟨hc, hf⟩ := HX.out.cells
    rw [hnm]
    go_wp2_with fail
    refine (vnums_none _ d _ (HV.out.ext HX.out) HCL.out).mono ?_
    rintro e w' ⟨rfl, hx⟩
    replace HX := Lib.hid (HX.out.trans hx)
    clear hc hf hx
    obtain ⟨hc, hf⟩ := HX.out.cells
    go_wp2_with fail
    refine (vkind_any _ D _ (HU.out.ext HX.out)).mono ?_
    rintro e w' ⟨rfl, hx⟩
    replace HX := Lib.hid (HX.out.trans hx)
    clear hc hf hx
    obtain ⟨hc, hf⟩ := HX.out.cells
    rw [hDk]
    go_wp2_with fail
    refine (vlen_any _ D _ (HU.out.ext HX.out)).mono ?_
    rintro e w' ⟨rfl, hx⟩
    replace HX := Lib.hid (HX.out.trans hx)
    clear hc hf hx
    obtain ⟨hc, hf⟩ := HX.out.cells
    rw [hD0]
    go_wp2_with fail
    refine (awake_any _).mono ?_
    rintro e w' ⟨rfl, hx⟩
    replace HX := Lib.hid (HX.out.trans hx)
    clear hc hf hx
    obtain ⟨hc, hf⟩ := HX.out.cells
    go_wp2
    go_ret
    exact ⟨rfl, HE.out.trans HX.out⟩
  · have hDk : ((D.kind : Nat) : Int) = 6 := by rw [← HDC.out, h]; rfl
    clear h
    go_enter Try.func5, Try.ntmps5
    go_wp2_with fail
    refine hv0.mono ?_
    rintro e w1 ⟨v, rfl, hv, hx⟩
    obtain ⟨a1, n1, k1, bn, a3, n3, k3, a4, n4, k4, a5, n5, k5, a6, n6, k6, a7, n7, k7, rfl⟩ := hv.shape
    rw [hk] at hv ⊢
    have HV := Lib.hid hv
    have HE := Lib.hid hx
    have L0 : ∀ o, (w1.alloc o).cell? (a.add k) = some (.int .i32 x) := fun o => (Below.cell (hx.alloc o) (by rw [addr_block]; exact hab)).trans hcell
    clear hcell
    clear hv hx hv0
    go_wp2_with fail
    refine (hnone _).mono ?_
    rintro e w2 ⟨v, rfl, hv, hx⟩
    obtain ⟨x1, y1, z1, bm, x3, y3, z3, x4, y4, z4, x5, y5, z5, x6, y6, z6, x7, y7, z7, rfl⟩ := hv.shape
    rw [hDk] at hv ⊢
    obtain ⟨hc2, hf2⟩ := hx.cells
    have hz2 : w1.heap.size + 1 ≤ w2.heap.size := by have := hx.size; simpa using this
    have hz3 : w1.heap.size < w2.heap.size := by omega
    have hz4 : w1.heap.size < w2.heap.size + 1 := by omega
    have hz5 : w1.heap.size ≠ w2.heap.size := by omega
    have HU : Hid (IsVec (w2.alloc (.cells #[.int .i64 6, .slice x1 y1 z1, .int .i64 bm, .slice x3 y3 z3, .slice x4 y4 z4, .slice x5 y5 z5, .slice x6 y6 z6, .slice x7 y7 z7] 34)) (.agg #[.int .i64 6, .slice x1 y1 z1, .int .i64 bm, .slice x3 y3 z3, .slice x4 y4 z4, .slice x5 y5 z5, .slice x6 y6 z6, .slice x7 y7 z7]) D) := Lib.hid (hv.ext ((Ext.refl _).alloc _))
    have HV : Hid (IsVec (w2.alloc (.cells #[.int .i64 6, .slice x1 y1 z1, .int .i64 bm, .slice x3 y3 z3, .slice x4 y4 z4, .slice x5 y5 z5, .slice x6 y6 z6, .slice x7 y7 z7] 34)) (.agg #[.int .i64 5, .slice a1 n1 k1, .int .i64 bn, .slice a3 n3 k3, .slice a4 n4 k4, .slice a5 n5 k5, .slice a6 n6 k6, .slice a7 n7 k7]) d) := Lib.hid (HV.out.ext ((((Ext.refl _).alloc _).trans hx).alloc _))
    have HE : Hid (Ext w (w2.alloc (.cells #[.int .i64 6, .slice x1 y1 z1, .int .i64 bm, .slice x3 y3 z3, .slice x4 y4 z4, .slice x5 y5 z5, .slice x6 y6 z6, .slice x7 y7 z7] 34))) := Lib.hid (((HE.out.alloc _).trans hx).alloc _)
    have HX := Lib.hid (Ext.refl (w2.alloc (.cells #[.int .i64 6, .slice x1 y1 z1, .int .i64 bm, .slice x3 y3 z3, .slice x4 y4 z4, .slice x5 y5 z5, .slice x6 y6 z6, .slice x7 y7 z7] 34)))
    clear hv hx
    obtain ⟨hc, hf⟩ := HX.out.cells
    go_wp2_with fail
    refine (vwholes_none _ d _ (HV.out.ext HX.out) HWH.out).mono ?_
    rintro e w' ⟨rfl, hx⟩
    replace HX := Lib.hid (HX.out.trans hx)
    clear hc hf hx
    obtain ⟨hc, hf⟩ := HX.out.cells
    go_wp2_with fail
    refine (vkind_any _ d _ (HV.out.ext HX.out)).mono ?_
    rintro e w' ⟨rfl, hx⟩
    replace HX := Lib.hid (HX.out.trans hx)
    clear hc hf hx
    obtain ⟨hc, hf⟩ := HX.out.cells
    rw [hk]
    go_wp2_with fail
    refine (vclass_any _ d _ (HV.out.ext HX.out)).mono ?_
    rintro e w' ⟨rfl, hx⟩
    replace HX := Lib.hid (HX.out.trans hx)
    clear hc hf hx
    obtain ⟨hc, hf⟩ := HX.out.cells
    rw [hcl]
    go_wp2_with fail
    refine (vlen_any _ d _ (HV.out.ext HX.out)).mono ?_
    rintro e w' ⟨rfl, hx⟩
    replace HX := Lib.hid (HX.out.trans hx)
    clear hc hf hx
    obtain ⟨hc, hf⟩ := HX.out.cells
    rw [hln]
    go_wp2_with fail
    refine (vtext_any _ l _ (by rw [← HD.out]; exact HV.out.ext HX.out)).mono ?_
    rintro e w' ⟨v', rfl, hown, hx⟩
    obtain ⟨B, cb, rfl, _, _⟩ := own_form hown
    replace HX := Lib.hid (HX.out.trans hx)
    have HT : Hid (Sl w' 1 B n (i32s l)) := Lib.hid (by rw [HN.out]; exact Sl.own hown)
    have HS' := Lib.hid (HS.out.ext (HE.out.trans HX.out))
    rw [← HN.out]
    clear hc hf hx hown
    obtain ⟨hc, hf⟩ := HX.out.cells
    go_wp2_with fail
    refine (runes_yes _ _ l n _ _ HN.out _ (by omega) HT.out HS'.out).mono ?_
    rintro e w' ⟨rfl, hx⟩
    replace HX := Lib.hid (HX.out.trans hx)
    clear hc hf hx HT HS'
    obtain ⟨hc, hf⟩ := HX.out.cells
    go_wp2_with fail
    refine (vchar_any _ d _ _ (HV.out.ext HX.out)).mono ?_
    rintro e w' ⟨rfl, hx⟩
    replace HX := Lib.hid (HX.out.trans hx)
    clear hc hf hx
    obtain ⟨hc, hf⟩ := HX.out.cells
    rw [hch]
    go_wp2_with fail
    refine (vnum_any _ d 0 _ (HV.out.ext HX.out)).mono ?_
    rintro e w' ⟨rfl, hx⟩
    replace HX := Lib.hid (HX.out.trans hx)
    clear hc hf hx
    obtain ⟨hc, hf⟩ := HX.out.cells
    rw [hnm]
    go_wp2_with fail
    refine (vnums_none _ d _ (HV.out.ext HX.out) HCL.out).mono ?_
    rintro e w' ⟨rfl, hx⟩
    replace HX := Lib.hid (HX.out.trans hx)
    clear hc hf hx
    obtain ⟨hc, hf⟩ := HX.out.cells
    go_wp2_with fail
    refine (vkind_any _ D _ (HU.out.ext HX.out)).mono ?_
    rintro e w' ⟨rfl, hx⟩
    replace HX := Lib.hid (HX.out.trans hx)
    clear hc hf hx
    obtain ⟨hc, hf⟩ := HX.out.cells
    rw [hDk]
    go_wp2_with fail
    refine (vlen_any _ D _ (HU.out.ext HX.out)).mono ?_
    rintro e w' ⟨rfl, hx⟩
    replace HX := Lib.hid (HX.out.trans hx)
    clear hc hf hx
    obtain ⟨hc, hf⟩ := HX.out.cells
    rw [hD0]
    go_wp2_with fail
    refine (awake_any _).mono ?_
    rintro e w' ⟨rfl, hx⟩
    replace HX := Lib.hid (HX.out.trans hx)
    clear hc hf hx
    obtain ⟨hc, hf⟩ := HX.out.cells
    go_wp2
    go_ret
    exact ⟨rfl, HE.out.trans HX.out⟩
  · have hDk : ((D.kind : Nat) : Int) = 1 := by rw [← HDC.out, h]; rfl
    clear h
    go_enter Try.func5, Try.ntmps5
    go_wp2_with fail
    refine hv0.mono ?_
    rintro e w1 ⟨v, rfl, hv, hx⟩
    obtain ⟨a1, n1, k1, bn, a3, n3, k3, a4, n4, k4, a5, n5, k5, a6, n6, k6, a7, n7, k7, rfl⟩ := hv.shape
    rw [hk] at hv ⊢
    have HV := Lib.hid hv
    have HE := Lib.hid hx
    have L0 : ∀ o, (w1.alloc o).cell? (a.add k) = some (.int .i32 x) := fun o => (Below.cell (hx.alloc o) (by rw [addr_block]; exact hab)).trans hcell
    clear hcell
    clear hv hx hv0
    go_wp2_with fail
    refine (hnone _).mono ?_
    rintro e w2 ⟨v, rfl, hv, hx⟩
    obtain ⟨x1, y1, z1, bm, x3, y3, z3, x4, y4, z4, x5, y5, z5, x6, y6, z6, x7, y7, z7, rfl⟩ := hv.shape
    rw [hDk] at hv ⊢
    obtain ⟨hc2, hf2⟩ := hx.cells
    have hz2 : w1.heap.size + 1 ≤ w2.heap.size := by have := hx.size; simpa using this
    have hz3 : w1.heap.size < w2.heap.size := by omega
    have hz4 : w1.heap.size < w2.heap.size + 1 := by omega
    have hz5 : w1.heap.size ≠ w2.heap.size := by omega
    have HU : Hid (IsVec (w2.alloc (.cells #[.int .i64 1, .slice x1 y1 z1, .int .i64 bm, .slice x3 y3 z3, .slice x4 y4 z4, .slice x5 y5 z5, .slice x6 y6 z6, .slice x7 y7 z7] 34)) (.agg #[.int .i64 1, .slice x1 y1 z1, .int .i64 bm, .slice x3 y3 z3, .slice x4 y4 z4, .slice x5 y5 z5, .slice x6 y6 z6, .slice x7 y7 z7]) D) := Lib.hid (hv.ext ((Ext.refl _).alloc _))
    have HV : Hid (IsVec (w2.alloc (.cells #[.int .i64 1, .slice x1 y1 z1, .int .i64 bm, .slice x3 y3 z3, .slice x4 y4 z4, .slice x5 y5 z5, .slice x6 y6 z6, .slice x7 y7 z7] 34)) (.agg #[.int .i64 5, .slice a1 n1 k1, .int .i64 bn, .slice a3 n3 k3, .slice a4 n4 k4, .slice a5 n5 k5, .slice a6 n6 k6, .slice a7 n7 k7]) d) := Lib.hid (HV.out.ext ((((Ext.refl _).alloc _).trans hx).alloc _))
    have HE : Hid (Ext w (w2.alloc (.cells #[.int .i64 1, .slice x1 y1 z1, .int .i64 bm, .slice x3 y3 z3, .slice x4 y4 z4, .slice x5 y5 z5, .slice x6 y6 z6, .slice x7 y7 z7] 34))) := Lib.hid (((HE.out.alloc _).trans hx).alloc _)
    have HX := Lib.hid (Ext.refl (w2.alloc (.cells #[.int .i64 1, .slice x1 y1 z1, .int .i64 bm, .slice x3 y3 z3, .slice x4 y4 z4, .slice x5 y5 z5, .slice x6 y6 z6, .slice x7 y7 z7] 34)))
    clear hv hx
    obtain ⟨hc, hf⟩ := HX.out.cells
    go_wp2_with fail
    refine (vwholes_none _ d _ (HV.out.ext HX.out) HWH.out).mono ?_
    rintro e w' ⟨rfl, hx⟩
    replace HX := Lib.hid (HX.out.trans hx)
    clear hc hf hx
    obtain ⟨hc, hf⟩ := HX.out.cells
    go_wp2_with fail
    refine (vkind_any _ d _ (HV.out.ext HX.out)).mono ?_
    rintro e w' ⟨rfl, hx⟩
    replace HX := Lib.hid (HX.out.trans hx)
    clear hc hf hx
    obtain ⟨hc, hf⟩ := HX.out.cells
    rw [hk]
    go_wp2_with fail
    refine (vclass_any _ d _ (HV.out.ext HX.out)).mono ?_
    rintro e w' ⟨rfl, hx⟩
    replace HX := Lib.hid (HX.out.trans hx)
    clear hc hf hx
    obtain ⟨hc, hf⟩ := HX.out.cells
    rw [hcl]
    go_wp2_with fail
    refine (vlen_any _ d _ (HV.out.ext HX.out)).mono ?_
    rintro e w' ⟨rfl, hx⟩
    replace HX := Lib.hid (HX.out.trans hx)
    clear hc hf hx
    obtain ⟨hc, hf⟩ := HX.out.cells
    rw [hln]
    go_wp2_with fail
    refine (vtext_any _ l _ (by rw [← HD.out]; exact HV.out.ext HX.out)).mono ?_
    rintro e w' ⟨v', rfl, hown, hx⟩
    obtain ⟨B, cb, rfl, _, _⟩ := own_form hown
    replace HX := Lib.hid (HX.out.trans hx)
    have HT : Hid (Sl w' 1 B n (i32s l)) := Lib.hid (by rw [HN.out]; exact Sl.own hown)
    have HS' := Lib.hid (HS.out.ext (HE.out.trans HX.out))
    rw [← HN.out]
    clear hc hf hx hown
    obtain ⟨hc, hf⟩ := HX.out.cells
    go_wp2_with fail
    refine (runes_yes _ _ l n _ _ HN.out _ (by omega) HT.out HS'.out).mono ?_
    rintro e w' ⟨rfl, hx⟩
    replace HX := Lib.hid (HX.out.trans hx)
    clear hc hf hx HT HS'
    obtain ⟨hc, hf⟩ := HX.out.cells
    go_wp2_with fail
    refine (vchar_any _ d _ _ (HV.out.ext HX.out)).mono ?_
    rintro e w' ⟨rfl, hx⟩
    replace HX := Lib.hid (HX.out.trans hx)
    clear hc hf hx
    obtain ⟨hc, hf⟩ := HX.out.cells
    rw [hch]
    go_wp2_with fail
    refine (vnum_any _ d 0 _ (HV.out.ext HX.out)).mono ?_
    rintro e w' ⟨rfl, hx⟩
    replace HX := Lib.hid (HX.out.trans hx)
    clear hc hf hx
    obtain ⟨hc, hf⟩ := HX.out.cells
    rw [hnm]
    go_wp2_with fail
    refine (vnums_none _ d _ (HV.out.ext HX.out) HCL.out).mono ?_
    rintro e w' ⟨rfl, hx⟩
    replace HX := Lib.hid (HX.out.trans hx)
    clear hc hf hx
    obtain ⟨hc, hf⟩ := HX.out.cells
    go_wp2_with fail
    refine (vkind_any _ D _ (HU.out.ext HX.out)).mono ?_
    rintro e w' ⟨rfl, hx⟩
    replace HX := Lib.hid (HX.out.trans hx)
    clear hc hf hx
    obtain ⟨hc, hf⟩ := HX.out.cells
    rw [hDk]
    go_wp2_with fail
    refine (vlen_any _ D _ (HU.out.ext HX.out)).mono ?_
    rintro e w' ⟨rfl, hx⟩
    replace HX := Lib.hid (HX.out.trans hx)
    clear hc hf hx
    obtain ⟨hc, hf⟩ := HX.out.cells
    rw [hD0]
    go_wp2_with fail
    refine (awake_any _).mono ?_
    rintro e w' ⟨rfl, hx⟩
    replace HX := Lib.hid (HX.out.trans hx)
    clear hc hf hx
    obtain ⟨hc, hf⟩ := HX.out.cells
    go_wp2
    go_ret
    exact ⟨rfl, HE.out.trans HX.out⟩
set_option maxHeartbeats 8000000
set_option maxRecDepth 100000 in
theorem vecChars_far (w : World) (A : Option Addr) (l : List Int) (c : Nat) (hs : Sl w 1 A l.length (i32s l)) (i : Int) (cl : Int) (h5 : l.length ≤ 500) (hi : ¬ (0 ≤ i ∧ i < (l.length : Int))) (h0 : 0 ≤ i) :
    Calls Try.prog 5 #[.slice A l.length c, .int .i64 i, .int .i64 cl] w fun e w' => e = .returned (.bool true) ∧ Ext w w' := by
  obtain ⟨n, hn⟩ : ∃ n, n = l.length := ⟨_, rfl⟩
  have hv0 := vchars_any A l n hn c w (by omega) (by rw [hn]; exact hs)
  rw [← hn] at hs h5 hi ⊢
  have HS := Lib.hid hs
  have HN := Lib.hid hn
  obtain ⟨d, hd⟩ : ∃ d, d = VD.chars l := ⟨_, rfl⟩
  have hk : ((d.kind : Nat) : Int) = 5 := by rw [hd]; rfl
  have hcl : ((d.cls : Nat) : Int) = 1 := by rw [hd]; rfl
  have hln : ((d.len : Nat) : Int) = n := by rw [hd, hn]; rfl
  have hnm : d.numI 0 = 0 := by rw [hd]; unfold VD.numI; split <;> rfl
  have HWH : Hid (d.isWhl = false) := by rw [hd]; rfl
  have HCL : Hid (d.cls ≠ 0) := by rw [hd]; exact Nat.one_ne_zero
  rw [← hd] at hv0
  have HD := Lib.hid hd
  obtain ⟨D, hD⟩ : ∃ D, noneD cl = D := ⟨_, rfl⟩
  have hnone := fun w => vnone_any cl w
  rw [hD] at hnone
  have hD0 : ((D.len : Nat) : Int) = 0 := by rw [← hD]; rcases noneD_cases cl with ⟨_, h⟩ | ⟨_, h⟩ | ⟨_, _, h⟩ <;> rw [h] <;> rfl
  have HDC := Lib.hid hD
  clear hs hn hD
  have hch : d.chrI i = 0 := by
    have hd := HD.out
    rw [hd]; unfold VD.chrI; rw [if_neg]
    rintro ⟨h1, h2, _⟩
    exact hi ⟨h1, by have := HN.out; rw [this]; exact h2⟩
  have hg : 0 ≤ i → (n : Int) ≤ i := by omega
  clear hi hd
  have hg := hg h0
  rcases noneD_cases cl with ⟨rfl, h⟩ | ⟨rfl, h⟩ | ⟨e1, e2, h⟩
  · have hDk : ((D.kind : Nat) : Int) = 5 := by rw [← HDC.out, h]; rfl
    clear h
    go_enter Try.func5, Try.ntmps5
    go_wp2_with fail
    refine hv0.mono ?_
    rintro e w1 ⟨v, rfl, hv, hx⟩
    obtain ⟨a1, n1, k1, bn, a3, n3, k3, a4, n4, k4, a5, n5, k5, a6, n6, k6, a7, n7, k7, rfl⟩ := hv.shape
    rw [hk] at hv ⊢
    have HV := Lib.hid hv
    have HE := Lib.hid hx
    clear hv hx hv0
    go_wp2_with fail
    refine (hnone _).mono ?_
    rintro e w2 ⟨v, rfl, hv, hx⟩
    obtain ⟨x1, y1, z1, bm, x3, y3, z3, x4, y4, z4, x5, y5, z5, x6, y6, z6, x7, y7, z7, rfl⟩ := hv.shape
    rw [hDk] at hv ⊢
    obtain ⟨hc2, hf2⟩ := hx.cells
    have hz2 : w1.heap.size + 1 ≤ w2.heap.size := by have := hx.size; simpa using this
    have hz3 : w1.heap.size < w2.heap.size := by omega
    have hz4 : w1.heap.size < w2.heap.size + 1 := by omega
    have hz5 : w1.heap.size ≠ w2.heap.size := by omega
    have HU : Hid (IsVec (w2.alloc (.cells #[.int .i64 5, .slice x1 y1 z1, .int .i64 bm, .slice x3 y3 z3, .slice x4 y4 z4, .slice x5 y5 z5, .slice x6 y6 z6, .slice x7 y7 z7] 34)) (.agg #[.int .i64 5, .slice x1 y1 z1, .int .i64 bm, .slice x3 y3 z3, .slice x4 y4 z4, .slice x5 y5 z5, .slice x6 y6 z6, .slice x7 y7 z7]) D) := Lib.hid (hv.ext ((Ext.refl _).alloc _))
    have HV : Hid (IsVec (w2.alloc (.cells #[.int .i64 5, .slice x1 y1 z1, .int .i64 bm, .slice x3 y3 z3, .slice x4 y4 z4, .slice x5 y5 z5, .slice x6 y6 z6, .slice x7 y7 z7] 34)) (.agg #[.int .i64 5, .slice a1 n1 k1, .int .i64 bn, .slice a3 n3 k3, .slice a4 n4 k4, .slice a5 n5 k5, .slice a6 n6 k6, .slice a7 n7 k7]) d) := Lib.hid (HV.out.ext ((((Ext.refl _).alloc _).trans hx).alloc _))
    have HE : Hid (Ext w (w2.alloc (.cells #[.int .i64 5, .slice x1 y1 z1, .int .i64 bm, .slice x3 y3 z3, .slice x4 y4 z4, .slice x5 y5 z5, .slice x6 y6 z6, .slice x7 y7 z7] 34))) := Lib.hid (((HE.out.alloc _).trans hx).alloc _)
    have HX := Lib.hid (Ext.refl (w2.alloc (.cells #[.int .i64 5, .slice x1 y1 z1, .int .i64 bm, .slice x3 y3 z3, .slice x4 y4 z4, .slice x5 y5 z5, .slice x6 y6 z6, .slice x7 y7 z7] 34)))
    clear hv hx
    obtain ⟨hc, hf⟩ := HX.out.cells
    go_wp2_with fail
    refine (vwholes_none _ d _ (HV.out.ext HX.out) HWH.out).mono ?_
    rintro e w' ⟨rfl, hx⟩
    replace HX := Lib.hid (HX.out.trans hx)
    clear hc hf hx
    obtain ⟨hc, hf⟩ := HX.out.cells
    go_wp2_with fail
    refine (vkind_any _ d _ (HV.out.ext HX.out)).mono ?_
    rintro e w' ⟨rfl, hx⟩
    replace HX := Lib.hid (HX.out.trans hx)
    clear hc hf hx
    obtain ⟨hc, hf⟩ := HX.out.cells
    rw [hk]
    go_wp2_with fail
    refine (vclass_any _ d _ (HV.out.ext HX.out)).mono ?_
    rintro e w' ⟨rfl, hx⟩
    replace HX := Lib.hid (HX.out.trans hx)
    clear hc hf hx
    obtain ⟨hc, hf⟩ := HX.out.cells
    rw [hcl]
    go_wp2_with fail
    refine (vlen_any _ d _ (HV.out.ext HX.out)).mono ?_
    rintro e w' ⟨rfl, hx⟩
    replace HX := Lib.hid (HX.out.trans hx)
    clear hc hf hx
    obtain ⟨hc, hf⟩ := HX.out.cells
    rw [hln]
    go_wp2_with fail
    refine (vtext_any _ l _ (by rw [← HD.out]; exact HV.out.ext HX.out)).mono ?_
    rintro e w' ⟨v', rfl, hown, hx⟩
    obtain ⟨B, cb, rfl, _, _⟩ := own_form hown
    replace HX := Lib.hid (HX.out.trans hx)
    have HT : Hid (Sl w' 1 B n (i32s l)) := Lib.hid (by rw [HN.out]; exact Sl.own hown)
    have HS' := Lib.hid (HS.out.ext (HE.out.trans HX.out))
    rw [← HN.out]
    clear hc hf hx hown
    obtain ⟨hc, hf⟩ := HX.out.cells
    go_wp2_with fail
    refine (runes_yes _ _ l n _ _ HN.out _ (by omega) HT.out HS'.out).mono ?_
    rintro e w' ⟨rfl, hx⟩
    replace HX := Lib.hid (HX.out.trans hx)
    clear hc hf hx HT HS'
    obtain ⟨hc, hf⟩ := HX.out.cells
    go_wp2_with fail
    refine (vchar_any _ d _ _ (HV.out.ext HX.out)).mono ?_
    rintro e w' ⟨rfl, hx⟩
    replace HX := Lib.hid (HX.out.trans hx)
    clear hc hf hx
    obtain ⟨hc, hf⟩ := HX.out.cells
    rw [hch]
    go_wp2_with fail
    refine (vnum_any _ d 0 _ (HV.out.ext HX.out)).mono ?_
    rintro e w' ⟨rfl, hx⟩
    replace HX := Lib.hid (HX.out.trans hx)
    clear hc hf hx
    obtain ⟨hc, hf⟩ := HX.out.cells
    rw [hnm]
    go_wp2_with fail
    refine (vnums_none _ d _ (HV.out.ext HX.out) HCL.out).mono ?_
    rintro e w' ⟨rfl, hx⟩
    replace HX := Lib.hid (HX.out.trans hx)
    clear hc hf hx
    obtain ⟨hc, hf⟩ := HX.out.cells
    go_wp2_with fail
    refine (vkind_any _ D _ (HU.out.ext HX.out)).mono ?_
    rintro e w' ⟨rfl, hx⟩
    replace HX := Lib.hid (HX.out.trans hx)
    clear hc hf hx
    obtain ⟨hc, hf⟩ := HX.out.cells
    rw [hDk]
    go_wp2_with fail
    refine (vlen_any _ D _ (HU.out.ext HX.out)).mono ?_
    rintro e w' ⟨rfl, hx⟩
    replace HX := Lib.hid (HX.out.trans hx)
    clear hc hf hx
    obtain ⟨hc, hf⟩ := HX.out.cells
    rw [hD0]
    go_wp2_with fail
    refine (awake_any _).mono ?_
    rintro e w' ⟨rfl, hx⟩
    replace HX := Lib.hid (HX.out.trans hx)
    clear hc hf hx
    obtain ⟨hc, hf⟩ := HX.out.cells
    go_wp2
    go_ret
    exact ⟨rfl, HE.out.trans HX.out⟩
  · have hDk : ((D.kind : Nat) : Int) = 6 := by rw [← HDC.out, h]; rfl
    clear h
    go_enter Try.func5, Try.ntmps5
    go_wp2_with fail
    refine hv0.mono ?_
    rintro e w1 ⟨v, rfl, hv, hx⟩
    obtain ⟨a1, n1, k1, bn, a3, n3, k3, a4, n4, k4, a5, n5, k5, a6, n6, k6, a7, n7, k7, rfl⟩ := hv.shape
    rw [hk] at hv ⊢
    have HV := Lib.hid hv
    have HE := Lib.hid hx
    clear hv hx hv0
    go_wp2_with fail
    refine (hnone _).mono ?_
    rintro e w2 ⟨v, rfl, hv, hx⟩
    obtain ⟨x1, y1, z1, bm, x3, y3, z3, x4, y4, z4, x5, y5, z5, x6, y6, z6, x7, y7, z7, rfl⟩ := hv.shape
    rw [hDk] at hv ⊢
    obtain ⟨hc2, hf2⟩ := hx.cells
    have hz2 : w1.heap.size + 1 ≤ w2.heap.size := by have := hx.size; simpa using this
    have hz3 : w1.heap.size < w2.heap.size := by omega
    have hz4 : w1.heap.size < w2.heap.size + 1 := by omega
    have hz5 : w1.heap.size ≠ w2.heap.size := by omega
    have HU : Hid (IsVec (w2.alloc (.cells #[.int .i64 6, .slice x1 y1 z1, .int .i64 bm, .slice x3 y3 z3, .slice x4 y4 z4, .slice x5 y5 z5, .slice x6 y6 z6, .slice x7 y7 z7] 34)) (.agg #[.int .i64 6, .slice x1 y1 z1, .int .i64 bm, .slice x3 y3 z3, .slice x4 y4 z4, .slice x5 y5 z5, .slice x6 y6 z6, .slice x7 y7 z7]) D) := Lib.hid (hv.ext ((Ext.refl _).alloc _))
    have HV : Hid (IsVec (w2.alloc (.cells #[.int .i64 6, .slice x1 y1 z1, .int .i64 bm, .slice x3 y3 z3, .slice x4 y4 z4, .slice x5 y5 z5, .slice x6 y6 z6, .slice x7 y7 z7] 34)) (.agg #[.int .i64 5, .slice a1 n1 k1, .int .i64 bn, .slice a3 n3 k3, .slice a4 n4 k4, .slice a5 n5 k5, .slice a6 n6 k6, .slice a7 n7 k7]) d) := Lib.hid (HV.out.ext ((((Ext.refl _).alloc _).trans hx).alloc _))
    have HE : Hid (Ext w (w2.alloc (.cells #[.int .i64 6, .slice x1 y1 z1, .int .i64 bm, .slice x3 y3 z3, .slice x4 y4 z4, .slice x5 y5 z5, .slice x6 y6 z6, .slice x7 y7 z7] 34))) := Lib.hid (((HE.out.alloc _).trans hx).alloc _)
    have HX := Lib.hid (Ext.refl (w2.alloc (.cells #[.int .i64 6, .slice x1 y1 z1, .int .i64 bm, .slice x3 y3 z3, .slice x4 y4 z4, .slice x5 y5 z5, .slice x6 y6 z6, .slice x7 y7 z7] 34)))
    clear hv hx
    obtain ⟨hc, hf⟩ := HX.out.cells
    go_wp2_with fail
    refine (vwholes_none _ d _ (HV.out.ext HX.out) HWH.out).mono ?_
    rintro e w' ⟨rfl, hx⟩
    replace HX := Lib.hid (HX.out.trans hx)
    clear hc hf hx
    obtain ⟨hc, hf⟩ := HX.out.cells
    go_wp2_with fail
    refine (vkind_any _ d _ (HV.out.ext HX.out)).mono ?_
    rintro e w' ⟨rfl, hx⟩
    replace HX := Lib.hid (HX.out.trans hx)
    clear hc hf hx
    obtain ⟨hc, hf⟩ := HX.out.cells
    rw [hk]
    go_wp2_with fail
    refine (vclass_any _ d _ (HV.out.ext HX.out)).mono ?_
    rintro e w' ⟨rfl, hx⟩
    replace HX := Lib.hid (HX.out.trans hx)
    clear hc hf hx
    obtain ⟨hc, hf⟩ := HX.out.cells
    rw [hcl]
    go_wp2_with fail
    refine (vlen_any _ d _ (HV.out.ext HX.out)).mono ?_
    rintro e w' ⟨rfl, hx⟩
    replace HX := Lib.hid (HX.out.trans hx)
    clear hc hf hx
    obtain ⟨hc, hf⟩ := HX.out.cells
    rw [hln]
    go_wp2_with fail
    refine (vtext_any _ l _ (by rw [← HD.out]; exact HV.out.ext HX.out)).mono ?_
    rintro e w' ⟨v', rfl, hown, hx⟩
    obtain ⟨B, cb, rfl, _, _⟩ := own_form hown
    replace HX := Lib.hid (HX.out.trans hx)
    have HT : Hid (Sl w' 1 B n (i32s l)) := Lib.hid (by rw [HN.out]; exact Sl.own hown)
    have HS' := Lib.hid (HS.out.ext (HE.out.trans HX.out))
    rw [← HN.out]
    clear hc hf hx hown
    obtain ⟨hc, hf⟩ := HX.out.cells
    go_wp2_with fail
    refine (runes_yes _ _ l n _ _ HN.out _ (by omega) HT.out HS'.out).mono ?_
    rintro e w' ⟨rfl, hx⟩
    replace HX := Lib.hid (HX.out.trans hx)
    clear hc hf hx HT HS'
    obtain ⟨hc, hf⟩ := HX.out.cells
    go_wp2_with fail
    refine (vchar_any _ d _ _ (HV.out.ext HX.out)).mono ?_
    rintro e w' ⟨rfl, hx⟩
    replace HX := Lib.hid (HX.out.trans hx)
    clear hc hf hx
    obtain ⟨hc, hf⟩ := HX.out.cells
    rw [hch]
    go_wp2_with fail
    refine (vnum_any _ d 0 _ (HV.out.ext HX.out)).mono ?_
    rintro e w' ⟨rfl, hx⟩
    replace HX := Lib.hid (HX.out.trans hx)
    clear hc hf hx
    obtain ⟨hc, hf⟩ := HX.out.cells
    rw [hnm]
    go_wp2_with fail
    refine (vnums_none _ d _ (HV.out.ext HX.out) HCL.out).mono ?_
    rintro e w' ⟨rfl, hx⟩
    replace HX := Lib.hid (HX.out.trans hx)
    clear hc hf hx
    obtain ⟨hc, hf⟩ := HX.out.cells
    go_wp2_with fail
    refine (vkind_any _ D _ (HU.out.ext HX.out)).mono ?_
    rintro e w' ⟨rfl, hx⟩
    replace HX := Lib.hid (HX.out.trans hx)
    clear hc hf hx
    obtain ⟨hc, hf⟩ := HX.out.cells
    rw [hDk]
    go_wp2_with fail
    refine (vlen_any _ D _ (HU.out.ext HX.out)).mono ?_
    rintro e w' ⟨rfl, hx⟩
    replace HX := Lib.hid (HX.out.trans hx)
    clear hc hf hx
    obtain ⟨hc, hf⟩ := HX.out.cells
    rw [hD0]
    go_wp2_with fail
    refine (awake_any _).mono ?_
    rintro e w' ⟨rfl, hx⟩
    replace HX := Lib.hid (HX.out.trans hx)
    clear hc hf hx
    obtain ⟨hc, hf⟩ := HX.out.cells
    go_wp2
    go_ret
    exact ⟨rfl, HE.out.trans HX.out⟩
  · have hDk : ((D.kind : Nat) : Int) = 1 := by rw [← HDC.out, h]; rfl
    clear h
    go_enter Try.func5, Try.ntmps5
    go_wp2_with fail
    refine hv0.mono ?_
    rintro e w1 ⟨v, rfl, hv, hx⟩
    obtain ⟨a1, n1, k1, bn, a3, n3, k3, a4, n4, k4, a5, n5, k5, a6, n6, k6, a7, n7, k7, rfl⟩ := hv.shape
    rw [hk] at hv ⊢
    have HV := Lib.hid hv
    have HE := Lib.hid hx
    clear hv hx hv0
    go_wp2_with fail
    refine (hnone _).mono ?_
    rintro e w2 ⟨v, rfl, hv, hx⟩
    obtain ⟨x1, y1, z1, bm, x3, y3, z3, x4, y4, z4, x5, y5, z5, x6, y6, z6, x7, y7, z7, rfl⟩ := hv.shape
    rw [hDk] at hv ⊢
    obtain ⟨hc2, hf2⟩ := hx.cells
    have hz2 : w1.heap.size + 1 ≤ w2.heap.size := by have := hx.size; simpa using this
    have hz3 : w1.heap.size < w2.heap.size := by omega
    have hz4 : w1.heap.size < w2.heap.size + 1 := by omega
    have hz5 : w1.heap.size ≠ w2.heap.size := by omega
    have HU : Hid (IsVec (w2.alloc (.cells #[.int .i64 1, .slice x1 y1 z1, .int .i64 bm, .slice x3 y3 z3, .slice x4 y4 z4, .slice x5 y5 z5, .slice x6 y6 z6, .slice x7 y7 z7] 34)) (.agg #[.int .i64 1, .slice x1 y1 z1, .int .i64 bm, .slice x3 y3 z3, .slice x4 y4 z4, .slice x5 y5 z5, .slice x6 y6 z6, .slice x7 y7 z7]) D) := Lib.hid (hv.ext ((Ext.refl _).alloc _))
    have HV : Hid (IsVec (w2.alloc (.cells #[.int .i64 1, .slice x1 y1 z1, .int .i64 bm, .slice x3 y3 z3, .slice x4 y4 z4, .slice x5 y5 z5, .slice x6 y6 z6, .slice x7 y7 z7] 34)) (.agg #[.int .i64 5, .slice a1 n1 k1, .int .i64 bn, .slice a3 n3 k3, .slice a4 n4 k4, .slice a5 n5 k5, .slice a6 n6 k6, .slice a7 n7 k7]) d) := Lib.hid (HV.out.ext ((((Ext.refl _).alloc _).trans hx).alloc _))
    have HE : Hid (Ext w (w2.alloc (.cells #[.int .i64 1, .slice x1 y1 z1, .int .i64 bm, .slice x3 y3 z3, .slice x4 y4 z4, .slice x5 y5 z5, .slice x6 y6 z6, .slice x7 y7 z7] 34))) := Lib.hid (((HE.out.alloc _).trans hx).alloc _)
    have HX := Lib.hid (Ext.refl (w2.alloc (.cells #[.int .i64 1, .slice x1 y1 z1, .int .i64 bm, .slice x3 y3 z3, .slice x4 y4 z4, .slice x5 y5 z5, .slice x6 y6 z6, .slice x7 y7 z7] 34)))
    clear hv hx
    obtain ⟨hc, hf⟩ := HX.out.cells
    go_wp2_with fail
    refine (vwholes_none _ d _ (HV.out.ext HX.out) HWH.out).mono ?_
    rintro e w' ⟨rfl, hx⟩
    replace HX := Lib.hid (HX.out.trans hx)
    clear hc hf hx
    obtain ⟨hc, hf⟩ := HX.out.cells
    go_wp2_with fail
    refine (vkind_any _ d _ (HV.out.ext HX.out)).mono ?_
    rintro e w' ⟨rfl, hx⟩
    replace HX := Lib.hid (HX.out.trans hx)
    clear hc hf hx
    obtain ⟨hc, hf⟩ := HX.out.cells
    rw [hk]
    go_wp2_with fail
    refine (vclass_any _ d _ (HV.out.ext HX.out)).mono ?_
    rintro e w' ⟨rfl, hx⟩
    replace HX := Lib.hid (HX.out.trans hx)
    clear hc hf hx
    obtain ⟨hc, hf⟩ := HX.out.cells
    rw [hcl]
    go_wp2_with fail
    refine (vlen_any _ d _ (HV.out.ext HX.out)).mono ?_
    rintro e w' ⟨rfl, hx⟩
    replace HX := Lib.hid (HX.out.trans hx)
    clear hc hf hx
    obtain ⟨hc, hf⟩ := HX.out.cells
    rw [hln]
    go_wp2_with fail
    refine (vtext_any _ l _ (by rw [← HD.out]; exact HV.out.ext HX.out)).mono ?_
    rintro e w' ⟨v', rfl, hown, hx⟩
    obtain ⟨B, cb, rfl, _, _⟩ := own_form hown
    replace HX := Lib.hid (HX.out.trans hx)
    have HT : Hid (Sl w' 1 B n (i32s l)) := Lib.hid (by rw [HN.out]; exact Sl.own hown)
    have HS' := Lib.hid (HS.out.ext (HE.out.trans HX.out))
    rw [← HN.out]
    clear hc hf hx hown
    obtain ⟨hc, hf⟩ := HX.out.cells
    go_wp2_with fail
    refine (runes_yes _ _ l n _ _ HN.out _ (by omega) HT.out HS'.out).mono ?_
    rintro e w' ⟨rfl, hx⟩
    replace HX := Lib.hid (HX.out.trans hx)
    clear hc hf hx HT HS'
    obtain ⟨hc, hf⟩ := HX.out.cells
    go_wp2_with fail
    refine (vchar_any _ d _ _ (HV.out.ext HX.out)).mono ?_
    rintro e w' ⟨rfl, hx⟩
    replace HX := Lib.hid (HX.out.trans hx)
    clear hc hf hx
    obtain ⟨hc, hf⟩ := HX.out.cells
    rw [hch]
    go_wp2_with fail
    refine (vnum_any _ d 0 _ (HV.out.ext HX.out)).mono ?_
    rintro e w' ⟨rfl, hx⟩
    replace HX := Lib.hid (HX.out.trans hx)
    clear hc hf hx
    obtain ⟨hc, hf⟩ := HX.out.cells
    rw [hnm]
    go_wp2_with fail
    refine (vnums_none _ d _ (HV.out.ext HX.out) HCL.out).mono ?_
    rintro e w' ⟨rfl, hx⟩
    replace HX := Lib.hid (HX.out.trans hx)
    clear hc hf hx
    obtain ⟨hc, hf⟩ := HX.out.cells
    go_wp2_with fail
    refine (vkind_any _ D _ (HU.out.ext HX.out)).mono ?_
    rintro e w' ⟨rfl, hx⟩
    replace HX := Lib.hid (HX.out.trans hx)
    clear hc hf hx
    obtain ⟨hc, hf⟩ := HX.out.cells
    rw [hDk]
    go_wp2_with fail
    refine (vlen_any _ D _ (HU.out.ext HX.out)).mono ?_
    rintro e w' ⟨rfl, hx⟩
    replace HX := Lib.hid (HX.out.trans hx)
    clear hc hf hx
    obtain ⟨hc, hf⟩ := HX.out.cells
    rw [hD0]
    go_wp2_with fail
    refine (awake_any _).mono ?_
    rintro e w' ⟨rfl, hx⟩
    replace HX := Lib.hid (HX.out.trans hx)
    clear hc hf hx
    obtain ⟨hc, hf⟩ := HX.out.cells
    go_wp2
    go_ret
    exact ⟨rfl, HE.out.trans HX.out⟩
set_option maxHeartbeats 8000000
set_option maxRecDepth 100000 in
theorem vecChars_neg (w : World) (A : Option Addr) (l : List Int) (c : Nat) (hs : Sl w 1 A l.length (i32s l)) (i : Int) (cl : Int) (h5 : l.length ≤ 500) (hi : ¬ (0 ≤ i ∧ i < (l.length : Int))) (h0 : ¬ 0 ≤ i) :
    Calls Try.prog 5 #[.slice A l.length c, .int .i64 i, .int .i64 cl] w fun e w' => e = .returned (.bool true) ∧ Ext w w' := by
  obtain ⟨n, hn⟩ : ∃ n, n = l.length := ⟨_, rfl⟩
  have hv0 := vchars_any A l n hn c w (by omega) (by rw [hn]; exact hs)
  rw [← hn] at hs h5 hi ⊢
  have HS := Lib.hid hs
  have HN := Lib.hid hn
  obtain ⟨d, hd⟩ : ∃ d, d = VD.chars l := ⟨_, rfl⟩
  have hk : ((d.kind : Nat) : Int) = 5 := by rw [hd]; rfl
  have hcl : ((d.cls : Nat) : Int) = 1 := by rw [hd]; rfl
  have hln : ((d.len : Nat) : Int) = n := by rw [hd, hn]; rfl
  have hnm : d.numI 0 = 0 := by rw [hd]; unfold VD.numI; split <;> rfl
  have HWH : Hid (d.isWhl = false) := by rw [hd]; rfl
  have HCL : Hid (d.cls ≠ 0) := by rw [hd]; exact Nat.one_ne_zero
  rw [← hd] at hv0
  have HD := Lib.hid hd
  obtain ⟨D, hD⟩ : ∃ D, noneD cl = D := ⟨_, rfl⟩
  have hnone := fun w => vnone_any cl w
  rw [hD] at hnone
  have hD0 : ((D.len : Nat) : Int) = 0 := by rw [← hD]; rcases noneD_cases cl with ⟨_, h⟩ | ⟨_, h⟩ | ⟨_, _, h⟩ <;> rw [h] <;> rfl
  have HDC := Lib.hid hD
  clear hs hn hD
  have hch : d.chrI i = 0 := by
    have hd := HD.out
    rw [hd]; unfold VD.chrI; rw [if_neg]
    rintro ⟨h1, h2, _⟩
    exact hi ⟨h1, by have := HN.out; rw [this]; exact h2⟩
  have hg : 0 ≤ i → (n : Int) ≤ i := by omega
  clear hi hd
  clear hg
  rcases noneD_cases cl with ⟨rfl, h⟩ | ⟨rfl, h⟩ | ⟨e1, e2, h⟩
  · have hDk : ((D.kind : Nat) : Int) = 5 := by rw [← HDC.out, h]; rfl
    clear h
    go_enter Try.func5, Try.ntmps5
    go_wp2_with fail
    refine hv0.mono ?_
    rintro e w1 ⟨v, rfl, hv, hx⟩
    obtain ⟨a1, n1, k1, bn, a3, n3, k3, a4, n4, k4, a5, n5, k5, a6, n6, k6, a7, n7, k7, rfl⟩ := hv.shape
    rw [hk] at hv ⊢
    have HV := Lib.hid hv
    have HE := Lib.hid hx
    clear hv hx hv0
    go_wp2_with fail
    refine (hnone _).mono ?_
    rintro e w2 ⟨v, rfl, hv, hx⟩
    obtain ⟨x1, y1, z1, bm, x3, y3, z3, x4, y4, z4, x5, y5, z5, x6, y6, z6, x7, y7, z7, rfl⟩ := hv.shape
    rw [hDk] at hv ⊢
    obtain ⟨hc2, hf2⟩ := hx.cells
    have hz2 : w1.heap.size + 1 ≤ w2.heap.size := by have := hx.size; simpa using this
    have hz3 : w1.heap.size < w2.heap.size := by omega
    have hz4 : w1.heap.size < w2.heap.size + 1 := by omega
    have hz5 : w1.heap.size ≠ w2.heap.size := by omega
    have HU : Hid (IsVec (w2.alloc (.cells #[.int .i64 5, .slice x1 y1 z1, .int .i64 bm, .slice x3 y3 z3, .slice x4 y4 z4, .slice x5 y5 z5, .slice x6 y6 z6, .slice x7 y7 z7] 34)) (.agg #[.int .i64 5, .slice x1 y1 z1, .int .i64 bm, .slice x3 y3 z3, .slice x4 y4 z4, .slice x5 y5 z5, .slice x6 y6 z6, .slice x7 y7 z7]) D) := Lib.hid (hv.ext ((Ext.refl _).alloc _))
    have HV : Hid (IsVec (w2.alloc (.cells #[.int .i64 5, .slice x1 y1 z1, .int .i64 bm, .slice x3 y3 z3, .slice x4 y4 z4, .slice x5 y5 z5, .slice x6 y6 z6, .slice x7 y7 z7] 34)) (.agg #[.int .i64 5, .slice a1 n1 k1, .int .i64 bn, .slice a3 n3 k3, .slice a4 n4 k4, .slice a5 n5 k5, .slice a6 n6 k6, .slice a7 n7 k7]) d) := Lib.hid (HV.out.ext ((((Ext.refl _).alloc _).trans hx).alloc _))
    have HE : Hid (Ext w (w2.alloc (.cells #[.int .i64 5, .slice x1 y1 z1, .int .i64 bm, .slice x3 y3 z3, .slice x4 y4 z4, .slice x5 y5 z5, .slice x6 y6 z6, .slice x7 y7 z7] 34))) := Lib.hid (((HE.out.alloc _).trans hx).alloc _)
    have HX := Lib.hid (Ext.refl (w2.alloc (.cells #[.int .i64 5, .slice x1 y1 z1, .int .i64 bm, .slice x3 y3 z3, .slice x4 y4 z4, .slice x5 y5 z5, .slice x6 y6 z6, .slice x7 y7 z7] 34)))
    clear hv hx
    obtain ⟨hc, hf⟩ := HX.out.cells
    go_wp2_with fail
    refine (vwholes_none _ d _ (HV.out.ext HX.out) HWH.out).mono ?_
    rintro e w' ⟨rfl, hx⟩
    replace HX := Lib.hid (HX.out.trans hx)
    clear hc hf hx
    obtain ⟨hc, hf⟩ := HX.out.cells
    go_wp2_with fail
    refine (vkind_any _ d _ (HV.out.ext HX.out)).mono ?_
    rintro e w' ⟨rfl, hx⟩
    replace HX := Lib.hid (HX.out.trans hx)
    clear hc hf hx
    obtain ⟨hc, hf⟩ := HX.out.cells
    rw [hk]
    go_wp2_with fail
    refine (vclass_any _ d _ (HV.out.ext HX.out)).mono ?_
    rintro e w' ⟨rfl, hx⟩
    replace HX := Lib.hid (HX.out.trans hx)
    clear hc hf hx
    obtain ⟨hc, hf⟩ := HX.out.cells
    rw [hcl]
    go_wp2_with fail
    refine (vlen_any _ d _ (HV.out.ext HX.out)).mono ?_
    rintro e w' ⟨rfl, hx⟩
    replace HX := Lib.hid (HX.out.trans hx)
    clear hc hf hx
    obtain ⟨hc, hf⟩ := HX.out.cells
    rw [hln]
    go_wp2_with fail
    refine (vtext_any _ l _ (by rw [← HD.out]; exact HV.out.ext HX.out)).mono ?_
    rintro e w' ⟨v', rfl, hown, hx⟩
    obtain ⟨B, cb, rfl, _, _⟩ := own_form hown
    replace HX := Lib.hid (HX.out.trans hx)
    have HT : Hid (Sl w' 1 B n (i32s l)) := Lib.hid (by rw [HN.out]; exact Sl.own hown)
    have HS' := Lib.hid (HS.out.ext (HE.out.trans HX.out))
    rw [← HN.out]
    clear hc hf hx hown
    obtain ⟨hc, hf⟩ := HX.out.cells
    go_wp2_with fail
    refine (runes_yes _ _ l n _ _ HN.out _ (by omega) HT.out HS'.out).mono ?_
    rintro e w' ⟨rfl, hx⟩
    replace HX := Lib.hid (HX.out.trans hx)
    clear hc hf hx HT HS'
    obtain ⟨hc, hf⟩ := HX.out.cells
    go_wp2_with fail
    refine (vchar_any _ d _ _ (HV.out.ext HX.out)).mono ?_
    rintro e w' ⟨rfl, hx⟩
    replace HX := Lib.hid (HX.out.trans hx)
    clear hc hf hx
    obtain ⟨hc, hf⟩ := HX.out.cells
    rw [hch]
    go_wp2_with fail
    refine (vnum_any _ d 0 _ (HV.out.ext HX.out)).mono ?_
    rintro e w' ⟨rfl, hx⟩
    replace HX := Lib.hid (HX.out.trans hx)
    clear hc hf hx
    obtain ⟨hc, hf⟩ := HX.out.cells
    rw [hnm]
    go_wp2_with fail
    refine (vnums_none _ d _ (HV.out.ext HX.out) HCL.out).mono ?_
    rintro e w' ⟨rfl, hx⟩
    replace HX := Lib.hid (HX.out.trans hx)
    clear hc hf hx
    obtain ⟨hc, hf⟩ := HX.out.cells
    go_wp2_with fail
    refine (vkind_any _ D _ (HU.out.ext HX.out)).mono ?_
    rintro e w' ⟨rfl, hx⟩
    replace HX := Lib.hid (HX.out.trans hx)
    clear hc hf hx
    obtain ⟨hc, hf⟩ := HX.out.cells
    rw [hDk]
    go_wp2_with fail
    refine (vlen_any _ D _ (HU.out.ext HX.out)).mono ?_
    rintro e w' ⟨rfl, hx⟩
    replace HX := Lib.hid (HX.out.trans hx)
    clear hc hf hx
    obtain ⟨hc, hf⟩ := HX.out.cells
    rw [hD0]
    go_wp2_with fail
    refine (awake_any _).mono ?_
    rintro e w' ⟨rfl, hx⟩
    replace HX := Lib.hid (HX.out.trans hx)
    clear hc hf hx
    obtain ⟨hc, hf⟩ := HX.out.cells
    go_wp2
    go_ret
    exact ⟨rfl, HE.out.trans HX.out⟩
  · have hDk : ((D.kind : Nat) : Int) = 6 := by rw [← HDC.out, h]; rfl
    clear h
    go_enter Try.func5, Try.ntmps5
    go_wp2_with fail
    refine hv0.mono ?_
    rintro e w1 ⟨v, rfl, hv, hx⟩
    obtain ⟨a1, n1, k1, bn, a3, n3, k3, a4, n4, k4, a5, n5, k5, a6, n6, k6, a7, n7, k7, rfl⟩ := hv.shape
    rw [hk] at hv ⊢
    have HV := Lib.hid hv
    have HE := Lib.hid hx
    clear hv hx hv0
    go_wp2_with fail
    refine (hnone _).mono ?_
    rintro e w2 ⟨v, rfl, hv, hx⟩
    obtain ⟨x1, y1, z1, bm, x3, y3, z3, x4, y4, z4, x5, y5, z5, x6, y6, z6, x7, y7, z7, rfl⟩ := hv.shape
    rw [hDk] at hv ⊢
    obtain ⟨hc2, hf2⟩ := hx.cells
    have hz2 : w1.heap.size + 1 ≤ w2.heap.size := by have := hx.size; simpa using this
    have hz3 : w1.heap.size < w2.heap.size := by omega
    have hz4 : w1.heap.size < w2.heap.size + 1 := by omega
    have hz5 : w1.heap.size ≠ w2.heap.size := by omega
    have HU : Hid (IsVec (w2.alloc (.cells #[.int .i64 6, .slice x1 y1 z1, .int .i64 bm, .slice x3 y3 z3, .slice x4 y4 z4, .slice x5 y5 z5, .slice x6 y6 z6, .slice x7 y7 z7] 34)) (.agg #[.int .i64 6, .slice x1 y1 z1, .int .i64 bm, .slice x3 y3 z3, .slice x4 y4 z4, .slice x5 y5 z5, .slice x6 y6 z6, .slice x7 y7 z7]) D) := Lib.hid (hv.ext ((Ext.refl _).alloc _))
    have HV : Hid (IsVec (w2.alloc (.cells #[.int .i64 6, .slice x1 y1 z1, .int .i64 bm, .slice x3 y3 z3, .slice x4 y4 z4, .slice x5 y5 z5, .slice x6 y6 z6, .slice x7 y7 z7] 34)) (.agg #[.int .i64 5, .slice a1 n1 k1, .int .i64 bn, .slice a3 n3 k3, .slice a4 n4 k4, .slice a5 n5 k5, .slice a6 n6 k6, .slice a7 n7 k7]) d) := Lib.hid (HV.out.ext ((((Ext.refl _).alloc _).trans hx).alloc _))
    have HE : Hid (Ext w (w2.alloc (.cells #[.int .i64 6, .slice x1 y1 z1, .int .i64 bm, .slice x3 y3 z3, .slice x4 y4 z4, .slice x5 y5 z5, .slice x6 y6 z6, .slice x7 y7 z7] 34))) := Lib.hid (((HE.out.alloc _).trans hx).alloc _)
    have HX := Lib.hid (Ext.refl (w2.alloc (.cells #[.int .i64 6, .slice x1 y1 z1, .int .i64 bm, .slice x3 y3 z3, .slice x4 y4 z4, .slice x5 y5 z5, .slice x6 y6 z6, .slice x7 y7 z7] 34)))
    clear hv hx
    obtain ⟨hc, hf⟩ := HX.out.cells
    go_wp2_with fail
    refine (vwholes_none _ d _ (HV.out.ext HX.out) HWH.out).mono ?_
    rintro e w' ⟨rfl, hx⟩
    replace HX := Lib.hid (HX.out.trans hx)
    clear hc hf hx
    obtain ⟨hc, hf⟩ := HX.out.cells
    go_wp2_with fail
    refine (vkind_any _ d _ (HV.out.ext HX.out)).mono ?_
    rintro e w' ⟨rfl, hx⟩
    replace HX := Lib.hid (HX.out.trans hx)
    clear hc hf hx
    obtain ⟨hc, hf⟩ := HX.out.cells
    rw [hk]
    go_wp2_with fail
    refine (vclass_any _ d _ (HV.out.ext HX.out)).mono ?_
    rintro e w' ⟨rfl, hx⟩
    replace HX := Lib.hid (HX.out.trans hx)
    clear hc hf hx
    obtain ⟨hc, hf⟩ := HX.out.cells
    rw [hcl]
    go_wp2_with fail
    refine (vlen_any _ d _ (HV.out.ext HX.out)).mono ?_
    rintro e w' ⟨rfl, hx⟩
    replace HX := Lib.hid (HX.out.trans hx)
    clear hc hf hx
    obtain ⟨hc, hf⟩ := HX.out.cells
    rw [hln]
    go_wp2_with fail
    refine (vtext_any _ l _ (by rw [← HD.out]; exact HV.out.ext HX.out)).mono ?_
    rintro e w' ⟨v', rfl, hown, hx⟩
    obtain ⟨B, cb, rfl, _, _⟩ := own_form hown
    replace HX := Lib.hid (HX.out.trans hx)
    have HT : Hid (Sl w' 1 B n (i32s l)) := Lib.hid (by rw [HN.out]; exact Sl.own hown)
    have HS' := Lib.hid (HS.out.ext (HE.out.trans HX.out))
    rw [← HN.out]
    clear hc hf hx hown
    obtain ⟨hc, hf⟩ := HX.out.cells
    go_wp2_with fail
    refine (runes_yes _ _ l n _ _ HN.out _ (by omega) HT.out HS'.out).mono ?_
    rintro e w' ⟨rfl, hx⟩
    replace HX := Lib.hid (HX.out.trans hx)
    clear hc hf hx HT HS'
    obtain ⟨hc, hf⟩ := HX.out.cells
    go_wp2_with fail
    refine (vchar_any _ d _ _ (HV.out.ext HX.out)).mono ?_
    rintro e w' ⟨rfl, hx⟩
    replace HX := Lib.hid (HX.out.trans hx)
    clear hc hf hx
    obtain ⟨hc, hf⟩ := HX.out.cells
    rw [hch]
    go_wp2_with fail
    refine (vnum_any _ d 0 _ (HV.out.ext HX.out)).mono ?_
    rintro e w' ⟨rfl, hx⟩
    replace HX := Lib.hid (HX.out.trans hx)
    clear hc hf hx
    obtain ⟨hc, hf⟩ := HX.out.cells
    rw [hnm]
    go_wp2_with fail
    refine (vnums_none _ d _ (HV.out.ext HX.out) HCL.out).mono ?_
    rintro e w' ⟨rfl, hx⟩
    replace HX := Lib.hid (HX.out.trans hx)
    clear hc hf hx
    obtain ⟨hc, hf⟩ := HX.out.cells
    go_wp2_with fail
    refine (vkind_any _ D _ (HU.out.ext HX.out)).mono ?_
    rintro e w' ⟨rfl, hx⟩
    replace HX := Lib.hid (HX.out.trans hx)
    clear hc hf hx
    obtain ⟨hc, hf⟩ := HX.out.cells
    rw [hDk]
    go_wp2_with fail
    refine (vlen_any _ D _ (HU.out.ext HX.out)).mono ?_
    rintro e w' ⟨rfl, hx⟩
    replace HX := Lib.hid (HX.out.trans hx)
    clear hc hf hx
    obtain ⟨hc, hf⟩ := HX.out.cells
    rw [hD0]
    go_wp2_with fail
    refine (awake_any _).mono ?_
    rintro e w' ⟨rfl, hx⟩
    replace HX := Lib.hid (HX.out.trans hx)
    clear hc hf hx
    obtain ⟨hc, hf⟩ := HX.out.cells
    go_wp2
    go_ret
    exact ⟨rfl, HE.out.trans HX.out⟩
  · have hDk : ((D.kind : Nat) : Int) = 1 := by rw [← HDC.out, h]; rfl
    clear h
    go_enter Try.func5, Try.ntmps5
    go_wp2_with fail
    refine hv0.mono ?_
    rintro e w1 ⟨v, rfl, hv, hx⟩
    obtain ⟨a1, n1, k1, bn, a3, n3, k3, a4, n4, k4, a5, n5, k5, a6, n6, k6, a7, n7, k7, rfl⟩ := hv.shape
    rw [hk] at hv ⊢
    have HV := Lib.hid hv
    have HE := Lib.hid hx
    clear hv hx hv0
    go_wp2_with fail
    refine (hnone _).mono ?_
    rintro e w2 ⟨v, rfl, hv, hx⟩
    obtain ⟨x1, y1, z1, bm, x3, y3, z3, x4, y4, z4, x5, y5, z5, x6, y6, z6, x7, y7, z7, rfl⟩ := hv.shape
    rw [hDk] at hv ⊢
    obtain ⟨hc2, hf2⟩ := hx.cells
    have hz2 : w1.heap.size + 1 ≤ w2.heap.size := by have := hx.size; simpa using this
    have hz3 : w1.heap.size < w2.heap.size := by omega
    have hz4 : w1.heap.size < w2.heap.size + 1 := by omega
    have hz5 : w1.heap.size ≠ w2.heap.size := by omega
    have HU : Hid (IsVec (w2.alloc (.cells #[.int .i64 1, .slice x1 y1 z1, .int .i64 bm, .slice x3 y3 z3, .slice x4 y4 z4, .slice x5 y5 z5, .slice x6 y6 z6, .slice x7 y7 z7] 34)) (.agg #[.int .i64 1, .slice x1 y1 z1, .int .i64 bm, .slice x3 y3 z3, .slice x4 y4 z4, .slice x5 y5 z5, .slice x6 y6 z6, .slice x7 y7 z7]) D) := Lib.hid (hv.ext ((Ext.refl _).alloc _))
    have HV : Hid (IsVec (w2.alloc (.cells #[.int .i64 1, .slice x1 y1 z1, .int .i64 bm, .slice x3 y3 z3, .slice x4 y4 z4, .slice x5 y5 z5, .slice x6 y6 z6, .slice x7 y7 z7] 34)) (.agg #[.int .i64 5, .slice a1 n1 k1, .int .i64 bn, .slice a3 n3 k3, .slice a4 n4 k4, .slice a5 n5 k5, .slice a6 n6 k6, .slice a7 n7 k7]) d) := Lib.hid (HV.out.ext ((((Ext.refl _).alloc _).trans hx).alloc _))
    have HE : Hid (Ext w (w2.alloc (.cells #[.int .i64 1, .slice x1 y1 z1, .int .i64 bm, .slice x3 y3 z3, .slice x4 y4 z4, .slice x5 y5 z5, .slice x6 y6 z6, .slice x7 y7 z7] 34))) := Lib.hid (((HE.out.alloc _).trans hx).alloc _)
    have HX := Lib.hid (Ext.refl (w2.alloc (.cells #[.int .i64 1, .slice x1 y1 z1, .int .i64 bm, .slice x3 y3 z3, .slice x4 y4 z4, .slice x5 y5 z5, .slice x6 y6 z6, .slice x7 y7 z7] 34)))
    clear hv hx
    obtain ⟨hc, hf⟩ := HX.out.cells
    go_wp2_with fail
    refine (vwholes_none _ d _ (HV.out.ext HX.out) HWH.out).mono ?_
    rintro e w' ⟨rfl, hx⟩
    replace HX := Lib.hid (HX.out.trans hx)
    clear hc hf hx
    obtain ⟨hc, hf⟩ := HX.out.cells
    go_wp2_with fail
    refine (vkind_any _ d _ (HV.out.ext HX.out)).mono ?_
    rintro e w' ⟨rfl, hx⟩
    replace HX := Lib.hid (HX.out.trans hx)
    clear hc hf hx
    obtain ⟨hc, hf⟩ := HX.out.cells
    rw [hk]
    go_wp2_with fail
    refine (vclass_any _ d _ (HV.out.ext HX.out)).mono ?_
    rintro e w' ⟨rfl, hx⟩
    replace HX := Lib.hid (HX.out.trans hx)
    clear hc hf hx
    obtain ⟨hc, hf⟩ := HX.out.cells
    rw [hcl]
    go_wp2_with fail
    refine (vlen_any _ d _ (HV.out.ext HX.out)).mono ?_
    rintro e w' ⟨rfl, hx⟩
    replace HX := Lib.hid (HX.out.trans hx)
    clear hc hf hx
    obtain ⟨hc, hf⟩ := HX.out.cells
    rw [hln]
    go_wp2_with fail
    refine (vtext_any _ l _ (by rw [← HD.out]; exact HV.out.ext HX.out)).mono ?_
    rintro e w' ⟨v', rfl, hown, hx⟩
    obtain ⟨B, cb, rfl, _, _⟩ := own_form hown
    replace HX := Lib.hid (HX.out.trans hx)
    have HT : Hid (Sl w' 1 B n (i32s l)) := Lib.hid (by rw [HN.out]; exact Sl.own hown)
    have HS' := Lib.hid (HS.out.ext (HE.out.trans HX.out))
    rw [← HN.out]
    clear hc hf hx hown
    obtain ⟨hc, hf⟩ := HX.out.cells
    go_wp2_with fail
    refine (runes_yes _ _ l n _ _ HN.out _ (by omega) HT.out HS'.out).mono ?_
    rintro e w' ⟨rfl, hx⟩
    replace HX := Lib.hid (HX.out.trans hx)
    clear hc hf hx HT HS'
    obtain ⟨hc, hf⟩ := HX.out.cells
    go_wp2_with fail
    refine (vchar_any _ d _ _ (HV.out.ext HX.out)).mono ?_
    rintro e w' ⟨rfl, hx⟩
    replace HX := Lib.hid (HX.out.trans hx)
    clear hc hf hx
    obtain ⟨hc, hf⟩ := HX.out.cells
    rw [hch]
    go_wp2_with fail
    refine (vnum_any _ d 0 _ (HV.out.ext HX.out)).mono ?_
    rintro e w' ⟨rfl, hx⟩
    replace HX := Lib.hid (HX.out.trans hx)
    clear hc hf hx
    obtain ⟨hc, hf⟩ := HX.out.cells
    rw [hnm]
    go_wp2_with fail
    refine (vnums_none _ d _ (HV.out.ext HX.out) HCL.out).mono ?_
    rintro e w' ⟨rfl, hx⟩
    replace HX := Lib.hid (HX.out.trans hx)
    clear hc hf hx
    obtain ⟨hc, hf⟩ := HX.out.cells
    go_wp2_with fail
    refine (vkind_any _ D _ (HU.out.ext HX.out)).mono ?_
    rintro e w' ⟨rfl, hx⟩
    replace HX := Lib.hid (HX.out.trans hx)
    clear hc hf hx
    obtain ⟨hc, hf⟩ := HX.out.cells
    rw [hDk]
    go_wp2_with fail
    refine (vlen_any _ D _ (HU.out.ext HX.out)).mono ?_
    rintro e w' ⟨rfl, hx⟩
    replace HX := Lib.hid (HX.out.trans hx)
    clear hc hf hx
    obtain ⟨hc, hf⟩ := HX.out.cells
    rw [hD0]
    go_wp2_with fail
    refine (awake_any _).mono ?_
    rintro e w' ⟨rfl, hx⟩
    replace HX := Lib.hid (HX.out.trans hx)
    clear hc hf hx
    obtain ⟨hc, hf⟩ := HX.out.cells
    go_wp2
    go_ret
    exact ⟨rfl, HE.out.trans HX.out⟩
theorem vecChars_walk (w : World) (A : Option Addr) (l : List Int) (c : Nat) (_ : l.length ≤ c) (_ : c ≤ maxLen) (hs : Sl w 1 A l.length (i32s l)) (_ : ∀ x ∈ l, (Lit.int .i32 x).wf = true) (i : Int) (_ : (Lit.int .i64 i).wf = true) (cl : Int) (_ : (Lit.int .i64 cl).wf = true) :
    Calls Try.prog 5 #[.slice A l.length c, .int .i64 i, .int .i64 cl] w fun e w' => e = .returned (.bool true) ∧ Ext w w' := by
  by_cases h5 : l.length ≤ 500
  · by_cases hi : 0 ≤ i ∧ i < (l.length : Int)
    · exact vecChars_in w A l c hs i cl h5 hi
    · by_cases h0 : 0 ≤ i
      · exact vecChars_far w A l c hs i cl h5 hi h0
      · exact vecChars_neg w A l c hs i cl h5 hi h0
  · clear hs
    go_enter Try.func5, Try.ntmps5
    go_wp2_with fail
    refine (awake_any _).mono ?_
    rintro e w1 ⟨rfl, hx⟩
    go_wp2
    go_ret
    exact ⟨rfl, hx⟩
end Go.Proofs.Ytmjikdkdccnbaaa
