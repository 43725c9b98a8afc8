/- BitvecTruth, for every input: the walk. -/
import Derived.Test.YtmjikdkdccnbaaaDoorPe
import Derived.Test.YtmjikdkdccnbaaaDoorPy
import Derived.Deep.AppendLies
namespace Go.Proofs.YtmjikdkdccnbaaaDoor
open Go.ChangeShapes Go.WideShapes Go.RowKit Bv

theorem notL_tab (l : List Bool) : notL l = tabL l.length fun i => !l.getD i false := tabL_of (notL_length l) fun _ hj => notL_getD l hj
theorem grown_any {a b : World} {r : Option Nat} (h : a.grownBy b r) {p : Addr} (hp : p.block < a.heap.size) (hne : r ≠ some p.block) : b.cell? p = a.cell? p :=
  World.cell?_of_block (h.block p.block hp (fun e => hne e.symm))
theorem ttL_tab (t : Nat) (x y : List Bool) : ttL t x y = tabL x.length fun i => ttb t (x.getD i false) (y.getD i false) := rfl
set_option maxHeartbeats 2000000
set_option maxRecDepth 100000 in
theorem truth_eq (w : World) (ht : Tab w) (t : Nat) (ht8 : t < 256) (A A' : Option Addr) (x y : List Bool) (c c' : Nat) (hc : x.length ≤ c) (hc' : y.length ≤ c') (hs : Sl w 1 A x.length (bools x)) (hs' : Sl w 1 A' y.length (bools y)) (hl : x.length ≤ 1000) (hl' : y.length ≤ 1000) (hxy : x.length = y.length) :
    Calls Tryd.prog 8 #[.int .u8 (t : Int), .slice A x.length c, .slice A' y.length c'] w fun e w' => e = .returned (.bool true) ∧ Ext w w' := by
  obtain ⟨i0, hi0, hz0, hz1, hz2⟩ := info_parts infoB
  have PX := Lib.hid (fun w1 h1 => pack_any A c x w1 (by omega) hc h1)
  have PY := Lib.hid (fun w1 h1 => pack_any A' c' y w1 (by omega) hc' h1)
  have HT := Lib.hid ht
  have HS := Lib.hid hs
  have HS' := Lib.hid hs'
  have HXY := Lib.hid hxy
  have HNL := Lib.hid (notL_tab x)
  obtain ⟨m, hm⟩ : ∃ m, x.length = m := ⟨_, rfl⟩
  obtain ⟨n, hn⟩ : ∃ n, y.length = n := ⟨_, rfl⟩
  have HM := Lib.hid hm
  have HN := Lib.hid hn
  rw [hm] at PX HS hl HNL ⊢
  rw [hn] at PY HS' hl' ⊢
  have hmn : m = n := by rw [← hm, ← hn]; exact hxy
  clear ht hs hs' hc hc' hm hn hxy
  subst hmn
  go_enter Tryd.func8, Tryd.ntmps8
  go_wp2_with fail
  refine (PX.out _ HS.out).mono ?_
  rintro e w1 ⟨v1, rfl, hb1, hx1⟩
  have HX1 := Lib.hid hx1
  go_wp2_with fail
  refine (PY.out _ (HS'.out.ext hx1)).mono ?_
  rintro e w2 ⟨v2, rfl, hb2, hx2⟩
  have HB1 := Lib.hid (hb1.is.ext hx2)
  have HB2 := Lib.hid hb2.is
  obtain ⟨_, g1, c1, rfl, -, -⟩ := hb1
  obtain ⟨_, g2, c2, rfl, -, -⟩ := hb2
  rw [HM.out] at HB1 ⊢
  rw [HN.out] at HB2 ⊢
  replace HX1 := Lib.hid (HX1.out.trans hx2)
  clear hx1 hx2 PX PY
  generalize wc m = mw at *

  have HE := Lib.hid ((HX1.out.alloc (.cells #[.slice (some ⟨g1, 0, none⟩) mw c1, .int .i64 (m : Int)] 26)).alloc (.cells #[.slice (some ⟨g2, 0, none⟩) mw c2, .int .i64 (m : Int)] 26))
  replace HB1 := Lib.hid (HB1.out.ext (((Ext.refl w2).alloc (.cells #[.slice (some ⟨g1, 0, none⟩) mw c1, .int .i64 (m : Int)] 26)).alloc (.cells #[.slice (some ⟨g2, 0, none⟩) mw c2, .int .i64 (m : Int)] 26)))
  replace HB2 := Lib.hid (HB2.out.ext (((Ext.refl w2).alloc (.cells #[.slice (some ⟨g1, 0, none⟩) mw c1, .int .i64 (m : Int)] 26)).alloc (.cells #[.slice (some ⟨g2, 0, none⟩) mw c2, .int .i64 (m : Int)] 26)))
  replace HT := Lib.hid (HT.out.ext HE.out)
  replace HS := Lib.hid (HS.out.ext HE.out)
  replace HS' := Lib.hid (HS'.out.ext HE.out)
  clear HX1
  go_wp2_with fail
  refine (truth_yes t ht8 _ _ x y _ HB1.out HB2.out HXY.out).mono ?_
  rintro e w3 ⟨v3, rfl, hb3, hx3⟩
  have HB3 := Lib.hid hb3.is
  obtain ⟨hl3, g3, c3, rfl, -, -⟩ := hb3
  have hl3 : (ttL t x y).length = m := by rw [show (ttL t x y).length = x.length from tabL_length _ _]; exact HM.out
  rw [hl3] at HB3 ⊢
  have HL3 := Lib.hid hl3
  generalize wc m = mw3 at *
  clear hl3
  have HY := Lib.hid ((HE.out.trans hx3).alloc (.cells #[.slice (some ⟨g3, 0, none⟩) mw3 c3, .int .i64 (m : Int)] 26))
  replace HB1 := Lib.hid ((HB1.out.ext hx3).ext ((Ext.refl w3).alloc (.cells #[.slice (some ⟨g3, 0, none⟩) mw3 c3, .int .i64 (m : Int)] 26)))
  replace HB2 := Lib.hid ((HB2.out.ext hx3).ext ((Ext.refl w3).alloc (.cells #[.slice (some ⟨g3, 0, none⟩) mw3 c3, .int .i64 (m : Int)] 26)))
  replace HT := Lib.hid ((HT.out.ext hx3).ext ((Ext.refl w3).alloc (.cells #[.slice (some ⟨g3, 0, none⟩) mw3 c3, .int .i64 (m : Int)] 26)))
  replace HS := Lib.hid ((HS.out.ext hx3).ext ((Ext.refl w3).alloc (.cells #[.slice (some ⟨g3, 0, none⟩) mw3 c3, .int .i64 (m : Int)] 26)))
  replace HS' := Lib.hid ((HS'.out.ext hx3).ext ((Ext.refl w3).alloc (.cells #[.slice (some ⟨g3, 0, none⟩) mw3 c3, .int .i64 (m : Int)] 26)))
  replace HB3 := Lib.hid (HB3.out.ext ((Ext.refl w3).alloc (.cells #[.slice (some ⟨g3, 0, none⟩) mw3 c3, .int .i64 (m : Int)] 26)))
  have b1 : (w3.alloc (.cells #[.slice (some ⟨g3, 0, none⟩) mw3 c3, .int .i64 (m : Int)] 26)).cell? ⟨w2.heap.size, 0, none⟩ = some (.slice (some ⟨g1, 0, none⟩) mw c1) := cell_ext' ((hx3).alloc _) (cell_ext' ((Ext.refl _).alloc _) (World.cell?_alloc_new w2 _ _ 0))
  have b1' : (w3.alloc (.cells #[.slice (some ⟨g3, 0, none⟩) mw3 c3, .int .i64 (m : Int)] 26)).cell? ⟨w2.heap.size, 1, none⟩ = some (.int .i64 (m : Int)) := cell_ext' ((hx3).alloc _) (cell_ext' ((Ext.refl _).alloc _) (World.cell?_alloc_new w2 _ _ 1))
  have b2 : (w3.alloc (.cells #[.slice (some ⟨g3, 0, none⟩) mw3 c3, .int .i64 (m : Int)] 26)).cell? ⟨w2.heap.size + 1, 0, none⟩ = some (.slice (some ⟨g2, 0, none⟩) mw c2) := cell_ext' ((hx3).alloc _) (alloc_at (w := w2.alloc _) (by simp) 0)
  have b2' : (w3.alloc (.cells #[.slice (some ⟨g3, 0, none⟩) mw3 c3, .int .i64 (m : Int)] 26)).cell? ⟨w2.heap.size + 1, 1, none⟩ = some (.int .i64 (m : Int)) := cell_ext' ((hx3).alloc _) (alloc_at (w := w2.alloc _) (by simp) 1)
  have b3 : (w3.alloc (.cells #[.slice (some ⟨g3, 0, none⟩) mw3 c3, .int .i64 (m : Int)] 26)).cell? ⟨w3.heap.size, 0, none⟩ = some (#[.slice (some ⟨g3, 0, none⟩) mw3 c3, .int .i64 (m : Int)].getD 0 undef) := World.cell?_alloc_new w3 _ _ 0
  have b3' : (w3.alloc (.cells #[.slice (some ⟨g3, 0, none⟩) mw3 c3, .int .i64 (m : Int)] 26)).cell? ⟨w3.heap.size, 1, none⟩ = some (#[.slice (some ⟨g3, 0, none⟩) mw3 c3, .int .i64 (m : Int)].getD 1 undef) := World.cell?_alloc_new w3 _ _ 1
  obtain ⟨W3, hW3⟩ : ∃ W3, w3.alloc (.cells #[.slice (some ⟨g3, 0, none⟩) mw3 c3, .int .i64 (m : Int)] 26) = W3 := ⟨_, rfl⟩
  rw [hW3] at HY HB1 HB2 HT HS HS' HB3 b1 b1' b2 b2' b3 b3'
  have HBS := Lib.hid (And.intro (And.intro b1 b1') (And.intro (And.intro b2 b2') (And.intro b3 b3')))
  have HW3 := Lib.hid (show Ext W3 (w3.alloc (.cells #[.slice (some ⟨g3, 0, none⟩) mw3 c3, .int .i64 (m : Int)] 26)) by rw [hW3]; exact Ext.refl _)
  clear b1 b1' b2 b2' b3 b3' hx3 hW3 HE
  go_wp2_with fail
  go_loopw [11, 13] (fun o i wr => ∃ k : Nat, k ≤ m ∧ i = .int .i64 k ∧ wr.ownsRow W3.heap.size 4 1 o k (bools (tabL k fun i => !x.getD i false)) ∧ Ext W3 wr) (fun _ i _ => m - (intOf i).toNat)
  case atStart => exact ⟨0, Nat.zero_le _, rfl, own_nil _ _ _ _, HW3.out⟩
  case round =>
    obtain ⟨k, hk, rfl, hown, hx⟩ := hrel
    have HO := Lib.hid hown
    have HX := Lib.hid hx
    clear hown hx
    by_cases hlt : k < m
    · obtain ⟨a, u, rfl, hab, hu, hcell⟩ := HS.out.at1 hlt
      rw [bools_get (by rw [HM.out]; exact hlt)] at hu
      cases hu
      have L0 : wr.cell? (a.add k) = some (.bool (x.getD k false)) := cell_ext' HX.out hcell
      have HP := Lib.hid (tabL_succ k (fun i => !x.getD i false))
      generalize bools (tabL k fun i => !x.getD i false) = xs at *
      have HP2 : Hid (xs ++ [.bool (!x.getD k false)] = bools (tabL (k + 1) fun i => !x.getD i false)) := HP.out
      clear HP hcell hab
      generalize x.getD k false = d at *
      have HW : Hid (∀ o, (wr.alloc o).ownsRow W3.heap.size 4 1 u11 k xs) := fun o => own_ext HO.out ((Ext.refl _).alloc _)
      have HR : Hid (∀ b, Sl (wr.alloc (.cells #[.bool b] 4)) 1 (some ⟨wr.heap.size, 0, none⟩) 1 [.bool b]) := fun b => sl_built wr #[.bool b] 4
      have h1' : ∀ b, ∀ u ∈ [Value.bool b], u.oneCell' = true := by intro b u hu; simp at hu; subst hu; rfl
      have hbase : ∀ o, W3.heap.size ≤ (wr.alloc o).heap.size := fun o => by have := HX.out.size; simp; omega
      have hlim : k + 1 ≤ 1099511627776 := by omega
      go_wp2_with (at_builtin; refine wpList_append_sl _ rfl _ _ 22 rfl W3.heap.size 4 i0 (.bool false) 1 1 Tryd.underlying22 hi0 hz0 hz1 hz2 rfl (by omega) _ k _ rfl (HW.out _) (some ⟨wr.heap.size, 0, none⟩) 1 1 [.bool _] rfl (HR.out _) (h1' _) hlim (by omega) (hbase _) ?_; intro v' w4 hown hbel)
      refine ⟨⟨k + 1, by omega, by go_num, by rw [← HP2.out]; exact hown, ?_⟩, by simp [intOf]; omega⟩
      exact (HX.out.alloc _).trans' hbel
    · have hkm : k = m := by omega
      subst hkm
      obtain ⟨A1, cc, rfl, -, -⟩ := own_form HO.out
      have HS1 := Lib.hid (Sl.own HO.out)
      rw [← HNL.out] at HS1
      have HZ := Lib.hid (Ext.refl wr)
      have d1 := cell_ext' HX.out HBS.out.1.1
      have d1' := cell_ext' HX.out HBS.out.1.2
      have d2 := cell_ext' HX.out HBS.out.2.1.1
      have d2' := cell_ext' HX.out HBS.out.2.1.2
      have d3 := cell_ext' HX.out HBS.out.2.2.1
      have d3' := cell_ext' HX.out HBS.out.2.2.2
      simp only [Array.getD, List.size_toArray, List.length_cons, List.length_nil] at d3 d3'
      have HD := Lib.hid (And.intro (And.intro d1 d1') (And.intro (And.intro d2 d2') (And.intro d3 d3')))
      replace HY := Lib.hid (HY.out.trans HX.out)
      replace HB1 := Lib.hid (HB1.out.ext HX.out)
      replace HB2 := Lib.hid (HB2.out.ext HX.out)
      replace HB3 := Lib.hid (HB3.out.ext HX.out)
      replace HT := Lib.hid (HT.out.ext HX.out)
      replace HS := Lib.hid (HS.out.ext HX.out)
      replace HS' := Lib.hid (HS'.out.ext HX.out)
      clear HX HO HW3 HBS HNL
      have hnot := notL_length x
      rw [HM.out] at hnot
      have HNOT := Lib.hid hnot
      clear hnot
      go_wp2_with fail
      refine (not_any _ x _ (HB1.out.ext HZ.out)).mono ?_
      rintro e w5 ⟨v5, rfl, hb5, hx⟩
      replace HZ := Lib.hid (HZ.out.trans hx)
      have sh := shows_any v5 (notL x) A1 cc w5 hb5.is (by rw [HNOT.out]; exact HS1.out.ext HZ.out)
      rw [HNOT.out] at sh
      obtain ⟨_, g5, c5, h5, -, -⟩ := hb5
      rw [HNOT.out] at h5
      subst h5
      have SH := Lib.hid sh
      clear d1 d1' d2 d2' d3 d3' hx sh
      go_wp2_with fail
      refine SH.out.mono ?_
      rintro e w6 ⟨rfl, hx⟩
      replace HZ := Lib.hid (HZ.out.trans hx)
      clear hx SH
      have d1 := cell_ext' HZ.out HD.out.1.1
      have d1' := cell_ext' HZ.out HD.out.1.2
      have d2 := cell_ext' HZ.out HD.out.2.1.1
      have d2' := cell_ext' HZ.out HD.out.2.1.2
      go_wp2_with fail
      refine (beq_any _ _ x y _ (HB1.out.ext HZ.out) (HB2.out.ext HZ.out)).mono ?_
      rintro e w7 ⟨rfl, hx⟩
      replace HZ := Lib.hid (HZ.out.trans hx)
      clear d1 d1' d2 d2' hx
      obtain ⟨dd, hdd⟩ : ∃ dd, decide (x = y) = dd := ⟨_, rfl⟩
      have qb := qbools_any A A' x y k k c c' HM.out.symm HN.out.symm w7 (by omega) (HS.out.ext HZ.out) (HS'.out.ext HZ.out)
      rw [hdd] at qb ⊢
      have QB := Lib.hid qb
      clear qb hdd
      go_wp2_with fail
      refine QB.out.mono ?_
      rintro e w8 ⟨rfl, hx⟩
      replace HZ := Lib.hid (HZ.out.trans (Ext.of_drewN' hx))
      clear hx QB
      have hdd : (dd != dd) = false := by cases dd <;> rfl
      have d3 := cell_ext' HZ.out HD.out.2.2.1
      have d3' := cell_ext' HZ.out HD.out.2.2.2
      go_wp2_with fail
      go_loopw [12, 14] (fun o i wr => ∃ j : Nat, j ≤ k ∧ i = .int .i64 j ∧ wr.ownsRow w8.heap.size 4 1 o j (bools (tabL j fun i => ttb t (x.getD i false) (y.getD i false))) ∧ Ext w8 wr) (fun _ i _ => k - (intOf i).toNat)
      case atStart => exact ⟨0, Nat.zero_le _, rfl, own_nil _ _ _ _, Ext.refl _⟩
      case round =>
        obtain ⟨j, hj, rfl, hown, hx⟩ := hrel
        have HO := Lib.hid hown
        have HX := Lib.hid hx
        clear hown hx d3 d3'
        by_cases hlt2 : j < k
        · obtain ⟨a, u, rfl, hab, hu, hcell⟩ := HS.out.at1 hlt2
          rw [bools_get (by rw [HM.out]; exact hlt2)] at hu
          cases hu
          obtain ⟨a', u', rfl, hab', hu', hcell'⟩ := HS'.out.at1 hlt2
          rw [bools_get (by rw [HN.out]; exact hlt2)] at hu'
          cases hu'
          have hz := HZ.out.size
          have hzx := HX.out.size
          have L0 : wr.cell? (a.add j) = some (.bool (x.getD j false)) := cell_ext' (HZ.out.trans HX.out) hcell
          have L1 : wr.cell? (a'.add j) = some (.bool (y.getD j false)) := cell_ext' (HZ.out.trans HX.out) hcell'
          have ag : u12.ownBlock ≠ some a.block := fun e => by have := (HO.out.lt _ e).1; omega
          have ag' : u12.ownBlock ≠ some a'.block := fun e => by have := (HO.out.lt _ e).1; omega
          have HP := Lib.hid (tabL_succ j (fun i => ttb t (x.getD i false) (y.getD i false)))
          generalize bools (tabL j fun i => ttb t (x.getD i false) (y.getD i false)) = xs at *
          have HP2 : Hid (xs ++ [.bool (ttb t (x.getD j false) (y.getD j false))] = bools (tabL (j + 1) fun i => ttb t (x.getD i false) (y.getD i false))) := HP.out
          clear HP hcell hcell'
          generalize x.getD j false = d at *
          generalize y.getD j false = d' at *
          have hbt : ttb t d d' = t.testBit (2 * d.toNat + d'.toNat) := rfl
          have HBT := Lib.hid hbt
          clear hbt
          have L0b : (a.add j).block < wr.heap.size := World.block_lt_of_cell? _ _ L0
          have L1b : (a'.add j).block < wr.heap.size := World.block_lt_of_cell? _ _ L1
          have hblk := addr_block a j
          have hblk' := addr_block a' j
          have HL01 := Lib.hid (And.intro (And.intro L0 L1) (And.intro (And.intro L0b L1b) (And.intro hblk hblk')))
          have HAG := Lib.hid (And.intro ag ag')
          have hlim : j + 1 ≤ maxLen := by simp only [maxLen]; omega
          have HLIM := Lib.hid hlim
          have j0 : (0 : Int) ≤ (j : Int) := by omega
          have j1 : (j : Int) < (k : Int) := by omega
          clear L0b L1b hblk hblk' ag ag' hlim hab hab' hz hzx
          have HOW : Hid (∀ o, ((wr.alloc o).drew).ownsRow w8.heap.size 4 1 u12 j xs) := fun o => own_ext HO.out (((Ext.refl _).alloc _).drew)
          go_wp2_with fail
          go_region_held3 (fun w' => w'.cell? (a.add j) = some (.bool d) ∧ w'.cell? (a'.add j) = some (.bool d'))
            ((first
              | exact ⟨HL01.out.1.1, HL01.out.1.2⟩
              | exact ⟨cell_ext' (((Ext.refl wr).alloc _).drew) HL01.out.1.1, cell_ext' (((Ext.refl wr).alloc _).drew) HL01.out.1.2⟩
              | exact ⟨(grown_any hgrow (by simp; have := HL01.out.2.1.1; omega) (by rw [HL01.out.2.2.1]; exact HAG.out.1)).trans (cell_ext' (((Ext.refl wr).alloc _).drew) HL01.out.1.1), (grown_any hgrow (by simp; have := HL01.out.2.1.2; omega) (by rw [HL01.out.2.2.2]; exact HAG.out.2)).trans (cell_ext' (((Ext.refl wr).alloc _).drew) HL01.out.1.2)⟩
              | go_keep))
            (first
              | (go_at_call 30; refine (rtruth_any t d d' _ ht8).mono ?_; rintro e w' ⟨rfl, rfl⟩)
              | (refine step_append_lies _ (by rfl) _ _ _ (by rfl) w8.heap.size 4 i0 _ 1 1 Tryd.underlying22 hi0 hz0 hz1 hz2 rfl (by omega) u12 j xs (by rfl) (HOW.out _) ⟨wr.heap.size, 0, none⟩ 1 1 [.bool (t.testBit (2 * d.toNat + d'.toNat))] (by rfl) (by rfl) (World.news_of_block (cs := #[.bool (t.testBit (2 * d.toNat + d'.toNat))]) (t := 4) (fr := (0, 0)) (heap_alloc_new wr _)) (by simp [Value.oneCell']) (by omega) HLIM.out (by omega) (by have := HX.out.size; simp; omega) (wr.heap.size + 1) (by simp) ?_; intro gg cap w9 hown1 hgrow hat hlt9))
          go_wp2
          refine ⟨⟨j + 1, by omega, by go_num, ?_, ?_⟩, by simp [intOf]; omega⟩
          · rw [← HP2.out, HBT.out]; exact hown1
          · exact ((HX.out.alloc _).drew).trans' ((Below.refl _ _).grown hgrow (by have := HX.out.size; simp; omega) (fun z hz => (HO.out.lt z hz).1))
        · have hjk : j = k := by omega
          subst hjk
          obtain ⟨A12, cc12, rfl, -, -⟩ := own_form HO.out
          have HW12 := Lib.hid (show Sl wr 1 (A12) j (bools (ttL t x y)) by have h := Sl.own HO.out; rw [ttL_tab, HM.out]; exact h)
          replace HZ := Lib.hid (HZ.out.trans HX.out)
          have d3 := cell_ext' HZ.out HD.out.2.2.1
          have d3' := cell_ext' HZ.out HD.out.2.2.2
          have sh := shows_any _ (ttL t x y) A12 cc12 wr (HB3.out.ext HZ.out) (by rw [HL3.out]; exact HW12.out)
          rw [HL3.out] at sh
          have SH := Lib.hid sh
          clear sh HO
          go_wp2_with fail
          refine SH.out.mono ?_
          rintro e w9 ⟨rfl, hx⟩
          replace HZ := Lib.hid (HZ.out.trans hx)
          clear hx SH d3 d3'
          go_wp2_with fail
          refine (awake_any _ (HT.out.ext HZ.out)).mono ?_
          rintro e w10 ⟨rfl, hx⟩
          replace HZ := Lib.hid (HZ.out.trans hx)
          clear hx
          go_wp2
          go_ret
          exact ⟨rfl, HY.out.trans HZ.out⟩
set_option maxRecDepth 100000 in
theorem truth_ne (w : World) (ht : Tab w) (t : Nat) (A A' : Option Addr) (x y : List Bool) (c c' : Nat) (hc : x.length ≤ c) (hc' : y.length ≤ c') (hs : Sl w 1 A x.length (bools x)) (hs' : Sl w 1 A' y.length (bools y)) (hl : x.length ≤ 1000) (hl' : y.length ≤ 1000) (hxy : x.length ≠ y.length) :
    Calls Tryd.prog 8 #[.int .u8 (t : Int), .slice A x.length c, .slice A' y.length c'] w fun e w' => e = .returned (.bool true) ∧ Ext w w' := by
  obtain ⟨i0, hi0, hz0, hz1, hz2⟩ := info_parts infoB
  have PX := Lib.hid (fun w1 h1 => pack_any A c x w1 (by omega) hc h1)
  have PY := Lib.hid (fun w1 h1 => pack_any A' c' y w1 (by omega) hc' h1)
  have HT := Lib.hid ht
  have HS := Lib.hid hs
  have HS' := Lib.hid hs'
  have HXY := Lib.hid hxy
  have HNL := Lib.hid (notL_tab x)
  obtain ⟨m, hm⟩ : ∃ m, x.length = m := ⟨_, rfl⟩
  obtain ⟨n, hn⟩ : ∃ n, y.length = n := ⟨_, rfl⟩
  have HM := Lib.hid hm
  have HN := Lib.hid hn
  rw [hm] at PX HS hl HNL ⊢
  rw [hn] at PY HS' hl' ⊢
  have hmn : m ≠ n := by rw [← hm, ← hn]; exact hxy
  clear ht hs hs' hc hc' hm hn hxy
  go_enter Tryd.func8, Tryd.ntmps8
  go_wp2_with fail
  refine (PX.out _ HS.out).mono ?_
  rintro e w1 ⟨v1, rfl, hb1, hx1⟩
  have HX1 := Lib.hid hx1
  go_wp2_with fail
  refine (PY.out _ (HS'.out.ext hx1)).mono ?_
  rintro e w2 ⟨v2, rfl, hb2, hx2⟩
  have HB1 := Lib.hid (hb1.is.ext hx2)
  have HB2 := Lib.hid hb2.is
  obtain ⟨_, g1, c1, rfl, -, -⟩ := hb1
  obtain ⟨_, g2, c2, rfl, -, -⟩ := hb2
  rw [HM.out] at HB1 ⊢
  rw [HN.out] at HB2 ⊢
  replace HX1 := Lib.hid (HX1.out.trans hx2)
  clear hx1 hx2 PX PY
  generalize wc m = mw at *
  try generalize wc n = nw at *
  have HE := Lib.hid ((HX1.out.alloc (.cells #[.slice (some ⟨g1, 0, none⟩) mw c1, .int .i64 (m : Int)] 26)).alloc (.cells #[.slice (some ⟨g2, 0, none⟩) nw c2, .int .i64 (n : Int)] 26))
  replace HB1 := Lib.hid (HB1.out.ext (((Ext.refl w2).alloc (.cells #[.slice (some ⟨g1, 0, none⟩) mw c1, .int .i64 (m : Int)] 26)).alloc (.cells #[.slice (some ⟨g2, 0, none⟩) nw c2, .int .i64 (n : Int)] 26)))
  replace HB2 := Lib.hid (HB2.out.ext (((Ext.refl w2).alloc (.cells #[.slice (some ⟨g1, 0, none⟩) mw c1, .int .i64 (m : Int)] 26)).alloc (.cells #[.slice (some ⟨g2, 0, none⟩) nw c2, .int .i64 (n : Int)] 26)))
  replace HT := Lib.hid (HT.out.ext HE.out)
  replace HS := Lib.hid (HS.out.ext HE.out)
  replace HS' := Lib.hid (HS'.out.ext HE.out)
  clear HX1
  go_wp2_with fail
  refine (truth_not t _ _ x y _ HB1.out HB2.out HXY.out).mono ?_
  rintro e w3 ⟨rfl, hx3⟩
  have HB3 := Lib.hid (IsB.nil w3)
  have HY := Lib.hid ((HE.out.trans hx3).alloc (.cells #[.slice none 0 0, .int .i64 0] 26))
  replace HB1 := Lib.hid ((HB1.out.ext hx3).ext ((Ext.refl w3).alloc (.cells #[.slice none 0 0, .int .i64 0] 26)))
  replace HB2 := Lib.hid ((HB2.out.ext hx3).ext ((Ext.refl w3).alloc (.cells #[.slice none 0 0, .int .i64 0] 26)))
  replace HT := Lib.hid ((HT.out.ext hx3).ext ((Ext.refl w3).alloc (.cells #[.slice none 0 0, .int .i64 0] 26)))
  replace HS := Lib.hid ((HS.out.ext hx3).ext ((Ext.refl w3).alloc (.cells #[.slice none 0 0, .int .i64 0] 26)))
  replace HS' := Lib.hid ((HS'.out.ext hx3).ext ((Ext.refl w3).alloc (.cells #[.slice none 0 0, .int .i64 0] 26)))
  replace HB3 := Lib.hid (HB3.out.ext ((Ext.refl w3).alloc (.cells #[.slice none 0 0, .int .i64 0] 26)))
  have b1 : (w3.alloc (.cells #[.slice none 0 0, .int .i64 0] 26)).cell? ⟨w2.heap.size, 0, none⟩ = some (.slice (some ⟨g1, 0, none⟩) mw c1) := cell_ext' ((hx3).alloc _) (cell_ext' ((Ext.refl _).alloc _) (World.cell?_alloc_new w2 _ _ 0))
  have b1' : (w3.alloc (.cells #[.slice none 0 0, .int .i64 0] 26)).cell? ⟨w2.heap.size, 1, none⟩ = some (.int .i64 (m : Int)) := cell_ext' ((hx3).alloc _) (cell_ext' ((Ext.refl _).alloc _) (World.cell?_alloc_new w2 _ _ 1))
  have b2 : (w3.alloc (.cells #[.slice none 0 0, .int .i64 0] 26)).cell? ⟨w2.heap.size + 1, 0, none⟩ = some (.slice (some ⟨g2, 0, none⟩) nw c2) := cell_ext' ((hx3).alloc _) (alloc_at (w := w2.alloc _) (by simp) 0)
  have b2' : (w3.alloc (.cells #[.slice none 0 0, .int .i64 0] 26)).cell? ⟨w2.heap.size + 1, 1, none⟩ = some (.int .i64 (n : Int)) := cell_ext' ((hx3).alloc _) (alloc_at (w := w2.alloc _) (by simp) 1)
  have b3 : (w3.alloc (.cells #[.slice none 0 0, .int .i64 0] 26)).cell? ⟨w3.heap.size, 0, none⟩ = some (#[.slice none 0 0, .int .i64 0].getD 0 undef) := World.cell?_alloc_new w3 _ _ 0
  have b3' : (w3.alloc (.cells #[.slice none 0 0, .int .i64 0] 26)).cell? ⟨w3.heap.size, 1, none⟩ = some (#[.slice none 0 0, .int .i64 0].getD 1 undef) := World.cell?_alloc_new w3 _ _ 1
  obtain ⟨W3, hW3⟩ : ∃ W3, w3.alloc (.cells #[.slice none 0 0, .int .i64 0] 26) = W3 := ⟨_, rfl⟩
  rw [hW3] at HY HB1 HB2 HT HS HS' HB3 b1 b1' b2 b2' b3 b3'
  have HBS := Lib.hid (And.intro (And.intro b1 b1') (And.intro (And.intro b2 b2') (And.intro b3 b3')))
  have HW3 := Lib.hid (show Ext W3 (w3.alloc (.cells #[.slice none 0 0, .int .i64 0] 26)) by rw [hW3]; exact Ext.refl _)
  clear b1 b1' b2 b2' b3 b3' hx3 hW3 HE
  go_wp2_with fail
  go_loopw [11, 13] (fun o i wr => ∃ k : Nat, k ≤ m ∧ i = .int .i64 k ∧ wr.ownsRow W3.heap.size 4 1 o k (bools (tabL k fun i => !x.getD i false)) ∧ Ext W3 wr) (fun _ i _ => m - (intOf i).toNat)
  case atStart => exact ⟨0, Nat.zero_le _, rfl, own_nil _ _ _ _, HW3.out⟩
  case round =>
    obtain ⟨k, hk, rfl, hown, hx⟩ := hrel
    have HO := Lib.hid hown
    have HX := Lib.hid hx
    clear hown hx
    by_cases hlt : k < m
    · obtain ⟨a, u, rfl, hab, hu, hcell⟩ := HS.out.at1 hlt
      rw [bools_get (by rw [HM.out]; exact hlt)] at hu
      cases hu
      have L0 : wr.cell? (a.add k) = some (.bool (x.getD k false)) := cell_ext' HX.out hcell
      have HP := Lib.hid (tabL_succ k (fun i => !x.getD i false))
      generalize bools (tabL k fun i => !x.getD i false) = xs at *
      have HP2 : Hid (xs ++ [.bool (!x.getD k false)] = bools (tabL (k + 1) fun i => !x.getD i false)) := HP.out
      clear HP hcell hab
      generalize x.getD k false = d at *
      have HW : Hid (∀ o, (wr.alloc o).ownsRow W3.heap.size 4 1 u11 k xs) := fun o => own_ext HO.out ((Ext.refl _).alloc _)
      have HR : Hid (∀ b, Sl (wr.alloc (.cells #[.bool b] 4)) 1 (some ⟨wr.heap.size, 0, none⟩) 1 [.bool b]) := fun b => sl_built wr #[.bool b] 4
      have h1' : ∀ b, ∀ u ∈ [Value.bool b], u.oneCell' = true := by intro b u hu; simp at hu; subst hu; rfl
      have hbase : ∀ o, W3.heap.size ≤ (wr.alloc o).heap.size := fun o => by have := HX.out.size; simp; omega
      have hlim : k + 1 ≤ 1099511627776 := by omega
      go_wp2_with (at_builtin; refine wpList_append_sl _ rfl _ _ 22 rfl W3.heap.size 4 i0 (.bool false) 1 1 Tryd.underlying22 hi0 hz0 hz1 hz2 rfl (by omega) _ k _ rfl (HW.out _) (some ⟨wr.heap.size, 0, none⟩) 1 1 [.bool _] rfl (HR.out _) (h1' _) hlim (by omega) (hbase _) ?_; intro v' w4 hown hbel)
      refine ⟨⟨k + 1, by omega, by go_num, by rw [← HP2.out]; exact hown, ?_⟩, by simp [intOf]; omega⟩
      exact (HX.out.alloc _).trans' hbel
    · have hkm : k = m := by omega
      subst hkm
      obtain ⟨A1, cc, rfl, -, -⟩ := own_form HO.out
      have HS1 := Lib.hid (Sl.own HO.out)
      rw [← HNL.out] at HS1
      have HZ := Lib.hid (Ext.refl wr)
      have d1 := cell_ext' HX.out HBS.out.1.1
      have d1' := cell_ext' HX.out HBS.out.1.2
      have d2 := cell_ext' HX.out HBS.out.2.1.1
      have d2' := cell_ext' HX.out HBS.out.2.1.2
      have d3 := cell_ext' HX.out HBS.out.2.2.1
      have d3' := cell_ext' HX.out HBS.out.2.2.2
      simp only [Array.getD, List.size_toArray, List.length_cons, List.length_nil] at d3 d3'
      have HD := Lib.hid (And.intro (And.intro d1 d1') (And.intro (And.intro d2 d2') (And.intro d3 d3')))
      replace HY := Lib.hid (HY.out.trans HX.out)
      replace HB1 := Lib.hid (HB1.out.ext HX.out)
      replace HB2 := Lib.hid (HB2.out.ext HX.out)
      replace HB3 := Lib.hid (HB3.out.ext HX.out)
      replace HT := Lib.hid (HT.out.ext HX.out)
      replace HS := Lib.hid (HS.out.ext HX.out)
      replace HS' := Lib.hid (HS'.out.ext HX.out)
      clear HX HO HW3 HBS HNL
      have hnot := notL_length x
      rw [HM.out] at hnot
      have HNOT := Lib.hid hnot
      clear hnot
      go_wp2_with fail
      refine (not_any _ x _ (HB1.out.ext HZ.out)).mono ?_
      rintro e w5 ⟨v5, rfl, hb5, hx⟩
      replace HZ := Lib.hid (HZ.out.trans hx)
      have sh := shows_any v5 (notL x) A1 cc w5 hb5.is (by rw [HNOT.out]; exact HS1.out.ext HZ.out)
      rw [HNOT.out] at sh
      obtain ⟨_, g5, c5, h5, -, -⟩ := hb5
      rw [HNOT.out] at h5
      subst h5
      have SH := Lib.hid sh
      clear d1 d1' d2 d2' d3 d3' hx sh
      go_wp2_with fail
      refine SH.out.mono ?_
      rintro e w6 ⟨rfl, hx⟩
      replace HZ := Lib.hid (HZ.out.trans hx)
      clear hx SH
      have d1 := cell_ext' HZ.out HD.out.1.1
      have d1' := cell_ext' HZ.out HD.out.1.2
      have d2 := cell_ext' HZ.out HD.out.2.1.1
      have d2' := cell_ext' HZ.out HD.out.2.1.2
      go_wp2_with fail
      refine (beq_any _ _ x y _ (HB1.out.ext HZ.out) (HB2.out.ext HZ.out)).mono ?_
      rintro e w7 ⟨rfl, hx⟩
      replace HZ := Lib.hid (HZ.out.trans hx)
      clear d1 d1' d2 d2' hx
      obtain ⟨dd, hdd⟩ : ∃ dd, decide (x = y) = dd := ⟨_, rfl⟩
      have qb := qbools_any A A' x y k n c c' HM.out.symm HN.out.symm w7 (by omega) (HS.out.ext HZ.out) (HS'.out.ext HZ.out)
      rw [hdd] at qb ⊢
      have QB := Lib.hid qb
      clear qb hdd
      go_wp2_with fail
      refine QB.out.mono ?_
      rintro e w8 ⟨rfl, hx⟩
      replace HZ := Lib.hid (HZ.out.trans (Ext.of_drewN' hx))
      clear hx QB
      have hdd : (dd != dd) = false := by cases dd <;> rfl
      have d3 := cell_ext' HZ.out HD.out.2.2.1
      have d3' := cell_ext' HZ.out HD.out.2.2.2
      go_wp2_with fail
      refine (blen_any _ [] _ (HB3.out.ext HZ.out)).mono ?_
      rintro e w9 ⟨rfl, hx⟩
      replace HZ := Lib.hid (HZ.out.trans hx)
      clear hx d3 d3'
      rw [show ((([] : List Bool).length : Nat) : Int) = 0 from rfl]
      go_wp2_with fail
      refine (awake_any _ (HT.out.ext HZ.out)).mono ?_
      rintro e w10 ⟨rfl, hx⟩
      replace HZ := Lib.hid (HZ.out.trans hx)
      clear hx
      go_wp2
      go_ret
      exact ⟨rfl, HY.out.trans HZ.out⟩

theorem bitvecTruth_walk (w : World) (ht : Tab w) (t : Int) (ht8 : (Lit.int .u8 t).wf = true) (A : Option Addr) (x : List Bool) (c : Nat) (hc : x.length ≤ c) (_ : c ≤ maxLen) (hs : Sl w 1 A x.length (bools x)) (_ : ∀ z ∈ x, True) (A' : Option Addr) (y : List Bool) (c' : Nat) (hc' : y.length ≤ c') (_ : c' ≤ maxLen) (hs' : Sl w 1 A' y.length (bools y)) (_ : ∀ z ∈ y, True) :
    Calls Tryd.prog 8 #[.int .u8 t, .slice A x.length c, .slice A' y.length c'] w fun e w' => e = .returned (.bool true) ∧ Ext w w' := by
  have ht' : 0 ≤ t ∧ t < 256 := by
    simp [Lit.wf, IntKind.min, IntKind.max, IntKind.signed, IntKind.bits] at ht8
    omega
  obtain ⟨t, rfl⟩ := Int.eq_ofNat_of_zero_le ht'.1
  by_cases h1 : x.length ≤ 1000
  · by_cases h2 : y.length ≤ 1000
    · by_cases h : x.length = y.length
      · exact truth_eq w ht t (by omega) A A' x y c c' hc hc' hs hs' h1 h2 h
      · exact truth_ne w ht t A A' x y c c' hc hc' hs hs' h1 h2 h
    · have ct := awake_any w ht
      clear hs hs' ht hc hc' ht8 ht'
      generalize x.length = m at *
      generalize y.length = n at *
      go_enter Tryd.func8, Tryd.ntmps8
      go_wp2_with fail
      refine ct.mono ?_
      rintro e w1 ⟨rfl, hx⟩
      go_wp2
      go_ret
      exact ⟨rfl, hx⟩
  · have ct := awake_any w ht
    clear hs hs' ht hc hc' ht8 ht'
    generalize x.length = m at *
    generalize y.length = n at *
    go_enter Tryd.func8, Tryd.ntmps8
    go_wp2_with fail
    refine ct.mono ?_
    rintro e w1 ⟨rfl, hx⟩
    go_wp2
    go_ret
    exact ⟨rfl, hx⟩
end Go.Proofs.YtmjikdkdccnbaaaDoor
