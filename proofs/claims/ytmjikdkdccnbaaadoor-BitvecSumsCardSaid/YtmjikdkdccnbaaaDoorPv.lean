/- Contracts of bitvec: Make of truths, Fill. -/
import Derived.Test.YtmjikdkdccnbaaaDoorPs
namespace Go.Proofs.YtmjikdkdccnbaaaDoor
open Go.RowKit Bv

namespace Bv
/-- words being changed from the first on -/
def mixN (f g : Nat → Nat) (m k : Nat) : List Nat := (List.range m).map fun i => if i < k then f i else g i
theorem mixN_length (f g : Nat → Nat) (m k : Nat) : (mixN f g m k).length = m := by simp [mixN]
theorem mixN_get (f g : Nat → Nat) {m k : Nat} (h : k < m) : (u64s (mixN f g m k))[k]? = some (.int .u64 ((g k : Nat) : Int)) := by
  refine u64s_get ?_
  simp [mixN, h]
theorem mixN_set (f g : Nat → Nat) (m k : Nat) : (u64s (mixN f g m k)).set k (.int .u64 ((f k : Nat) : Int)) = u64s (mixN f g m (k + 1)) := by
  have e : (u64s (mixN f g m k)).set k (.int .u64 ((f k : Nat) : Int)) = u64s ((mixN f g m k).set k (f k)) := by simp [u64s]
  rw [e]
  congr 1
  apply List.ext_getElem
  · simp [mixN]
  · intro j h1 h2
    rw [List.getElem_set]
    simp only [mixN, List.getElem_map, List.getElem_range]
    by_cases hj : k = j
    · subst hj; rw [if_pos rfl, if_pos (by omega)]
    · rw [if_neg hj]
      by_cases hjk : j < k
      · rw [if_pos hjk, if_pos (by omega)]
      · rw [if_neg hjk, if_neg (by omega)]
theorem mixN_same (f g : Nat → Nat) {m k : Nat} (e : f k = g k) : mixN f g m (k + 1) = mixN f g m k := by
  unfold mixN
  refine List.map_congr_left fun i _ => ?_
  by_cases h : i < k
  · rw [if_pos h, if_pos (by omega)]
  · rw [if_neg h]
    by_cases h2 : i = k
    · subst h2; rw [if_pos (by omega)]; exact e
    · rw [if_neg (by omega)]
theorem mixN_zero (f g : Nat → Nat) (m : Nat) : mixN f g m 0 = (List.range m).map g := by simp [mixN]
theorem mixN_full (f g : Nat → Nat) (m : Nat) : mixN f g m m = (List.range m).map f := by
  unfold mixN
  exact List.map_congr_left fun i hi => by rw [if_pos (by simpa using hi)]
theorem rep_getD (n j : Nat) (b : Bool) : (List.replicate n b).getD j false = (decide (j < n) && b) := by
  by_cases h : j < n
  · rw [decide_eq_true h, Bool.true_and]; simp [List.getD, h]
  · rw [decide_eq_false h, getD_past _ _ (by simp; omega)]; rfl
theorem allW (n : Nat) : trimW (fillN (fun _ => 18446744073709551615) (wc n) (wc n)) n = words (List.replicate n true) := by
  have h := fillN_trim (fun _ => 18446744073709551615) (List.replicate n true) (fun i _ => by omega) (fun i j _ hj hl => by
    rw [rep_getD, show (18446744073709551615 : Nat) = 2 ^ 64 - 1 by rfl, Nat.testBit_two_pow_sub_one, decide_eq_true hj, decide_eq_true (by simpa using hl)]
    rfl)
  simpa using h
end Bv

set_option maxHeartbeats 1000000
theorem make_true (x : Int) (w : World) :
    Calls Tryd.prog 13 #[.int .i64 x, .bool true] w fun e w' => ∃ v, e = .returned v ∧ OwnB w' w.heap.size v (List.replicate (nclamp x) true) ∧ Ext w w' := by
  obtain ⟨i0, hi0, hz0, hz1, hz2⟩ := info_parts infoW
  obtain ⟨m1, k, hnc, hk, hm1, hm2⟩ := nclamp_eq x
  rw [hnc]
  clear hnc
  have hsz : i0.bytes * wc k ≤ 281474976710656 := by rw [hz2]; unfold wc; omega
  have hwc := wc_cast k
  have hwl : wc k ≤ 16384 := by unfold wc; omega
  have HW := Lib.hid (allW k)
  obtain ⟨m, hm⟩ : ∃ m, wc k = m := ⟨_, rfl⟩
  rw [hm] at hsz hwc hwl HW
  have HM := Lib.hid hm
  clear hm
  go_enter Tryd.func13, Tryd.ntmps13
  go_wp2_with (at_make; refine wpList_make_full _ rfl _ _ 24 rfl (w.heap.size + 1) 55 i0 (.int .u64 0) 1 Tryd.underlying24 hi0 hz0 hz1 .i64 .i64 _ _ m rfl rfl rfl rfl hsz (by simp only [maxLen]; omega) (by simp) ?_)
  intro w1 hown1 hg1
  have hb1 := ext_none hg1
  have hs1 : w.heap.size + 1 < w1.heap.size := (hown1.lt _ rfl).2
  have hx : Ext w w1 := ((Ext.refl w).alloc _).trans hb1
  have R0 : w1.cell? ⟨w.heap.size, 0, none⟩ = some (.slice none 0 0) := cell_ext'' hb1 (by simp)
  have R1 : w1.cell? ⟨w.heap.size, 1, none⟩ = some (.int .i64 0) := cell_ext'' hb1 (by simp)
  have Rf : w1.frozen? ⟨w.heap.size, 0, none⟩ = false := (hb1.cells.2 _ _ (by simp)).trans (by simp)
  have Rf1 : w1.frozen? ⟨w.heap.size, 1, none⟩ = false := (hb1.cells.2 _ _ (by simp)).trans (by simp)
  have HR := Lib.hid (And.intro (And.intro R0 R1) (And.intro Rf Rf1))
  have e : (madeCells #[Value.int .u64 0] m).toList = u64s (fillN (fun _ => 18446744073709551615) m 0) := by
    rw [fillN_zero]
    exact (toList_madeCells_one _ _).trans (by simp [u64s])
  rw [e] at hown1
  have HO := Lib.hid (hown1.alloc (.cells #[.slice (some ⟨w.heap.size + 1, 0, none⟩) m m, .int .i64 (k : Int)] 26))
  have HX := Lib.hid hx
  clear hown1 hg1 hb1 hx hsz hwc e R0 R1 Rf Rf1 hm1 hm2
  go_wp2_with fail
  go_loopw [20] (fun i wr => ∃ j : Nat, j ≤ m ∧ i = .int .i64 j ∧ wr.ownsRow (w.heap.size + 1) 55 1 (.slice (some ⟨w.heap.size + 1, 0, none⟩) m m) m (u64s (fillN (fun _ => 18446744073709551615) m j)) ∧ (w1.alloc (.cells #[.slice (some ⟨w.heap.size + 1, 0, none⟩) m m, .int .i64 (k : Int)] 26)).grownBy wr (some (w.heap.size + 1))) (fun i _ => m - (intOf i).toNat)
  case atStart => exact ⟨0, Nat.zero_le _, rfl, HO.out, ⟨rfl, rfl, rfl, Nat.le_refl _, fun _ _ _ => rfl⟩⟩
  case round =>
    obtain ⟨j, hj, rfl, hown, hgr⟩ := hrel
    clear HO
    have O0 : wr.cell? ⟨w1.heap.size, 0, none⟩ = some (.slice (some ⟨w.heap.size + 1, 0, none⟩) m m) := (grown_cell hgr (p := ⟨w1.heap.size, 0, none⟩) (by simp) (by simp; omega)).trans (by simp)
    by_cases hlt : j < m
    · have W0 : wr.cell? ⟨w.heap.size + 1, j, none⟩ = some (.int .u64 ((0 : Nat) : Int)) := by
        rw [hown.cellAt j (by omega)]
        exact fillN_get _ hlt
      have W1 : wr.frozen? ⟨w.heap.size + 1, j, none⟩ = false := hown.frozenAt _
      have hst := (hown.stored j (.int .u64 ((18446744073709551615 : Nat) : Int))).1
      rw [fillN_set (fun _ => 18446744073709551615) hlt] at hst
      have H1 := Lib.hid hst
      have H2 := Lib.hid (grown_set (j := j) hgr (.int .u64 ((18446744073709551615 : Nat) : Int)))
      clear hst hown hgr
      go_wp2
      exact ⟨⟨j + 1, by omega, by go_num, H1.out, H2.out⟩, by simp [intOf]; omega⟩
    · have hjm : j = m := by omega
      subst hjm
      have O1 : wr.cell? ⟨w1.heap.size, 1, none⟩ = some (.int .i64 (k : Int)) := (grown_cell hgr (p := ⟨w1.heap.size, 1, none⟩) (by simp) (by simp; omega)).trans (by simp)
      have HG := Lib.hid hgr
      have HO := Lib.hid hown
      have ct := fun w2 => trim_any (w.heap.size + 1) j j k (w.heap.size + 1) (fillN (fun _ => 18446744073709551615) j j) w2 HM.out.symm hk (fillN_lt _ _ (fun i _ => by omega))
      rw [HW.out] at ct
      have CT := Lib.hid ct
      clear hgr hown ct
      go_wp2_with fail
      refine (CT.out _ HO.out).mono ?_
      rintro e w3 ⟨rfl, hown3, hg3⟩
      have hBl' : w1.heap.size < wr.heap.size := Nat.lt_of_lt_of_le (by simp) HG.out.size
      have P0 : w3.cell? ⟨w1.heap.size, 0, none⟩ = some (.slice (some ⟨w.heap.size + 1, 0, none⟩) j j) := (grown_cell hg3 hBl' (by simp; omega)).trans O0
      have P1 : w3.cell? ⟨w1.heap.size, 1, none⟩ = some (.int .i64 (k : Int)) := (grown_cell hg3 hBl' (by simp; omega)).trans O1
      have far : ∀ o, w3.cell? ⟨w.heap.size, o, none⟩ = w1.cell? ⟨w.heap.size, o, none⟩ := fun o => (grown_cell hg3 (p := ⟨w.heap.size, o, none⟩) (by simp; omega) (by simp)).trans ((grown_cell HG.out (p := ⟨w.heap.size, o, none⟩) (by simp; omega) (by simp)).trans (World.cell?_alloc_lt w1 _ ⟨w.heap.size, o, none⟩ (by simp; omega)))
      have farf : ∀ o, w3.frozen? ⟨w.heap.size, o, none⟩ = w1.frozen? ⟨w.heap.size, o, none⟩ := fun o => (grown_frozen hg3 (p := ⟨w.heap.size, o, none⟩) (by simp; omega) (by simp)).trans ((grown_frozen HG.out (p := ⟨w.heap.size, o, none⟩) (by simp; omega) (by simp)).trans (((Ext.refl w1).alloc _).cells.2 _ _ (by omega)))
      have Q0 := (far 0).trans HR.out.1.1
      have Q1 := (far 1).trans HR.out.1.2
      have Qf := (farf 0).trans HR.out.2.1
      have Qf1 := (farf 1).trans HR.out.2.2
      have H1 := Lib.hid hown3
      have H2 := Lib.hid (grown_ext (grown_ext (HX.out.alloc _) HG.out (by omega)) hg3 (by omega))
      clear far farf hown3 hg3 O0 O1
      go_wp2_with fail
      refine bodyPost_ret (v := .agg #[.slice (some ⟨w.heap.size + 1, 0, none⟩) j j, .int .i64 (k : Int)]) (by simp [results, Tryd.results13, go_sem, Q0, Q1]) rfl ⟨_, rfl, ?_, ?_⟩
      · refine ⟨by simp; omega, w.heap.size + 1, j, ?_, by omega, ?_⟩
        · rw [List.length_replicate, HM.out]
        · rw [List.length_replicate, HM.out]
          exact own_base (ownsRow_setCell_below (ownsRow_setCell_below H1.out (by simp) _) (by simp) _) (by omega)
      · exact (H2.out.setCell (Nat.le_refl _) _).setCell (Nat.le_refl _) _
end Go.Proofs.YtmjikdkdccnbaaaDoor
