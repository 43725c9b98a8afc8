/- Contract of bitvec's Fill. -/
import Derived.Test.YtmjikdkdccnbaaaDoorPv
import Derived.Test.YtmjikdkdccnbaaaDoorPt
namespace Go.Proofs.YtmjikdkdccnbaaaDoor
open Go.RowKit Bv

namespace Bv
theorem anyL_bit (l : List Bool) (i j : Nat) : (wd (anyL l) i).testBit j = (decide (j < 64) && (decide (64 * i + j < l.length) && decide (fst1 l ≤ 64 * i + j))) := by
  rw [wd_testBit]; unfold anyL; rw [tabL_getD]
theorem repT_bit (n i j : Nat) : (wd (List.replicate n true) i).testBit j = (decide (j < 64) && decide (64 * i + j < n)) := by
  rw [wd_testBit, rep_getD, Bool.and_true]
theorem fillLo (l : List Bool) (i : Nat) (h : i < fst1 l / 64) : wd (anyL l) i = 0 := by
  apply Nat.eq_of_testBit_eq
  intro j
  rw [anyL_bit, Nat.zero_testBit]
  by_cases hj : j < 64
  · rw [decide_eq_false (show ¬ fst1 l ≤ 64 * i + j by omega)]; simp
  · rw [decide_eq_false hj]; rfl
theorem fillHi (l : List Bool) (i : Nat) (h : fst1 l / 64 < i) : wd (anyL l) i = wd (List.replicate l.length true) i := by
  apply Nat.eq_of_testBit_eq
  intro j
  rw [anyL_bit, repT_bit]
  rw [decide_eq_true (show fst1 l ≤ 64 * i + j by omega), Bool.and_true]
theorem fillEq (l : List Bool) : wd (List.replicate l.length true) (fst1 l / 64) &&& (18446744073709551615 - (2 ^ (fst1 l % 64) - 1)) = wd (anyL l) (fst1 l / 64) := by
  have hp := Nat.two_pow_pos (fst1 l % 64)
  have hlt : 2 ^ (fst1 l % 64) ≤ 2 ^ 63 := Nat.pow_le_pow_right (by decide) (by omega)
  apply Nat.eq_of_testBit_eq
  intro j
  have e : 18446744073709551615 - (2 ^ (fst1 l % 64) - 1) = 2 ^ 64 - ((2 ^ (fst1 l % 64) - 1) + 1) := by omega
  rw [Nat.testBit_and, e, Nat.testBit_two_pow_sub_succ (by omega), Nat.testBit_two_pow_sub_one, anyL_bit, repT_bit]
  by_cases hj : j < 64
  · rw [decide_eq_true hj]
    simp only [Bool.true_and]
    congr 1
    rw [← decide_not, decide_eq_decide]
    omega
  · rw [decide_eq_false hj]; rfl
end Bv

set_option maxHeartbeats 1000000
theorem make_true_nat (n : Nat) (hn : n ≤ 1048576) (w : World) :
    Calls Tryd.prog 13 #[.int .i64 (n : Int), .bool true] w fun e w' => ∃ g c, e = .returned (.agg #[.slice (some ⟨g, 0, none⟩) (wc n) c, .int .i64 (n : Int)]) ∧ w.heap.size ≤ g ∧ w'.ownsRow w.heap.size 55 1 (.slice (some ⟨g, 0, none⟩) (wc n) c) (wc n) (u64s (words (List.replicate n true))) ∧ Ext w w' := by
  refine (make_true (n : Int) w).mono ?_
  rintro e w' ⟨v, rfl, ⟨_, g, c, rfl, hg, hown⟩, hx⟩
  rw [nclamp_nat hn, List.length_replicate] at *
  exact ⟨g, c, rfl, hg, hown, hx⟩
theorem fill_any (v : Value) (l : List Bool) (w : World) (hv : IsB w v l) (ht : Tab w) :
    Calls Tryd.prog 16 #[v] w fun e w' => ∃ v', e = .returned v' ∧ OwnB w' w.heap.size v' (anyL l) ∧ Ext w w' := by
  have hvk := hv
  obtain ⟨hl, A, c, rfl, hs⟩ := hv
  have hwl : wc l.length ≤ 16384 := by unfold wc; omega
  have HT := Lib.hid (ht.ext (((Ext.refl w).alloc (.cells #[.slice A (wc l.length) c, .int .i64 (l.length : Int)] 26)).alloc (.cells #[.slice none 0 0, .int .i64 0] 26)))
  have HV := Lib.hid (hvk.ext (((Ext.refl w).alloc (.cells #[.slice A (wc l.length) c, .int .i64 (l.length : Int)] 26)).alloc (.cells #[.slice none 0 0, .int .i64 0] 26)))
  have hk0 : fst1 l ≤ 1048576 := Nat.le_trans (fst1_le l) hl
  have HLo := Lib.hid (fillLo l)
  have HHi := Lib.hid (fillHi l)
  have HEq := Lib.hid (fillEq l)
  have hmk := make_true_nat l.length hl
  have HA : Hid (u64s (words (List.replicate l.length true)) = u64s (mixN (wd (anyL l)) (wd (List.replicate l.length true)) (wc l.length) 0) ∧ words (anyL l) = mixN (wd (anyL l)) (wd (List.replicate l.length true)) (wc l.length) (wc l.length)) := by
    refine ⟨?_, ?_⟩
    · rw [mixN_zero]; unfold words; rw [List.length_replicate]
    · rw [mixN_full]; unfold words; rw [show (anyL l).length = l.length from tabL_length _ _]
  have HB : Hid ((anyL l).length = l.length ∧ l.length ≤ 1048576) := ⟨tabL_length _ _, hl⟩
  have ct := fun w1 h1 h2 => first_any (.agg #[.slice A (wc l.length) c, .int .i64 (l.length : Int)]) l w1 h1 h2
  have CT := Lib.hid ct
  have MK := Lib.hid hmk
  have hwx : ∀ i, wd (List.replicate l.length true) i < 18446744073709551616 := fun i => wd_lt _ i
  have HWX := Lib.hid hwx
  obtain ⟨m, hm⟩ : ∃ m, wc l.length = m := ⟨_, rfl⟩
  obtain ⟨n, hn⟩ : ∃ n, l.length = n := ⟨_, rfl⟩
  rw [hm] at hwl HT HV HA CT MK ⊢
  rw [hn] at HT HV HA CT MK HB HHi HEq HWX ⊢
  have HM : Hid (wc n = m) := by rw [← hn]; exact hm
  generalize fst1 l = k0 at *
  clear hs hl hm hn hvk ht ct hmk hwx
  generalize wd (List.replicate n true) = gw at *
  go_enter Tryd.func16, Tryd.ntmps16
  go_wp2_with fail
  refine (CT.out _ HV.out HT.out).mono ?_
  rintro e w1 ⟨rfl, hx1⟩
  have b0 : w1.cell? ⟨w.heap.size, 1, none⟩ = some (.int .i64 (n : Int)) := cell_ext'' hx1 (by simp)
  have HX1 := Lib.hid hx1
  clear hx1
  go_wp2_with fail
  refine (MK.out _).mono ?_
  rintro e w2 ⟨g, c2, rfl, hg, hown, hx2⟩
  have HX2 := Lib.hid (HX1.out.trans hx2)
  have hs2 : w.heap.size + 2 ≤ w2.heap.size := by have := HX2.out.size; simpa using this
  have hg' : w.heap.size + 2 ≤ g := by have := HX1.out.size; simp at this; omega
  have hgs : g < w2.heap.size := (hown.lt g rfl).2
  have R0 : w2.cell? ⟨w.heap.size + 1, 0, none⟩ = some (.slice none 0 0) := cell_ext'' HX2.out (by simp)
  have R1 : w2.cell? ⟨w.heap.size + 1, 1, none⟩ = some (.int .i64 0) := cell_ext'' HX2.out (by simp)
  have Rf : w2.frozen? ⟨w.heap.size + 1, 0, none⟩ = false := (HX2.out.cells.2 _ _ (by simp)).trans (by simp)
  have Rf1 : w2.frozen? ⟨w.heap.size + 1, 1, none⟩ = false := (HX2.out.cells.2 _ _ (by simp)).trans (by simp)
  have HR := Lib.hid (And.intro (And.intro R0 R1) (And.intro Rf Rf1))
  rw [HA.out.1] at hown
  have HO := Lib.hid ((own_base hown (show w.heap.size + 2 ≤ w1.heap.size by have := HX1.out.size; simpa using this)).alloc (.cells #[.slice (some ⟨g, 0, none⟩) m c2, .int .i64 (n : Int)] 26))
  clear hown hg hx2 R0 R1 Rf Rf1 b0
  go_wp2_with fail
  go_loopw [14] (fun i wr => ∃ k : Nat, k ≤ m ∧ i = .int .i64 k ∧ wr.ownsRow (w.heap.size + 2) 55 1 (.slice (some ⟨g, 0, none⟩) m c2) m (u64s (mixN (wd (anyL l)) gw m k)) ∧ (w2.alloc (.cells #[.slice (some ⟨g, 0, none⟩) m c2, .int .i64 (n : Int)] 26)).grownBy wr (some g)) (fun i _ => m - (intOf i).toNat)
  case atStart => exact ⟨0, Nat.zero_le _, rfl, HO.out, ⟨rfl, rfl, rfl, Nat.le_refl _, fun _ _ _ => rfl⟩⟩
  case round =>
    obtain ⟨k, hk, rfl, hown, hgr⟩ := hrel
    clear HO
    have O0 : wr.cell? ⟨w2.heap.size, 0, none⟩ = some (.slice (some ⟨g, 0, none⟩) m c2) := (grown_cell hgr (p := ⟨w2.heap.size, 0, none⟩) (by simp) (by simp; omega)).trans (by simp)
    by_cases hlt : k < m
    · have W0 : wr.cell? ⟨g, k, none⟩ = some (.int .u64 ((gw k : Nat) : Int)) := by
        rw [hown.cellAt k (by omega)]
        exact mixN_get _ _ hlt
      have W1 : wr.frozen? ⟨g, k, none⟩ = false := hown.frozenAt _
      have hst := (hown.stored k (.int .u64 ((wd (anyL l) k : Nat) : Int))).1
      rw [mixN_set (wd (anyL l)) gw m k] at hst
      have H1 := Lib.hid hst
      have H2 := Lib.hid (grown_set (j := k) hgr (.int .u64 ((wd (anyL l) k : Nat) : Int)))
      have HO := Lib.hid hown
      have HG := Lib.hid hgr
      clear hst hown hgr
      rcases Nat.lt_trichotomy k (k0 / 64) with hc | hc | hc
      · have hz := HLo.out k hc
        rw [hz] at H1 H2
        clear hz
        go_wp2
        exact ⟨⟨k + 1, by omega, by go_num, H1.out, H2.out⟩, by simp [intOf]; omega⟩
      · subst hc
        have e2 := i64_and63 (k0 : Int) (by omega) (by omega)
        obtain ⟨m1, m2⟩ := u64_mask (k0 % 64) (by omega)
        have hp := Nat.two_pow_pos (k0 % 64)
        have hpl : 2 ^ (k0 % 64) ≤ 2 ^ 63 := Nat.pow_le_pow_right (by decide) (by omega)
        have hcast : (2 : Int) ^ (k0 % 64) - 1 = ((2 ^ (k0 % 64) - 1 : Nat) : Int) := by rw [Int.natCast_sub hp]; simp
        have hand := u64_andNot_nat (gw (k0 / 64)) (2 ^ (k0 % 64) - 1) (HWX.out (k0 / 64)) (by omega)
        rw [HEq.out, ← hcast] at hand
        clear hp hpl hcast
        generalize gw (k0 / 64) = x at *
        generalize wd (anyL l) (k0 / 64) = y at *
        go_wp2
        exact ⟨⟨k0 / 64 + 1, by omega, by go_num, H1.out, H2.out⟩, by simp [intOf]; omega⟩
      · have e1 : ((k : Int) == (k0 : Int) / 64) = false := by simp; omega
        have hsame := mixN_same (wd (anyL l)) gw (m := m) (HHi.out k hc)
        have H3 := Lib.hid (show wr.ownsRow (w.heap.size + 2) 55 1 (.slice (some ⟨g, 0, none⟩) m c2) m (u64s (mixN (wd (anyL l)) gw m (k + 1))) by rw [hsame]; exact HO.out)
        have hnl : ¬ (k : Int) < (k0 : Int) / 64 := by omega
        clear hsame H1 H2
        go_wp2
        exact ⟨⟨k + 1, by omega, by go_num, H3.out, HG.out⟩, by simp [intOf]; omega⟩
    · have hkm : k = m := by omega
      subst hkm
      have O1 : wr.cell? ⟨w2.heap.size, 1, none⟩ = some (.int .i64 (n : Int)) := (grown_cell hgr (p := ⟨w2.heap.size, 1, none⟩) (by simp) (by simp; omega)).trans (by simp)
      have far : ∀ o, wr.cell? ⟨w.heap.size + 1, o, none⟩ = w2.cell? ⟨w.heap.size + 1, o, none⟩ := fun o => (grown_cell hgr (p := ⟨w.heap.size + 1, o, none⟩) (by simp; omega) (by simp; omega)).trans (World.cell?_alloc_lt w2 _ ⟨w.heap.size + 1, o, none⟩ (by simp; omega))
      have farf : ∀ o, wr.frozen? ⟨w.heap.size + 1, o, none⟩ = w2.frozen? ⟨w.heap.size + 1, o, none⟩ := fun o => (grown_frozen hgr (p := ⟨w.heap.size + 1, o, none⟩) (by simp; omega) (by simp; omega)).trans (((Ext.refl w2).alloc _).cells.2 _ _ (by omega))
      have Q0 := (far 0).trans HR.out.1.1
      have Q1 := (far 1).trans HR.out.1.2
      have Qf := (farf 0).trans HR.out.2.1
      have Qf1 := (farf 1).trans HR.out.2.2
      have H1 := Lib.hid hown
      have hxw : Ext w w2 := (((Ext.refl w).alloc _).alloc _).trans HX2.out
      have H2 := Lib.hid (grown_ext (hxw.alloc _) hgr (by omega))
      clear far farf hown hgr hxw
      go_wp2_with fail
      refine bodyPost_ret (v := .agg #[.slice (some ⟨g, 0, none⟩) k c2, .int .i64 (n : Int)]) (by simp [results, Tryd.results16, go_sem, Q0, Q1]) rfl ⟨_, rfl, ?_, ?_⟩
      · refine ⟨by rw [HB.out.1]; exact HB.out.2, g, c2, ?_, by omega, ?_⟩
        · rw [HB.out.1, HM.out]
        · rw [HB.out.1, HM.out, HA.out.2]
          exact own_base (ownsRow_setCell_below (ownsRow_setCell_below H1.out (by simp) _) (by simp) _) (by omega)
      · exact (H2.out.setCell (by simp) _).setCell (by simp) _
end Go.Proofs.YtmjikdkdccnbaaaDoor
