/- Contract of bitvec's Parity. -/
import Derived.Test.YtmjikdkdccnbaaaDoorPs
namespace Go.Proofs.YtmjikdkdccnbaaaDoor
open Go.RowKit Bv

namespace Bv
/-- the words of the running parities, digits behind the last one too -/
def pw (l : List Bool) (i : Nat) : Nat := ofB (fun j => px (fun a => l.getD a false) (64 * i + j + 1)) 64
theorem pw_lt (l : List Bool) (i : Nat) : pw l i < 18446744073709551616 := ofB_lt _ 64
theorem pw_is (l : List Bool) (i y : Nat) (hy : y < 18446744073709551616) (h : pxW (fun j => l.getD (64 * i + j) false) 64 y) : y ^^^ cw (px (fun a => l.getD a false) (64 * i)) = pw l i := by
  apply Nat.eq_of_testBit_eq
  intro j
  rw [Nat.testBit_xor, show pw l i = ofB (fun j => px (fun a => l.getD a false) (64 * i + j + 1)) 64 from rfl, ofB_testBit]
  by_cases hj : j < 64
  · rw [decide_eq_true hj, Bool.true_and, cw_bit _ _ hj, pxW_end _ _ h j hj, Bool.xor_comm]
    exact (px_add (fun a => l.getD a false) (64 * i) (j + 1)).symm
  · have h1 : ∀ z : Nat, z < 18446744073709551616 → z.testBit j = false := fun z hz => Nat.testBit_lt_two_pow (Nat.lt_of_lt_of_le hz (Nat.pow_le_pow_right (n := 2) (by decide) (by omega : 64 ≤ j)))
    rw [decide_eq_false hj, h1 y hy, h1 _ (cw_lt _)]; rfl
theorem pw_top (l : List Bool) (i : Nat) : IntKind.u64.wrap (-(((pw l i : Nat) : Int) / 9223372036854775808)) = ((cw (px (fun a => l.getD a false) (64 * (i + 1))) : Nat) : Int) := by
  have hl := pw_lt l i
  have hb : (pw l i).testBit 63 = px (fun a => l.getD a false) (64 * (i + 1)) := by
    rw [show pw l i = ofB (fun j => px (fun a => l.getD a false) (64 * i + j + 1)) 64 from rfl, ofB_testBit]
    simp [Nat.mul_add]
  rw [← hb, Nat.testBit_eq_decide_div_mod_eq]
  have h1 : (pw l i : Nat) / 9223372036854775808 = 0 ∨ (pw l i : Nat) / 9223372036854775808 = 1 := by omega
  have e : ((pw l i : Nat) : Int) / 9223372036854775808 = ((pw l i / 9223372036854775808 : Nat) : Int) := by simp
  rw [e, show (2 ^ 63 : Nat) = 9223372036854775808 by rfl]
  rcases h1 with h | h <;> rw [h] <;> decide
theorem parW (l : List Bool) : trimW (fillN (pw l) (wc l.length) (wc l.length)) l.length = words (parL l) := by
  have hpl : (parL l).length = l.length := tabL_length _ _
  have h := fillN_trim (pw l) (parL l) (fun i _ => pw_lt l i) (fun i j _ hj hl => by
    rw [hpl] at hl
    rw [show pw l i = ofB (fun j => px (fun a => l.getD a false) (64 * i + j + 1)) 64 from rfl, ofB_testBit, decide_eq_true hj, Bool.true_and]
    unfold parL
    rw [tabL_getD, decide_eq_true hl, Bool.true_and])
  rw [hpl] at h
  exact h
theorem px_word (l : List Bool) (k : Nat) : ∀ j, j < 64 → (wd l k).testBit j = l.getD (64 * k + j) false := fun j hj => by rw [wd_testBit, decide_eq_true hj, Bool.true_and]
/-- the counts of a doubling loop -/
def Dbl (s : Nat) : Prop := s = 1 ∨ s = 2 ∨ s = 4 ∨ s = 8 ∨ s = 16 ∨ s = 32 ∨ s = 64
theorem Dbl.next {s : Nat} (h : Dbl s) (hs : s < 64) : Dbl (2 * s) := by unfold Dbl at *; omega
theorem Dbl.last {s : Nat} (h : Dbl s) (hs : ¬ s < 64) : s = 64 := by unfold Dbl at *; omega
theorem Dbl.pos {s : Nat} (h : Dbl s) : 1 ≤ s ∧ s ≤ 64 := by unfold Dbl at *; omega
theorem u64_shl (y s : Nat) : IntKind.u64.wrap ((y : Int) * 2 ^ s) = ((y * 2 ^ s % 18446744073709551616 : Nat) : Int) := by
  have e : (y : Int) * 2 ^ s = ((y * 2 ^ s : Nat) : Int) := by simp
  rw [e]
  simp only [IntKind.wrap, IntKind.bits, IntKind.signed]
  simp
end Bv

set_option maxHeartbeats 1000000
theorem parity_any (v : Value) (l : List Bool) (w : World) (hv : IsB w v l) :
    Calls Tryd.prog 14 #[v] w fun e w' => ∃ v', e = .returned v' ∧ OwnB w' w.heap.size v' (parL l) ∧ Ext w w' := by
  obtain ⟨hl, A, c, rfl, hs⟩ := hv
  have hwl : wc l.length ≤ 16384 := by unfold wc; omega
  have HS := Lib.hid hs
  have HL := Lib.hid hl
  have HW := Lib.hid (parW l)
  obtain ⟨m, hm⟩ : ∃ m, wc l.length = m := ⟨_, rfl⟩
  obtain ⟨n, hn⟩ : ∃ n, l.length = n := ⟨_, rfl⟩
  rw [hm] at HS HW hwl ⊢
  rw [hn] at HW ⊢
  have HM := Lib.hid hm
  have HN := Lib.hid hn
  obtain ⟨mk, hmk⟩ := makes_u64 m hwl
  have hrun := fun w => (hmk w).1
  have HK := Lib.hid hmk
  clear hs hl hm hn hmk
  go_enter Tryd.func14, Tryd.ntmps14
  go_upto_region 1 with fail
  go_cut [3] (fun s3 wx => ∃ B g : Nat, s3 = .pointer (some ⟨B, 0, none⟩) ∧ OutAt ((w.alloc (.cells #[.slice A m c, .int .i64 (n : Int)] 26)).alloc (.cells #[.slice none 0 0, .int .i64 0] 26)) m (n : Int) B g wx)
  case first =>
    have hc0 : ((w.alloc (.cells #[.slice A m c, .int .i64 (n : Int)] 26)).alloc (.cells #[.slice none 0 0, .int .i64 0] 26)).cell? ⟨w.heap.size, 0, none⟩ = some (.slice A m c) := by simp
    have hc1 : ((w.alloc (.cells #[.slice A m c, .int .i64 (n : Int)] 26)).alloc (.cells #[.slice none 0 0, .int .i64 0] 26)).cell? ⟨w.heap.size, 1, none⟩ = some (.int .i64 (n : Int)) := by simp
    have HC0 := Lib.hid hc0
    have HC1 := Lib.hid hc1
    have HE := Lib.hid (Ext.refl ((w.alloc (.cells #[.slice A m c, .int .i64 (n : Int)] 26)).alloc (.cells #[.slice none 0 0, .int .i64 0] 26)))
    clear hc0 hc1
    have hx0 : (mk (((w.alloc (.cells #[.slice A m c, .int .i64 (n : Int)] 26)).alloc (.cells #[.slice none 0 0, .int .i64 0] 26)).alloc (.cells #[.slice none 0 0, .int .i64 0] 26)).drew).cell? ⟨w.heap.size + 1 + 1, 0, none⟩ = some (.slice none 0 0) := ((HK.out _).2.2.cells.1 _ _ (by simp)).trans (alloc_at (by simp) _)
    have hx1 : (mk (((w.alloc (.cells #[.slice A m c, .int .i64 (n : Int)] 26)).alloc (.cells #[.slice none 0 0, .int .i64 0] 26)).alloc (.cells #[.slice none 0 0, .int .i64 0] 26)).drew).cell? ⟨w.heap.size + 1 + 1, 1, none⟩ = some (.int .i64 0) := ((HK.out _).2.2.cells.1 _ _ (by simp)).trans (alloc_at (by simp) _)
    have hx2 : (mk (((w.alloc (.cells #[.slice A m c, .int .i64 (n : Int)] 26)).alloc (.cells #[.slice none 0 0, .int .i64 0] 26)).alloc (.cells #[.slice none 0 0, .int .i64 0] 26)).drew).frozen? ⟨w.heap.size + 1 + 1, 0, none⟩ = false := ((HK.out _).2.2.cells.2 _ _ (by simp)).trans (alloc_fr (by simp) _)
    have hx3 : (mk (((w.alloc (.cells #[.slice A m c, .int .i64 (n : Int)] 26)).alloc (.cells #[.slice none 0 0, .int .i64 0] 26)).alloc (.cells #[.slice none 0 0, .int .i64 0] 26)).drew).frozen? ⟨w.heap.size + 1 + 1, 1, none⟩ = false := ((HK.out _).2.2.cells.2 _ _ (by simp)).trans (alloc_fr (by simp) _)
    have hx4 : w.heap.size + 1 + 1 < (mk (((w.alloc (.cells #[.slice A m c, .int .i64 (n : Int)] 26)).alloc (.cells #[.slice none 0 0, .int .i64 0] 26)).alloc (.cells #[.slice none 0 0, .int .i64 0] 26)).drew).heap.size := Nat.lt_of_lt_of_le (by simp) (HK.out _).2.2.size
    go_region_held3 (fun w' => Ext ((w.alloc (.cells #[.slice A m c, .int .i64 (n : Int)] 26)).alloc (.cells #[.slice none 0 0, .int .i64 0] 26)) w' ∧ w'.cell? ⟨w.heap.size, 0, none⟩ = some (.slice A m c) ∧ w'.cell? ⟨w.heap.size, 1, none⟩ = some (.int .i64 (n : Int)))
      ((go_split_ands; refine keep2 ?_ HC0.out HC1.out; (first | exact HE.out.drew | exact Ext.trans (by assumption) (HK.out _).2.2 | exact Ext.alloc (by assumption) _ | exact Ext.alloc (Ext.trans HE.out.drew (HK.out _).2.2) _ | exact (Ext.setCell (Ext.setCell (by assumption) (by first | exact (HK.out _).2.2.size | (simp; done) | (simp; omega)) _) (by first | exact (HK.out _).2.2.size | (simp; done) | (simp; omega)) _)))) (fail)
    all_goals
      go_wp2_with fail
      go_meet
      first
      | exact ⟨_, _, rfl, outAt1 HK.out _ _ _ _ (by simp)⟩
      | exact ⟨_, _, rfl, outAt2 HK.out _ _ 26 _ (by simp)⟩
  case rest =>
    obtain ⟨B, g, rfl, hBg, hB, hg, hBl, hgl, o0, o1, hown, hx⟩ := hcut
    have hW0 : ((w.alloc (.cells #[.slice A m c, .int .i64 (n : Int)] 26)).alloc (.cells #[.slice none 0 0, .int .i64 0] 26)).heap.size = w.heap.size + 2 := by simp
    rw [hW0] at hB hg hown
    have b0 : wc.cell? ⟨w.heap.size, 0, none⟩ = some (.slice A m c) := cell_ext' hx (by simp)
    have R0 : wc.cell? ⟨w.heap.size + 1, 0, none⟩ = some (.slice none 0 0) := cell_ext' hx (by simp)
    have R1 : wc.cell? ⟨w.heap.size + 1, 1, none⟩ = some (.int .i64 0) := cell_ext' hx (by simp)
    have Rf : wc.frozen? ⟨w.heap.size + 1, 0, none⟩ = false := (hx.cells.2 _ _ (by simp)).trans (by simp)
    have Rf1 : wc.frozen? ⟨w.heap.size + 1, 1, none⟩ = false := (hx.cells.2 _ _ (by simp)).trans (by simp)
    have hsz : w.heap.size + 2 ≤ wc.heap.size := by have := hx.size; rw [hW0] at this; exact this
    have hXw : Ext w wc := (((Ext.refl w).alloc _).alloc _).trans hx
    rw [← fillN_zero (pw l) m] at hown
    have HO := Lib.hid hown
    have HX := Lib.hid hXw
    clear hx hXw hown hW0 hrun
    have HR := Lib.hid (And.intro (And.intro R0 R1) (And.intro Rf Rf1))
    clear R0 R1 Rf Rf1
    have HB := Lib.hid (And.intro o0 o1)
    clear o0 o1
    go_wp2_with fail
    go_loopw [4, 18] (fun cy i wr => ∃ k : Nat, k ≤ m ∧ i = .int .i64 k ∧ cy = .int .u64 ((cw (px (fun a => l.getD a false) (64 * k)) : Nat) : Int) ∧ wr.ownsRow (w.heap.size + 2) 55 1 (.slice (some ⟨g, 0, none⟩) m m) m (u64s (fillN (pw l) m k)) ∧ wc.grownBy wr (some g)) (fun _ i _ => m - (intOf i).toNat)
    case atStart => exact ⟨0, Nat.zero_le _, rfl, rfl, HO.out, ⟨rfl, rfl, rfl, Nat.le_refl _, fun _ _ _ => rfl⟩⟩
    case round =>
      obtain ⟨k, hk, rfl, rfl, hown, hgr⟩ := hrel
      clear HO
      have O0 : wr.cell? ⟨B, 0, none⟩ = some (.slice (some ⟨g, 0, none⟩) m m) := (grown_cell hgr hBl hBg).trans HB.out.1
      by_cases hlt : k < m
      · obtain ⟨a, rfl, hab, hcell⟩ := IsB.word (l := l) (by rw [HM.out]; exact HS.out) (by rw [HM.out]; exact hlt)
        have L0 : wr.cell? (a.add k) = some (.int .u64 ((wd l k : Nat) : Int)) := (grown_cell hgr (by rw [addr_block]; have := HX.out.size; omega) (by rw [addr_block]; omega)).trans (cell_ext' HX.out hcell)
        have W0 : wr.cell? ⟨g, k, none⟩ = some (.int .u64 ((0 : Nat) : Int)) := by
          rw [hown.cellAt k (by omega)]
          exact fillN_get _ hlt
        have W1 : wr.frozen? ⟨g, k, none⟩ = false := hown.frozenAt _
        have hst := (hown.stored k (.int .u64 ((pw l k : Nat) : Int))).1
        rw [fillN_set (pw l) hlt] at hst
        have H1 := Lib.hid hst
        have H2 := Lib.hid (grown_set (j := k) hgr (.int .u64 ((pw l k : Nat) : Int)))
        have HP := Lib.hid (And.intro (wd_lt l k) (pxW_one (fun j => l.getD (64 * k + j) false) (wd l k) (px_word l k)))
        have hpi := Lib.hid (pw_is l k)
        have htop := pw_top l k
        have hcl := cw_lt (px (fun a => l.getD a false) (64 * k))
        have hpl := pw_lt l k
        clear hst hown hgr hcell b0
        generalize wd l k = x at *
        generalize cw (px (fun a => l.getD a false) (64 * k)) = cv at *
        generalize pw l k = pv at *
        go_wp2_with fail
        go_loop [6, 7] (fun y s => ∃ y' s' : Nat, s = .int .i64 (s' : Int) ∧ y = .int .u64 (y' : Int) ∧ Dbl s' ∧ y' < 18446744073709551616 ∧ pxW (fun j => l.getD (64 * k + j) false) s' y') (fun _ s => 64 - (intOf s).toNat)
        case atStart => exact ⟨x, 1, rfl, rfl, .inl rfl, HP.out.1, HP.out.2⟩
        case round =>
          obtain ⟨y, s, rfl, rfl, hd, hy, hpx⟩ := hrel
          obtain ⟨hs1, hs2⟩ := hd.pos
          have HD := Lib.hid hd
          have HPX := Lib.hid hpx
          clear hd hpx
          by_cases hs3 : s < 64
          · have hsh := u64_shl y s
            have hz : y * 2 ^ s % 18446744073709551616 < 18446744073709551616 := Nat.mod_lt _ (by decide)
            have hxo := u64_xor_nat y (y * 2 ^ s % 18446744073709551616) hy hz
            have HN1 := Lib.hid (And.intro (HD.out.next hs3) (And.intro (Nat.xor_lt_two_pow (n := 64) hy hz) (pxW_step _ s y (by omega) HPX.out)))
            have HY := Lib.hid hy
            clear hz hy HPX HD
            have HN2 : Hid (Dbl (2 * s) ∧ y ^^^ (y * 2 ^ s % 18446744073709551616) < 2 ^ 64 ∧ pxW (fun j => l.getD (64 * k + j) false) (2 * s) (y ^^^ (y * 2 ^ s % 18446744073709551616))) := HN1.out
            clear HN1
            generalize y ^^^ (y * 2 ^ s % 18446744073709551616) = y2 at *
            generalize y * 2 ^ s % 18446744073709551616 = z at *
            go_wp2
            exact ⟨⟨y2, 2 * s, by go_num, rfl, HN2.out.1, HN2.out.2.1, HN2.out.2.2⟩, by simp [intOf]; omega⟩
          · have hs4 := HD.out.last hs3
            subst hs4
            have hxo := u64_xor_nat y cv hy hcl
            rw [hpi.out y hy HPX.out] at hxo
            clear HPX hs3 HD hpi HP
            go_wp2
            exact ⟨⟨k + 1, by omega, by go_num, rfl, H1.out, H2.out⟩, by simp [intOf]; omega⟩
      · have hkm : k = m := by omega
        subst hkm
        have O1 : wr.cell? ⟨B, 1, none⟩ = some (.int .i64 (n : Int)) := (grown_cell hgr hBl hBg).trans HB.out.2
        have HG := Lib.hid hgr
        have HO := Lib.hid hown
        have hlt : ∀ x ∈ fillN (pw l) k k, x < 18446744073709551616 := fillN_lt _ _ (fun i _ => pw_lt l i)
        have ct := fun w1 => trim_any g k k n (w.heap.size + 2) (fillN (pw l) k k) w1 (by rw [← HN.out]; exact HM.out.symm) (by rw [← HN.out]; exact HL.out) hlt
        rw [HW.out] at ct
        have CT := Lib.hid ct
        clear hgr hown ct hlt b0
        go_wp2_with fail
        refine (CT.out _ HO.out).mono ?_
        rintro e w3 ⟨rfl, hown3, hg3⟩
        have hBl' : B < wr.heap.size := Nat.lt_of_lt_of_le hBl HG.out.size
        have P0 : w3.cell? ⟨B, 0, none⟩ = some (.slice (some ⟨g, 0, none⟩) k k) := (grown_cell hg3 hBl' hBg).trans O0
        have P1 : w3.cell? ⟨B, 1, none⟩ = some (.int .i64 (n : Int)) := (grown_cell hg3 hBl' hBg).trans O1
        have far : ∀ o, w3.cell? ⟨w.heap.size + 1, o, none⟩ = wc.cell? ⟨w.heap.size + 1, o, none⟩ := fun o => (grown_cell hg3 (p := ⟨w.heap.size + 1, o, none⟩) (by have := HG.out.size; simp; omega) (by simp; omega)).trans (grown_cell HG.out (p := ⟨w.heap.size + 1, o, none⟩) (by simp; omega) (by simp; omega))
        have farf : ∀ o, w3.frozen? ⟨w.heap.size + 1, o, none⟩ = wc.frozen? ⟨w.heap.size + 1, o, none⟩ := fun o => (grown_frozen hg3 (p := ⟨w.heap.size + 1, o, none⟩) (by have := HG.out.size; simp; omega) (by simp; omega)).trans (grown_frozen HG.out (p := ⟨w.heap.size + 1, o, none⟩) (by simp; omega) (by simp; omega))
        have Q0 := (far 0).trans HR.out.1.1
        have Q1 := (far 1).trans HR.out.1.2
        have Qf := (farf 0).trans HR.out.2.1
        have Qf1 := (farf 1).trans HR.out.2.2
        have H1 := Lib.hid hown3
        have H2 := Lib.hid (grown_ext (grown_ext HX.out HG.out (by omega)) hg3 (by omega))
        clear far farf hown3 hg3 O0 O1 HB
        go_wp2_with fail
        refine bodyPost_ret (v := .agg #[.slice (some ⟨g, 0, none⟩) k k, .int .i64 (n : Int)]) (by simp [results, Tryd.results14, go_sem, Q0, Q1]) rfl ⟨_, rfl, ?_, ?_⟩
        · have hn : (parL l).length = n := by rw [show (parL l).length = l.length from tabL_length _ _]; exact HN.out
          refine ⟨by rw [hn, ← HN.out]; exact HL.out, g, k, ?_, by omega, ?_⟩
          · rw [hn, ← HN.out, HM.out]
          · rw [hn, ← HN.out, HM.out]
            exact own_base (ownsRow_setCell_below (ownsRow_setCell_below H1.out (by simp) _) (by simp) _) (by omega)
        · exact (H2.out.setCell (by simp) _).setCell (by simp) _
end Go.Proofs.YtmjikdkdccnbaaaDoor
