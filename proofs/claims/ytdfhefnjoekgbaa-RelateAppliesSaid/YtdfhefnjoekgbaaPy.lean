/- Contract of bitvec.Truth. -/
import Derived.Test.YtdfhefnjoekgbaaPs
import Derived.StillTailTactics
namespace Go.Proofs.Ytdfhefnjoekgbaa
open Go.RowKit Bv

namespace Bv
def ttb (t : Nat) (x y : Bool) : Bool := t.testBit (2 * x.toNat + y.toNat)
def ttL (t : Nat) (x y : List Bool) : List Bool := tabL x.length fun i => ttb t (x.getD i false) (y.getD i false)
/-- what comes of two words by a table's four masks -/
def tw (m0 m1 m2 m3 a b : Nat) : Nat := (((m0 &&& (18446744073709551615 - a) &&& (18446744073709551615 - b)) ||| (m1 &&& (18446744073709551615 - a) &&& b)) ||| (m2 &&& a &&& (18446744073709551615 - b))) ||| (m3 &&& a &&& b)
def ttW (t : Nat) (x y : List Bool) (i : Nat) : Nat := tw (cw (t.testBit 0)) (cw (t.testBit 1)) (cw (t.testBit 2)) (cw (t.testBit 3)) (wd x i) (wd y i)
theorem tw_lt (m0 m1 m2 m3 a b : Nat) (h0 : m0 < 18446744073709551616) (h1 : m1 < 18446744073709551616) (h2 : m2 < 18446744073709551616) (h3 : m3 < 18446744073709551616) : tw m0 m1 m2 m3 a b < 18446744073709551616 := by
  unfold tw
  refine Nat.or_lt_two_pow (n := 64) (Nat.or_lt_two_pow (n := 64) (Nat.or_lt_two_pow (n := 64) ?_ ?_) ?_) ?_
  · exact Nat.lt_of_le_of_lt (Nat.le_trans Nat.and_le_left Nat.and_le_left) h0
  · exact Nat.lt_of_le_of_lt (Nat.le_trans Nat.and_le_left Nat.and_le_left) h1
  · exact Nat.lt_of_le_of_lt (Nat.le_trans Nat.and_le_left Nat.and_le_left) h2
  · exact Nat.lt_of_le_of_lt (Nat.le_trans Nat.and_le_left Nat.and_le_left) h3
theorem compl_bit (a j : Nat) (ha : a < 18446744073709551616) (hj : j < 64) : (18446744073709551615 - a).testBit j = !a.testBit j := by
  have e : 18446744073709551615 - a = 2 ^ 64 - (a + 1) := by omega
  rw [e, Nat.testBit_two_pow_sub_succ ha, decide_eq_true hj, Bool.true_and]
theorem ttW_bit (t : Nat) (x y : List Bool) (i j : Nat) (hj : j < 64) : (ttW t x y i).testBit j = ttb t (x.getD (64 * i + j) false) (y.getD (64 * i + j) false) := by
  unfold ttW tw
  simp only [Nat.testBit_or, Nat.testBit_and, compl_bit _ _ (wd_lt _ _) hj, cw_bit _ _ hj, wd_testBit, decide_eq_true hj, Bool.true_and]
  unfold ttb
  cases x.getD (64 * i + j) false <;> cases y.getD (64 * i + j) false <;> simp
theorem ttW_trim (t : Nat) (x y : List Bool) : trimW (fillN (ttW t x y) (wc x.length) (wc x.length)) x.length = words (ttL t x y) := by
  have hl : (ttL t x y).length = x.length := tabL_length _ _
  have h := fillN_trim (ttW t x y) (ttL t x y) (fun i _ => tw_lt _ _ _ _ _ _ (cw_lt _) (cw_lt _) (cw_lt _) (cw_lt _)) (fun i j _ hj hlt => by
    rw [hl] at hlt
    rw [ttW_bit t x y i j hj]
    unfold ttL
    rw [tabL_getD, decide_eq_true hlt, Bool.true_and])
  rw [hl] at h
  exact h
theorem u8_flag (t k : Nat) (ht : t < 256) : bits .and .u8 ((t : Int) / 2 ^ k) 1 = ((t.testBit k).toNat : Int) := by
  have h1 : ((t : Int) / 2 ^ k) = ((t / 2 ^ k : Nat) : Int) := by simp
  have h2 : t / 2 ^ k ≤ t := Nat.div_le_self _ _
  have h := u8_and_nat (t / 2 ^ k) 1 (by omega) (by decide)
  rw [h1]
  refine Eq.trans h ?_
  rw [Nat.testBit_eq_decide_div_mod_eq, Nat.and_one_is_mod]
  have h3 : t / 2 ^ k % 2 = 0 ∨ t / 2 ^ k % 2 = 1 := by omega
  rcases h3 with h3 | h3 <;> rw [h3] <;> rfl
theorem neg_flag (b : Bool) : IntKind.u64.wrap (-((b.toNat : Nat) : Int)) = ((cw b : Nat) : Int) := by cases b <;> decide
end Bv

set_option maxHeartbeats 1600000
set_option maxRecDepth 100000 in
theorem truth_yes (t : Nat) (ht : t < 256) (v v' : Value) (x y : List Bool) (w : World) (hv : IsB w v x) (hv' : IsB w v' y) (h : x.length = y.length) :
    Calls Try.prog 74 #[.int .u8 (t : Int), v, v'] w fun e w' => ∃ v2, e = .returned (.tuple #[v2, .bool true]) ∧ OwnB w' w.heap.size v2 (ttL t x y) ∧ Ext w w' := by
  obtain ⟨hl, A, c, rfl, hs⟩ := hv
  obtain ⟨hl', A', c', rfl, hs'⟩ := hv'
  rw [← h] at hs' ⊢
  have hwl : wc x.length ≤ 16384 := by unfold wc; omega
  have HS := Lib.hid hs
  have HS' := Lib.hid hs'
  have HL := Lib.hid hl
  have HH := Lib.hid h
  have HW := Lib.hid (ttW_trim t x y)
  obtain ⟨m, hm⟩ : ∃ m, wc x.length = m := ⟨_, rfl⟩
  obtain ⟨n, hn⟩ : ∃ n, x.length = n := ⟨_, rfl⟩
  rw [hm] at HS HS' HW hwl ⊢
  rw [hn] at HW ⊢
  have HM := Lib.hid hm
  have HN := Lib.hid hn
  obtain ⟨mk, hmk⟩ := makes_u64 m hwl
  have hrun := fun w => (hmk w).1
  have HRUN := Lib.hid hrun
  have HK := Lib.hid hmk
  have hfl := fun k => u8_flag t k ht
  have HF := Lib.hid hfl
  clear hs hs' hl hl' hm hn hmk hrun h hfl
  have HE := Lib.hid (((((Ext.refl w).alloc (.cells #[.slice A m c, .int .i64 (n : Int)] 28)).alloc (.cells #[.slice A' m c', .int .i64 (n : Int)] 28)).alloc (.cells #[.slice none 0 0, .int .i64 0] 28)).alloc (.cells #[.int .u64 0, .int .u64 0, .int .u64 0, .int .u64 0] 137))
  have HZ : Hid (((((((w.alloc (.cells #[.slice A m c, .int .i64 (n : Int)] 28)).alloc (.cells #[.slice A' m c', .int .i64 (n : Int)] 28)).alloc (.cells #[.slice none 0 0, .int .i64 0] 28)).alloc (.cells #[.int .u64 0, .int .u64 0, .int .u64 0, .int .u64 0] 137)).cell? ⟨w.heap.size, 0, none⟩ = some (.slice A m c)) ∧ (((((w.alloc (.cells #[.slice A m c, .int .i64 (n : Int)] 28)).alloc (.cells #[.slice A' m c', .int .i64 (n : Int)] 28)).alloc (.cells #[.slice none 0 0, .int .i64 0] 28)).alloc (.cells #[.int .u64 0, .int .u64 0, .int .u64 0, .int .u64 0] 137)).cell? ⟨w.heap.size, 1, none⟩ = some (.int .i64 (n : Int))) ∧ (((((w.alloc (.cells #[.slice A m c, .int .i64 (n : Int)] 28)).alloc (.cells #[.slice A' m c', .int .i64 (n : Int)] 28)).alloc (.cells #[.slice none 0 0, .int .i64 0] 28)).alloc (.cells #[.int .u64 0, .int .u64 0, .int .u64 0, .int .u64 0] 137)).cell? ⟨w.heap.size + 1, 0, none⟩ = some (.slice A' m c'))) ∧ (((((w.alloc (.cells #[.slice A m c, .int .i64 (n : Int)] 28)).alloc (.cells #[.slice A' m c', .int .i64 (n : Int)] 28)).alloc (.cells #[.slice none 0 0, .int .i64 0] 28)).alloc (.cells #[.int .u64 0, .int .u64 0, .int .u64 0, .int .u64 0] 137)).cell? ⟨w.heap.size + 1 + 1, 0, none⟩ = some (.slice none 0 0)) ∧ (((((w.alloc (.cells #[.slice A m c, .int .i64 (n : Int)] 28)).alloc (.cells #[.slice A' m c', .int .i64 (n : Int)] 28)).alloc (.cells #[.slice none 0 0, .int .i64 0] 28)).alloc (.cells #[.int .u64 0, .int .u64 0, .int .u64 0, .int .u64 0] 137)).cell? ⟨w.heap.size + 1 + 1, 1, none⟩ = some (.int .i64 0)) ∧ (((((w.alloc (.cells #[.slice A m c, .int .i64 (n : Int)] 28)).alloc (.cells #[.slice A' m c', .int .i64 (n : Int)] 28)).alloc (.cells #[.slice none 0 0, .int .i64 0] 28)).alloc (.cells #[.int .u64 0, .int .u64 0, .int .u64 0, .int .u64 0] 137)).frozen? ⟨w.heap.size + 1 + 1, 0, none⟩ = false) ∧ (((((w.alloc (.cells #[.slice A m c, .int .i64 (n : Int)] 28)).alloc (.cells #[.slice A' m c', .int .i64 (n : Int)] 28)).alloc (.cells #[.slice none 0 0, .int .i64 0] 28)).alloc (.cells #[.int .u64 0, .int .u64 0, .int .u64 0, .int .u64 0] 137)).frozen? ⟨w.heap.size + 1 + 1, 1, none⟩ = false)) := by
    refine ⟨⟨?_, ?_, ?_⟩, ?_, ?_, ?_, ?_⟩
    · exact cell_ext' ((((Ext.refl _).alloc _).alloc _).alloc _) (World.cell?_alloc_new w _ _ 0)
    · exact cell_ext' ((((Ext.refl _).alloc _).alloc _).alloc _) (World.cell?_alloc_new w _ _ 1)
    · exact cell_ext' (((Ext.refl _).alloc _).alloc _) ((alloc_at (w := w.alloc (.cells #[.slice A m c, .int .i64 (n : Int)] 28)) (by simp) 0))
    · exact cell_ext' ((Ext.refl _).alloc _) ((alloc_at (w := (w.alloc (.cells #[.slice A m c, .int .i64 (n : Int)] 28)).alloc (.cells #[.slice A' m c', .int .i64 (n : Int)] 28)) (by simp) 0))
    · exact cell_ext' ((Ext.refl _).alloc _) ((alloc_at (w := (w.alloc (.cells #[.slice A m c, .int .i64 (n : Int)] 28)).alloc (.cells #[.slice A' m c', .int .i64 (n : Int)] 28)) (by simp) 1))
    · exact (((Ext.refl _).alloc _).cells.2 _ _ (by simp)).trans (alloc_fr (w := (w.alloc (.cells #[.slice A m c, .int .i64 (n : Int)] 28)).alloc (.cells #[.slice A' m c', .int .i64 (n : Int)] 28)) (by simp) 0)
    · exact (((Ext.refl _).alloc _).cells.2 _ _ (by simp)).trans (alloc_fr (w := (w.alloc (.cells #[.slice A m c, .int .i64 (n : Int)] 28)).alloc (.cells #[.slice A' m c', .int .i64 (n : Int)] 28)) (by simp) 1)
  go_enter Try.func74, Try.ntmps74
  go_wp2_with fail
  go_loopw [20] (fun i wr => ∃ k : Nat, k ≤ 4 ∧ i = .int .i64 k ∧ ((((w.alloc (.cells #[.slice A m c, .int .i64 (n : Int)] 28)).alloc (.cells #[.slice A' m c', .int .i64 (n : Int)] 28)).alloc (.cells #[.slice none 0 0, .int .i64 0] 28)).alloc (.cells #[.int .u64 0, .int .u64 0, .int .u64 0, .int .u64 0] 137)).grownBy wr (some (w.heap.size + 3)) ∧ ∀ j, j < 4 → wr.cell? ⟨w.heap.size + 3, j, none⟩ = some (.int .u64 ((if j < k then cw (t.testBit j) else 0 : Nat) : Int)) ∧ wr.frozen? ⟨w.heap.size + 3, j, none⟩ = false) (fun i _ => 4 - (intOf i).toNat)
  case atStart =>
    refine ⟨0, Nat.zero_le _, rfl, ⟨rfl, rfl, rfl, Nat.le_refl _, fun _ _ _ => rfl⟩, fun j hj => ⟨?_, ?_⟩⟩
    · rw [if_neg (by omega)]
      refine (alloc_at (by simp) j).trans ?_
      match j, hj with
      | 0, _ => rfl
      | 1, _ => rfl
      | 2, _ => rfl
      | 3, _ => rfl
    · exact alloc_fr (by simp) j
  case round =>
    obtain ⟨k, hk, rfl, hgr, hm4⟩ := hrel
    by_cases hlt : k < 4
    · obtain ⟨c0, f0⟩ := hm4 k hlt
      have hfl := HF.out k
      have hng := neg_flag (t.testBit k)
      have H2 := Lib.hid (grown_set (j := k) hgr (.int .u64 ((cw (t.testBit k) : Nat) : Int)))
      have H4 : Hid (∀ j, j < 4 → (wr.setCell ⟨w.heap.size + 3, k, none⟩ (.int .u64 ((cw (t.testBit k) : Nat) : Int))).cell? ⟨w.heap.size + 3, j, none⟩ = some (.int .u64 ((if j < k + 1 then cw (t.testBit j) else 0 : Nat) : Int)) ∧ (wr.setCell ⟨w.heap.size + 3, k, none⟩ (.int .u64 ((cw (t.testBit k) : Nat) : Int))).frozen? ⟨w.heap.size + 3, j, none⟩ = false) := fun j hj => by
        refine ⟨?_, by simpa using (hm4 j hj).2⟩
        by_cases e : j = k
        · subst e
          rw [if_pos (by omega)]
          exact World.cell?_setCell_same _ _ _ c0
        · rw [World.cell?_setCell_other _ _ _ _ (by intro h; injection h with _ h2; exact e h2.symm), (hm4 j hj).1]
          by_cases h : j < k
          · rw [if_pos h, if_pos (by omega)]
          · rw [if_neg h, if_neg (by omega)]
      rw [if_neg (by omega)] at c0
      have hb1 : (0 : Int) ≤ ((t.testBit k).toNat : Int) := by omega
      have hb2 : ((t.testBit k).toNat : Int) ≤ 1 := by have := Bool.toNat_le (t.testBit k); omega
      clear hgr hm4
      generalize cw (t.testBit k) = cv at *
      generalize ((t.testBit k).toNat : Int) = bv at *
      go_wp2
      exact ⟨⟨k + 1, by omega, by go_num, H2.out, H4.out⟩, by simp [intOf]; omega⟩
    · have hk4 : k = 4 := by omega
      subst hk4
      have hk4 : ∀ j, j < 4 → wr.cell? ⟨w.heap.size + 3, j, none⟩ = some (.int .u64 ((cw (t.testBit j) : Nat) : Int)) := fun j hj => by
        have h := (hm4 j hj).1
        rw [if_pos hj] at h
        exact h
      have HX := Lib.hid (grown_ext HE.out hgr (by omega))
      have hsz : w.heap.size + 4 ≤ wr.heap.size := by have := hgr.size; simpa using this
      have b0 : wr.cell? ⟨w.heap.size, 0, none⟩ = some (.slice A m c) := (grown_cell hgr (p := ⟨w.heap.size, 0, none⟩) (by simp; omega) (by simp)).trans HZ.out.1.1
      have b1 : wr.cell? ⟨w.heap.size, 1, none⟩ = some (.int .i64 (n : Int)) := (grown_cell hgr (p := ⟨w.heap.size, 1, none⟩) (by simp; omega) (by simp)).trans HZ.out.1.2.1
      have b2 : wr.cell? ⟨w.heap.size + 1, 0, none⟩ = some (.slice A' m c') := (grown_cell hgr (p := ⟨w.heap.size + 1, 0, none⟩) (by first | (simp; done) | (simp; omega)) (by simp)).trans HZ.out.1.2.2
      have R0 : wr.cell? ⟨w.heap.size + 1 + 1, 0, none⟩ = some (.slice none 0 0) := (grown_cell hgr (p := ⟨w.heap.size + 1 + 1, 0, none⟩) (by simp) (by simp)).trans HZ.out.2.1
      have R1 : wr.cell? ⟨w.heap.size + 1 + 1, 1, none⟩ = some (.int .i64 0) := (grown_cell hgr (p := ⟨w.heap.size + 1 + 1, 1, none⟩) (by simp) (by simp)).trans HZ.out.2.2.1
      have Rf : wr.frozen? ⟨w.heap.size + 1 + 1, 0, none⟩ = false := (grown_frozen hgr (p := ⟨w.heap.size + 1 + 1, 0, none⟩) (by simp) (by simp)).trans HZ.out.2.2.2.1
      have Rf1 : wr.frozen? ⟨w.heap.size + 1 + 1, 1, none⟩ = false := (grown_frozen hgr (p := ⟨w.heap.size + 1 + 1, 1, none⟩) (by simp) (by simp)).trans HZ.out.2.2.2.2
      have HR := Lib.hid (And.intro (And.intro R0 R1) (And.intro Rf Rf1))
      have HB := Lib.hid (And.intro b0 b2)
      have H4 := Lib.hid hk4
      clear hgr hm4 hk4 R0 R1 Rf Rf1 b2
      have hrun := HRUN.out
      go_upto_region 9 with fail
      go_cut [10] (fun s10 wx => ∃ B g : Nat, s10 = .pointer (some ⟨B, 0, none⟩) ∧ OutAt wr m (n : Int) B g wx)
      case first =>
        have HC0 := Lib.hid b0
        have HC1 := Lib.hid b1
        have HE0 := Lib.hid (Ext.refl wr)
        have hx0 : (mk (wr.alloc (.cells #[.slice none 0 0, .int .i64 0] 28)).drew).cell? ⟨wr.heap.size, 0, none⟩ = some (.slice none 0 0) := ((HK.out _).2.2.cells.1 _ _ (by simp)).trans (alloc_at rfl _)
        have hx1 : (mk (wr.alloc (.cells #[.slice none 0 0, .int .i64 0] 28)).drew).cell? ⟨wr.heap.size, 1, none⟩ = some (.int .i64 0) := ((HK.out _).2.2.cells.1 _ _ (by simp)).trans (alloc_at rfl _)
        have hx2 : (mk (wr.alloc (.cells #[.slice none 0 0, .int .i64 0] 28)).drew).frozen? ⟨wr.heap.size, 0, none⟩ = false := ((HK.out _).2.2.cells.2 _ _ (by simp)).trans (alloc_fr rfl _)
        have hx3 : (mk (wr.alloc (.cells #[.slice none 0 0, .int .i64 0] 28)).drew).frozen? ⟨wr.heap.size, 1, none⟩ = false := ((HK.out _).2.2.cells.2 _ _ (by simp)).trans (alloc_fr rfl _)
        have hx4 : wr.heap.size < (mk (wr.alloc (.cells #[.slice none 0 0, .int .i64 0] 28)).drew).heap.size := Nat.lt_of_lt_of_le (by simp) (HK.out _).2.2.size
        clear b0 b1
        go_region_held3 (fun w' => Ext wr w' ∧ w'.cell? ⟨w.heap.size, 0, none⟩ = some (.slice A m c) ∧ w'.cell? ⟨w.heap.size, 1, none⟩ = some (.int .i64 (n : Int)))
          ((go_split_ands; refine keep2 ?_ HC0.out HC1.out; (first | exact HE0.out.drew | exact Ext.trans (by assumption) (HK.out _).2.2 | exact Ext.alloc (by assumption) _ | exact Ext.alloc (Ext.trans HE0.out.drew (HK.out _).2.2) _ | exact (Ext.setCell (Ext.setCell (by assumption) (by first | exact (HK.out _).2.2.size | (simp; done) | (simp; omega)) _) (by first | exact (HK.out _).2.2.size | (simp; done) | (simp; omega)) _)))) (fail)
        all_goals
          go_wp2_with fail
          go_meet
          first
          | exact ⟨_, _, rfl, outAt1 HK.out _ _ _ _ rfl⟩
          | exact ⟨_, _, rfl, outAt2 HK.out _ _ 28 _ rfl⟩
      case rest =>
        obtain ⟨B, g, rfl, hBg, hB, hg, hBl, hgl, o0, o1, hown, hx⟩ := hcut
        have H4B := Lib.hid H4.out
        have c0 := cell_ext' hx HB.out.1
        have c2 := cell_ext' hx HB.out.2
        have hm4 : ∀ j, j < 4 → wc.cell? ⟨w.heap.size + 3, j, none⟩ = some (.int .u64 ((cw (t.testBit j) : Nat) : Int)) := fun j hj => cell_ext' hx (H4.out j hj)
        have R0 : wc.cell? ⟨w.heap.size + 1 + 1, 0, none⟩ = some (.slice none 0 0) := cell_ext' hx HR.out.1.1
        have R1 : wc.cell? ⟨w.heap.size + 1 + 1, 1, none⟩ = some (.int .i64 0) := cell_ext' hx HR.out.1.2
        have Rf : wc.frozen? ⟨w.heap.size + 1 + 1, 0, none⟩ = false := (hx.cells.2 _ _ (by omega)).trans HR.out.2.1
        have Rf1 : wc.frozen? ⟨w.heap.size + 1 + 1, 1, none⟩ = false := (hx.cells.2 _ _ (by omega)).trans HR.out.2.2
        have hXw := HX.out.trans hx
        rw [← fillN_zero (ttW t x y) m] at hown
        have HO := Lib.hid (own_base hown (show w.heap.size + 4 ≤ _ by omega))
        replace HX := Lib.hid hXw
        have hszc : w.heap.size + 4 ≤ wc.heap.size := Nat.le_trans hsz hx.size
        have HRc := Lib.hid (And.intro (And.intro R0 R1) (And.intro Rf Rf1))
        have HBc := Lib.hid (And.intro (And.intro o0 o1) (And.intro c0 c2))
        have HMc := Lib.hid hm4
        clear hx hXw hown hrun R0 R1 Rf Rf1 o1 c0 c2 hm4 H4B b0 b1 HRUN HK HF H4 HB HR HE
        go_wp2_with fail
        go_loopw [43] (fun i wr => ∃ k : Nat, k ≤ m ∧ i = .int .i64 k ∧ wr.ownsRow (w.heap.size + 4) 116 1 (.slice (some ⟨g, 0, none⟩) m m) m (u64s (fillN (ttW t x y) m k)) ∧ wc.grownBy wr (some g)) (fun i _ => m - (intOf i).toNat)
        case atStart => exact ⟨0, Nat.zero_le _, rfl, HO.out, ⟨rfl, rfl, rfl, Nat.le_refl _, fun _ _ _ => rfl⟩⟩
        case round =>
          obtain ⟨k, hk, rfl, hown, hgr⟩ := hrel
          clear HO o0
          have O0 : wr.cell? ⟨B, 0, none⟩ = some (.slice (some ⟨g, 0, none⟩) m m) := (grown_cell hgr hBl hBg).trans HBc.out.1.1
          by_cases hlt : k < m
          · obtain ⟨a, rfl, hab, hcell⟩ := IsB.word (l := x) (by rw [HM.out]; exact HS.out) (by rw [HM.out]; exact hlt)
            obtain ⟨a', rfl, hab', hcell'⟩ := IsB.word (l := y) (by rw [← HH.out, HM.out]; exact HS'.out) (by rw [← HH.out, HM.out]; exact hlt)
            have L0 : wr.cell? (a.add k) = some (.int .u64 ((wd x k : Nat) : Int)) := (grown_cell hgr (by rw [addr_block]; omega) (by rw [addr_block]; omega)).trans (cell_ext' HX.out hcell)
            have L1 : wr.cell? (a'.add k) = some (.int .u64 ((wd y k : Nat) : Int)) := (grown_cell hgr (by rw [addr_block]; omega) (by rw [addr_block]; omega)).trans (cell_ext' HX.out hcell')
            have P0 : wr.cell? ⟨w.heap.size, 0, none⟩ = some (.slice (some a) m c) := (grown_cell hgr (p := ⟨w.heap.size, 0, none⟩) (by simp; omega) (by simp; omega)).trans HBc.out.2.1
            have P1 : wr.cell? ⟨w.heap.size + 1, 0, none⟩ = some (.slice (some a') m c') := (grown_cell hgr (p := ⟨w.heap.size + 1, 0, none⟩) (by simp; omega) (by simp; omega)).trans HBc.out.2.2
            have hq : ∀ j, j < 4 → wr.cell? ⟨w.heap.size + 3, j, none⟩ = some (.int .u64 ((cw (t.testBit j) : Nat) : Int)) := fun j hj => (grown_cell hgr (p := ⟨w.heap.size + 3, j, none⟩) (by simp; omega) (by simp; omega)).trans (HMc.out j hj)
            have M0 := hq 0 (by decide)
            have M1 := hq 1 (by decide)
            have M2 := hq 2 (by decide)
            have M3 := hq 3 (by decide)
            have W0 : wr.cell? ⟨g, k, none⟩ = some (.int .u64 ((0 : Nat) : Int)) := by
              rw [hown.cellAt k (by omega)]
              exact fillN_get _ hlt
            have W1 : wr.frozen? ⟨g, k, none⟩ = false := hown.frozenAt _
            have hst := (hown.stored k (.int .u64 ((ttW t x y k : Nat) : Int))).1
            rw [fillN_set (ttW t x y) hlt] at hst
            have H1 := Lib.hid hst
            have H2 := Lib.hid (grown_set (j := k) hgr (.int .u64 ((ttW t x y k : Nat) : Int)))
            have hxl := wd_lt x k
            have hyl := wd_lt y k
            have h0 := cw_lt (t.testBit 0)
            have h1 := cw_lt (t.testBit 1)
            have h2 := cw_lt (t.testBit 2)
            have h3 := cw_lt (t.testBit 3)
            have hv : ttW t x y k = tw (cw (t.testBit 0)) (cw (t.testBit 1)) (cw (t.testBit 2)) (cw (t.testBit 3)) (wd x k) (wd y k) := rfl
            have HV := Lib.hid hv
            have i2 : (k : Int) < (m : Int) := by omega
            have i3 : (0 : Int) ≤ (k : Int) := by omega
            clear hst hown hgr hcell hcell' hq hv
            have e0 : (18446744073709551615 : Nat) - wd x k < 18446744073709551616 := by omega
            have e1 : (18446744073709551615 : Nat) - wd y k < 18446744073709551616 := by omega
            generalize cw (t.testBit 0) = m0 at *
            generalize cw (t.testBit 1) = m1 at *
            generalize cw (t.testBit 2) = m2 at *
            generalize cw (t.testBit 3) = m3 at *
            generalize wd x k = X at *
            generalize wd y k = Y at *
            obtain ⟨p1, q1⟩ : ∃ p1, m0 &&& (18446744073709551615 - X) = p1 := ⟨_, rfl⟩
            obtain ⟨p2, q2⟩ : ∃ p2, p1 &&& (18446744073709551615 - Y) = p2 := ⟨_, rfl⟩
            obtain ⟨p3, q3⟩ : ∃ p3, m1 &&& (18446744073709551615 - X) = p3 := ⟨_, rfl⟩
            obtain ⟨p4, q4⟩ : ∃ p4, p3 &&& Y = p4 := ⟨_, rfl⟩
            obtain ⟨p5, q5⟩ : ∃ p5, p2 ||| p4 = p5 := ⟨_, rfl⟩
            obtain ⟨p6, q6⟩ : ∃ p6, m2 &&& X = p6 := ⟨_, rfl⟩
            obtain ⟨p7, q7⟩ : ∃ p7, p6 &&& (18446744073709551615 - Y) = p7 := ⟨_, rfl⟩
            obtain ⟨p8, q8⟩ : ∃ p8, p5 ||| p7 = p8 := ⟨_, rfl⟩
            obtain ⟨p9, q9⟩ : ∃ p9, m3 &&& X = p9 := ⟨_, rfl⟩
            obtain ⟨p10, q10⟩ : ∃ p10, p9 &&& Y = p10 := ⟨_, rfl⟩
            have l1 : p1 < 18446744073709551616 := by rw [← q1]; exact Nat.lt_of_le_of_lt Nat.and_le_left h0
            have l2 : p2 < 18446744073709551616 := by rw [← q2]; exact Nat.lt_of_le_of_lt Nat.and_le_left l1
            have l3 : p3 < 18446744073709551616 := by rw [← q3]; exact Nat.lt_of_le_of_lt Nat.and_le_left h1
            have l4 : p4 < 18446744073709551616 := by rw [← q4]; exact Nat.lt_of_le_of_lt Nat.and_le_left l3
            have l5 : p5 < 18446744073709551616 := by rw [← q5]; exact Nat.or_lt_two_pow (n := 64) l2 l4
            have l6 : p6 < 18446744073709551616 := by rw [← q6]; exact Nat.lt_of_le_of_lt Nat.and_le_left h2
            have l7 : p7 < 18446744073709551616 := by rw [← q7]; exact Nat.lt_of_le_of_lt Nat.and_le_left l6
            have l8 : p8 < 18446744073709551616 := by rw [← q8]; exact Nat.or_lt_two_pow (n := 64) l5 l7
            have l9 : p9 < 18446744073709551616 := by rw [← q9]; exact Nat.lt_of_le_of_lt Nat.and_le_left h3
            have l10 : p10 < 18446744073709551616 := by rw [← q10]; exact Nat.lt_of_le_of_lt Nat.and_le_left l9
            have hz : ttW t x y k = p8 ||| p10 := by rw [HV.out]; unfold tw; rw [q1, q2, q3, q4, q5, q6, q7, q8, q9, q10]
            have b1' := u64_andNot_nat m0 X h0 hxl
            have b2' := u64_andNot_nat p1 Y l1 hyl
            have b3' := u64_andNot_nat m1 X h1 hxl
            have b4' := u64_and_nat p3 Y l3 hyl
            have b5' := u64_or_nat p2 p4 l2 l4
            have b6' := u64_and_nat m2 X h2 hxl
            have b7' := u64_andNot_nat p6 Y l6 hyl
            have b8' := u64_or_nat p5 p7 l5 l7
            have b9' := u64_and_nat m3 X h3 hxl
            have b10' := u64_and_nat p9 Y l9 hyl
            have b11' := u64_or_nat p8 p10 l8 l10
            rw [q1] at b1'
            rw [q2] at b2'
            rw [q3] at b3'
            rw [q4] at b4'
            rw [q5] at b5'
            rw [q6] at b6'
            rw [q7] at b7'
            rw [q8] at b8'
            rw [q9] at b9'
            rw [q10] at b10'
            rw [← hz] at b11'
            clear q1 q2 q3 q4 q5 q6 q7 q8 q9 q10 l1 l2 l3 l4 l5 l6 l7 l8 l9 l10 hz e0 e1 h0 h1 h2 h3 hxl hyl HV
            generalize ttW t x y k = V at *
            go_wp2_with fail
            go_quiet (fail)
            go_wp2
            exact ⟨⟨k + 1, by omega, by go_num, H1.out, ⟨H2.out.os, H2.out.tape, H2.out.output, H2.out.size, H2.out.block⟩⟩, by simp [intOf]; omega⟩
          · have hkm : k = m := by omega
            subst hkm
            have O1 : wr.cell? ⟨B, 1, none⟩ = some (.int .i64 (n : Int)) := (grown_cell hgr hBl hBg).trans HBc.out.1.2
            have HG := Lib.hid hgr
            have HO := Lib.hid hown
            have hlt : ∀ z ∈ fillN (ttW t x y) k k, z < 18446744073709551616 := fillN_lt _ _ (fun i _ => tw_lt _ _ _ _ _ _ (cw_lt _) (cw_lt _) (cw_lt _) (cw_lt _))
            have ct := fun w1 => trim_any g k k n (w.heap.size + 4) (fillN (ttW t x y) k k) w1 (by rw [← HN.out]; exact HM.out.symm) (by rw [← HN.out]; exact HL.out) hlt
            rw [HW.out] at ct
            have CT := Lib.hid ct
            clear hgr hown ct hlt
            go_wp2_with fail
            refine (CT.out _ HO.out).mono ?_
            rintro e w3 ⟨rfl, hown3, hg3⟩
            have hBl' : B < wr.heap.size := Nat.lt_of_lt_of_le hBl HG.out.size
            have P0 : w3.cell? ⟨B, 0, none⟩ = some (.slice (some ⟨g, 0, none⟩) k k) := (grown_cell hg3 hBl' hBg).trans O0
            have P1 : w3.cell? ⟨B, 1, none⟩ = some (.int .i64 (n : Int)) := (grown_cell hg3 hBl' hBg).trans O1
            have far : ∀ o, w3.cell? ⟨w.heap.size + 1 + 1, o, none⟩ = wc.cell? ⟨w.heap.size + 1 + 1, o, none⟩ := fun o => (grown_cell hg3 (p := ⟨w.heap.size + 1 + 1, o, none⟩) (by have := HG.out.size; simp; omega) (by simp; omega)).trans (grown_cell HG.out (p := ⟨w.heap.size + 1 + 1, o, none⟩) (by simp; omega) (by simp; omega))
            have farf : ∀ o, w3.frozen? ⟨w.heap.size + 1 + 1, o, none⟩ = wc.frozen? ⟨w.heap.size + 1 + 1, o, none⟩ := fun o => (grown_frozen hg3 (p := ⟨w.heap.size + 1 + 1, o, none⟩) (by have := HG.out.size; simp; omega) (by simp; omega)).trans (grown_frozen HG.out (p := ⟨w.heap.size + 1 + 1, o, none⟩) (by simp; omega) (by simp; omega))
            have Q0 := (far 0).trans HRc.out.1.1
            have Q1 := (far 1).trans HRc.out.1.2
            have Qf := (farf 0).trans HRc.out.2.1
            have Qf1 := (farf 1).trans HRc.out.2.2
            have H1 := Lib.hid hown3
            have H2 := Lib.hid (grown_ext (grown_ext HX.out HG.out (by omega)) hg3 (by omega))
            clear far farf hown3 hg3 O0 O1
            go_wp2_with fail
            refine bodyPost_ret (v := .tuple #[.agg #[.slice (some ⟨g, 0, none⟩) k k, .int .i64 (n : Int)], .bool true]) (by simp [results, Try.results74, go_sem, Q0, Q1]) rfl ⟨_, rfl, ?_, ?_⟩
            · have hn : (ttL t x y).length = n := by rw [show (ttL t x y).length = x.length from tabL_length _ _]; exact HN.out
              refine ⟨by rw [hn, ← HN.out]; exact HL.out, g, k, ?_, by omega, ?_⟩
              · rw [hn, ← HN.out, HM.out]
              · rw [hn, ← HN.out, HM.out]
                exact own_base (ownsRow_setCell_below (ownsRow_setCell_below H1.out (by simp) _) (by simp) _) (by omega)
            · exact (H2.out.setCell (by simp; omega) _).setCell (by simp; omega) _
end Go.Proofs.Ytdfhefnjoekgbaa
