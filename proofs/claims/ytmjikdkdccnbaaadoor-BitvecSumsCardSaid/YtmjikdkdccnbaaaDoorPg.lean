/- Contract of bitvec's Cut. -/
import Derived.Test.YtmjikdkdccnbaaaDoorPs
import Derived.Test.YtmjikdkdccnbaaaDoorPt
import Derived.StillTailTactics
namespace Go.Proofs.YtmjikdkdccnbaaaDoor
open Go.RowKit Bv

theorem keep_set {wr : World} {g k : Nat} {v u : Value} {p : Addr} (h : wr.cell? p = some u) (hp : p.block ≠ g) : ((wr.setCell ⟨g, k, none⟩ v).drew).cell? p = some u :=
  (World.cell?_setCell_far wr ⟨g, k, none⟩ p v (Ne.symm hp)).trans h
theorem grown_drew {a b : World} {g : Option Nat} (h : a.grownBy b g) : a.grownBy b.drew g := ⟨h.os, h.tape, h.output, h.size, h.block⟩
theorem u64_shl (y s : Nat) : IntKind.u64.wrap ((y : Int) * 2 ^ s) = ((y * 2 ^ s % 18446744073709551616 : Nat) : Int) := by
  have e : (y : Int) * 2 ^ s = ((y * 2 ^ s : Nat) : Int) := by simp
  rw [e]
  simp only [IntKind.wrap, IntKind.bits, IntKind.signed]
  simp
namespace Bv
def cutHi (l : List Bool) (q r : Nat) : Nat := if 0 < r ∧ q + 1 < wc l.length then wd l (q + 1) * 2 ^ (64 - r) % 18446744073709551616 else 0
/-- a word of a cut -/
def cutW (l : List Bool) (a i : Nat) : Nat := (wd l ((a + 64 * i) / 64) / 2 ^ (a % 64)) ||| cutHi l ((a + 64 * i) / 64) (a % 64)
theorem cutHi_lt (l : List Bool) (q r : Nat) : cutHi l q r < 18446744073709551616 := by
  unfold cutHi; split
  · exact Nat.mod_lt _ (by decide)
  · decide
theorem cutW_lt (l : List Bool) (a i : Nat) : cutW l a i < 18446744073709551616 :=
  Nat.or_lt_two_pow (n := 64) (Nat.lt_of_le_of_lt (Nat.div_le_self _ _) (wd_lt _ _)) (cutHi_lt _ _ _)
theorem cutHi_bit (l : List Bool) (q r j : Nat) (hr : r < 64) (hj : j < 64) : (cutHi l q r).testBit j = (decide (64 - r ≤ j) && l.getD (64 * (q + 1) + (j - (64 - r))) false) := by
  unfold cutHi
  by_cases h : 0 < r ∧ q + 1 < wc l.length
  · rw [if_pos h, show (18446744073709551616 : Nat) = 2 ^ 64 by rfl, Nat.testBit_mod_two_pow, decide_eq_true hj, Bool.true_and, Nat.mul_comm]
    have h2 := Nat.testBit_two_pow_mul_add (i := 64 - r) (wd l (q + 1)) (Nat.two_pow_pos (64 - r)) j
    simp only [Nat.add_zero, Nat.zero_testBit] at h2
    rw [h2]
    by_cases hjs : j < 64 - r
    · rw [if_pos hjs, decide_eq_false (by omega)]; rfl
    · rw [if_neg hjs, decide_eq_true (by omega), wd_testBit, decide_eq_true (by omega)]
  · rw [if_neg h, Nat.zero_testBit]
    by_cases hjs : 64 - r ≤ j
    · rw [getD_past l _ (by unfold wc at h; omega), Bool.and_false]
    · rw [decide_eq_false hjs]; rfl
theorem cutW_bit (l : List Bool) (a i j : Nat) (hj : j < 64) : (cutW l a i).testBit j = l.getD (a + (64 * i + j)) false := by
  unfold cutW
  rw [Nat.testBit_or, Nat.testBit_div_two_pow, wd_testBit, cutHi_bit l _ _ j (Nat.mod_lt _ (by decide)) hj]
  by_cases h : 64 - a % 64 ≤ j
  · rw [decide_eq_false (by omega), decide_eq_true h, Bool.false_and, Bool.true_and, Bool.false_or]
    congr 1
    omega
  · rw [decide_eq_true (by omega), decide_eq_false h, Bool.false_and, Bool.true_and, Bool.or_false]
    congr 1
    omega
/-- those from a place on, so many -/
def cutL (l : List Bool) (a k : Nat) : List Bool := (l.drop a).take k
theorem cutL_length (l : List Bool) (a k : Nat) (h : a + k ≤ l.length) : (cutL l a k).length = k := by simp [cutL]; omega
theorem cutL_getD (l : List Bool) (a k j : Nat) (hj : j < k) : (cutL l a k).getD j false = l.getD (a + j) false := by
  simp [cutL, List.getD, hj]
theorem cutWs (l : List Bool) (a k : Nat) (h : a + k ≤ l.length) : trimW (fillN (cutW l a) (wc k) (wc k)) k = words (cutL l a k) := by
  have hl := cutL_length l a k h
  have h2 := fillN_trim (cutW l a) (cutL l a k) (fun i _ => cutW_lt l a i) (fun i j _ hj hlt => by
    rw [hl] at hlt
    rw [cutW_bit l a i j hj, cutL_getD l a k _ hlt])
  rw [hl] at h2
  exact h2
theorem clampLo_eq (x : Int) (n a : Nat) (h : a ≤ n) : ∃ (m : Int) (b : Nat), max a (clampN x n) = b ∧ a ≤ b ∧ b ≤ n ∧ (if (n : Int) < x then (n : Int) else x) = m ∧ (if (a : Int) < m then m else (a : Int)) = (b : Int) := by
  refine ⟨_, max a (clampN x n), rfl, by omega, by have := clampN_le x n; omega, rfl, ?_⟩
  unfold clampN; split <;> split <;> omega
theorem bits_or_cut (x y : Nat) (hx : x < 18446744073709551616) (hy : y < 18446744073709551616) : bits .or .u64 (x : Int) (y : Int) = ((x ||| y : Nat) : Int) := u64_or_nat x y hx hy
end Bv

set_option maxHeartbeats 1600000
theorem cut_any (v : Value) (l : List Bool) (x y : Int) (w : World) (hv : IsB w v l) :
    Calls Tryd.prog 24 #[v, .int .i64 x, .int .i64 y] w fun e w' => ∃ v', e = .returned v' ∧ OwnB w' w.heap.size v' (cutL l (clampN x l.length) (max (clampN x l.length) (clampN y l.length) - clampN x l.length)) ∧ Ext w w' := by
  obtain ⟨hl, A, c, rfl, hs⟩ := hv
  obtain ⟨m1, a0, hnc, ha0, he1, he2⟩ := clampN_eq x l.length
  obtain ⟨m2, b0, hnb, hab, hb0, he3, he4⟩ := clampLo_eq y l.length a0 ha0
  rw [hnc, hnb]
  have HS := Lib.hid hs
  have hcl := cutL_length l a0 (b0 - a0) (by omega)
  have HW := Lib.hid (cutWs l a0 (b0 - a0) (by omega))
  have HL : Hid ((cutL l a0 (b0 - a0)).length = b0 - a0) := hcl
  have hsub : (b0 : Int) - (a0 : Int) = ((b0 - a0 : Nat) : Int) := by omega
  have hq : ∀ i, i < wc (b0 - a0) → (a0 + 64 * i) / 64 < wc l.length := fun i hi => by unfold wc at *; omega
  have HQ := Lib.hid hq
  have ha1 : a0 ≤ 1048576 := by omega
  have hn1 : b0 - a0 ≤ 1048576 := by omega
  have hmk := make_false_nat (b0 - a0) hn1
  have hz : words (List.replicate (b0 - a0) false) = fillN (cutW l a0) (wc (b0 - a0)) 0 := by rw [words_false, fillN_zero]
  rw [hz] at hmk
  have MK := Lib.hid hmk
  have hwl : wc l.length ≤ 16384 := by unfold wc; omega
  have hwk : wc (b0 - a0) ≤ 16384 := by unfold wc; omega
  generalize hd : b0 - a0 = d at *
  clear hs hl hcl hq hmk hz hnc hnb ha0 hb0 hd
  obtain ⟨ml, hml⟩ : ∃ ml, wc l.length = ml := ⟨_, rfl⟩
  have HML := Lib.hid hml
  rw [hml] at HS HQ hwl ⊢
  clear hml
  obtain ⟨m, hm⟩ : ∃ m, wc d = m := ⟨_, rfl⟩
  have HM := Lib.hid hm
  rw [hm] at HW HQ MK hwk
  clear hm
  generalize (l.length : Int) = n at *
  go_enter Tryd.func24, Tryd.ntmps24
  go_wp2_with fail
  refine (MK.out _).mono ?_
  rintro e w2 ⟨g, c2, rfl, hg, hown, hx2⟩
  have HX2 := Lib.hid hx2
  have hs2 : w.heap.size + 2 ≤ w2.heap.size := by have := hx2.size; simpa using this
  have hg' : w.heap.size + 2 ≤ g := by simpa using hg
  have hgs : g < w2.heap.size := (hown.lt g rfl).2
  have B0 : w2.cell? ⟨w.heap.size, 0, none⟩ = some (.slice A ml c) := cell_ext'' hx2 (by simp)
  have R0 : w2.cell? ⟨w.heap.size + 1, 0, none⟩ = some (.slice none 0 0) := cell_ext'' hx2 (by simp)
  have R1 : w2.cell? ⟨w.heap.size + 1, 1, none⟩ = some (.int .i64 0) := cell_ext'' hx2 (by simp)
  have Rf : w2.frozen? ⟨w.heap.size + 1, 0, none⟩ = false := (hx2.cells.2 _ _ (by simp)).trans (by simp)
  have Rf1 : w2.frozen? ⟨w.heap.size + 1, 1, none⟩ = false := (hx2.cells.2 _ _ (by simp)).trans (by simp)
  have HR := Lib.hid (And.intro (And.intro R0 R1) (And.intro Rf Rf1))
  have HB := Lib.hid B0
  have HO := Lib.hid ((own_base hown (show w.heap.size + 2 ≤ _ by simp)).alloc (.cells #[.slice (some ⟨g, 0, none⟩) m c2, .int .i64 (d : Int)] 26))
  clear hown hg hx2 R0 R1 Rf Rf1 B0 he1 he2 he3 he4 hsub
  go_wp2_with fail
  go_loopw [30] (fun i wr => ∃ k : Nat, k ≤ m ∧ i = .int .i64 k ∧ wr.ownsRow (w.heap.size + 2) 55 1 (.slice (some ⟨g, 0, none⟩) m c2) m (u64s (fillN (cutW l a0) m k)) ∧ (w2.alloc (.cells #[.slice (some ⟨g, 0, none⟩) m c2, .int .i64 (d : Int)] 26)).grownBy wr (some g)) (fun i _ => m - (intOf i).toNat)
  case atStart => exact ⟨0, Nat.zero_le _, rfl, HO.out, ⟨rfl, rfl, rfl, Nat.le_refl _, fun _ _ _ => rfl⟩⟩
  case round =>
    obtain ⟨k, hk, rfl, hown, hgr⟩ := hrel
    clear HO
    have O0 : wr.cell? ⟨w2.heap.size, 0, none⟩ = some (.slice (some ⟨g, 0, none⟩) m c2) := (grown_cell hgr (p := ⟨w2.heap.size, 0, none⟩) (by simp) (by simp; omega)).trans (by simp)
    by_cases hlt : k < m
    · have P0 : wr.cell? ⟨w.heap.size, 0, none⟩ = some (.slice A ml c) := (grown_cell hgr (p := ⟨w.heap.size, 0, none⟩) (by simp; omega) (by simp; omega)).trans ((World.cell?_alloc_lt w2 _ ⟨w.heap.size, 0, none⟩ (by simp; omega)).trans HB.out)
      have hqk := HQ.out k hlt
      have hcell : ∀ i, i < ml → ∃ a, A = some a ∧ a.block < w.heap.size ∧ wr.cell? (a.add i) = some (.int .u64 ((wd l i : Nat) : Int)) := fun i hi => by
        obtain ⟨a, e, hab, hc⟩ := IsB.word (l := l) (by rw [HML.out]; exact HS.out) (i := i) (by rw [HML.out]; exact hi)
        refine ⟨a, e, hab, ?_⟩
        have h1 := cell_ext'' ((((Ext.refl w).alloc (.cells #[.slice A ml c, .int .i64 n] 26)).alloc (.cells #[.slice none 0 0, .int .i64 0] 26)).trans HX2.out) hc
        exact (grown_cell hgr (by rw [addr_block]; simp; omega) (by rw [addr_block]; omega)).trans ((World.cell?_alloc_lt w2 _ _ (by rw [addr_block]; omega)).trans h1)
      have W0 : wr.cell? ⟨g, k, none⟩ = some (.int .u64 ((0 : Nat) : Int)) := by
        rw [hown.cellAt k (by omega)]
        exact fillN_get _ hlt
      have W1 : wr.frozen? ⟨g, k, none⟩ = false := hown.frozenAt _
      obtain ⟨T, hT⟩ : ∃ T, a0 + 64 * k = T := ⟨_, rfl⟩
      have hkm2 : k < 16384 := by omega
      have eat : (a0 : Int) + (k : Int) * 64 = (T : Int) := by omega
      obtain ⟨r, hr⟩ : ∃ r, T % 64 = r := ⟨_, rfl⟩
      have e63 : bits .and .i64 (T : Int) 63 = ((r : Nat) : Int) := by rw [i64_and63 (T : Int) (by omega) (by omega), ← hr]; omega
      have hr64 : r < 64 := by omega
      obtain ⟨Q, hQ⟩ : ∃ Q, T / 64 = Q := ⟨_, rfl⟩
      have eQ : (T : Int) / 64 = (Q : Int) := by omega
      rw [hT, hQ] at hqk
      obtain ⟨a, rfl, hab1, L0⟩ := hcell (Q) hqk
      have hcw : cutW l a0 k = wd l (Q) / 2 ^ r ||| cutHi l (Q) r := by unfold cutW; rw [hT, hQ, show a0 % 64 = r by omega]
      have hv1 : ((wd l (Q) : Nat) : Int) / 2 ^ r = ((wd l (Q) / 2 ^ r : Nat) : Int) := by simp
      have hst := fun u1 u2 => (((hown.stored k u1).1).stored k u2).1
      have hst1 := fun u1 => (hown.stored k u1).1
      simp only [List.set_set] at hst
      have hset := fillN_set (cutW l a0) hlt
      have HST := Lib.hid (And.intro hst (And.intro hst1 hset))
      have HG := Lib.hid hgr
      have HT := Lib.hid (And.intro hT (And.intro hr hQ))
      have hgb : w.heap.size ≠ g := by omega
      have hgb2 : w2.heap.size ≠ g := by omega
      have hgb3 : a.block ≠ g := by omega
      have hx1 : wd l (Q) / 2 ^ r < 18446744073709551616 := Nat.lt_of_le_of_lt (Nat.div_le_self _ _) (wd_lt _ _)
      have hT1 : T ≤ 4194304 := by omega
      clear hown hgr hst hst1 hset hT hr hQ
      have i1 : (Q : Int) < (ml : Int) := by omega
      have i0 : (0 : Int) ≤ (Q : Int) := by omega
      have i2 : (k : Int) < (m : Int) := by omega
      have i3 : (0 : Int) ≤ (k : Int) := by omega
      by_cases hc : 0 < r ∧ Q + 1 < ml
      · obtain ⟨hc1, hc2⟩ := hc
        obtain ⟨Q1, hQ1⟩ : ∃ Q1, Q + 1 = Q1 := ⟨_, rfl⟩
        obtain ⟨rr, hrr⟩ : ∃ rr, 64 - r = rr := ⟨_, rfl⟩
        have s1 : IntKind.i64.wrap ((Q : Int) + 1) = (Q1 : Int) := by rw [wraps_i64 _ (by omega) (by omega)]; omega
        have s2 : IntKind.u64.wrap (64 - (r : Int)) = (rr : Int) := by
          simp only [IntKind.wrap, IntKind.bits, IntKind.signed]
          simp
          omega
        have s3 : (0 : Int) ≤ (Q1 : Int) := by omega
        have s4 : (Q1 : Int) < (ml : Int) := by omega
        obtain ⟨a', ea', hab2, L1⟩ := hcell (Q + 1) hc2
        obtain rfl : a = a' := by injection ea'
        have hh : cutHi l Q r = wd l (Q + 1) * 2 ^ (64 - r) % 18446744073709551616 := by unfold cutHi; rw [HML.out, if_pos ⟨hc1, hc2⟩]
        have hsh := u64_shl (wd l (Q + 1)) (64 - r)
        rw [← hh, hrr] at hsh
        rw [hQ1] at L1
        have hhl := cutHi_lt l Q r
        have hor := u64_or_nat (wd l Q / 2 ^ r) (cutHi l Q r) hx1 hhl
        rw [← hcw] at hor
        have H1 := Lib.hid (show ((wr.setCell ⟨g, k, none⟩ (.int .u64 ((wd l Q / 2 ^ r : Nat) : Int))).setCell ⟨g, k, none⟩ (.int .u64 ((cutW l a0 k : Nat) : Int))).ownsRow (w.heap.size + 2) 55 1 (.slice (some ⟨g, 0, none⟩) m c2) m (u64s (fillN (cutW l a0) m (k + 1))) by
          have h := HST.out.1 (.int .u64 ((wd l Q / 2 ^ r : Nat) : Int)) (.int .u64 ((cutW l a0 k : Nat) : Int)); rw [HST.out.2.2] at h; exact h)
        have H2 := Lib.hid (grown_set (j := k) (grown_set (j := k) HG.out (.int .u64 ((wd l Q / 2 ^ r : Nat) : Int))) (.int .u64 ((cutW l a0 k : Nat) : Int)))
        have hcv := cutW_lt l a0 k
        have hq3 : (Q : Int) + 1 < (ml : Int) := by omega
        have S12 := Lib.hid (And.intro s1 s2)
        clear s1 s2
        have hr1 : (0 : Int) < (r : Int) := by omega
        clear hcw hcell ea' hh
        generalize wd l Q / 2 ^ r = v1 at *
        generalize wd l Q = X at *
        rw [hQ1] at hsh
        generalize wd l Q1 = X2 at *
        generalize cutHi l Q r = hi at *
        generalize cutW l a0 k = cv at *
        go_wp2_with fail
        go_region_held3 (fun w' => w'.cell? ⟨w2.heap.size, 0, none⟩ = some (.slice (some ⟨g, 0, none⟩) m c2) ∧ w'.cell? ⟨w.heap.size, 0, none⟩ = some (.slice (some a) ml c) ∧ w'.cell? (a.add (Q)) = some (.int .u64 (X : Int)))
          ((first | exact ⟨keep_set O0 hgb2, keep_set P0 hgb, keep_set L0 (by rw [addr_block]; exact hgb3)⟩ | go_keep)) (fail)
        have HH := Lib.hid (And.intro (keep_set (g := g) (k := k) (v := .int .u64 (v1 : Int)) O0 hgb2) (And.intro (keep_set (g := g) (k := k) (v := .int .u64 (v1 : Int)) P0 hgb) (keep_set (g := g) (k := k) (v := .int .u64 (v1 : Int)) L1 (by rw [addr_block]; exact hgb3))))
        have c0 := HH.out.1
        have c1 := HH.out.2.1
        have c2' := HH.out.2.2
        have c3 : ((wr.setCell ⟨g, k, none⟩ (.int .u64 (v1 : Int))).drew).cell? ⟨g, k, none⟩ = some (.int .u64 (v1 : Int)) := World.cell?_setCell_same _ _ _ W0
        have c4 : ((wr.setCell ⟨g, k, none⟩ (.int .u64 (v1 : Int))).drew).frozen? ⟨g, k, none⟩ = false := by
          show (wr.setCell ⟨g, k, none⟩ (.int .u64 (v1 : Int))).frozen? ⟨g, k, none⟩ = false
          simpa using W1
        generalize hw3 : (wr.setCell ⟨g, k, none⟩ (.int .u64 (v1 : Int))).drew = w3 at *
        have HW3 := Lib.hid hw3
        clear hw3 O0 P0 L0 L1 W0 W1
        go_wp2_with fail
        have d0 : w3.drew.cell? ⟨w2.heap.size, 0, none⟩ = some (.slice (some ⟨g, 0, none⟩) m c2) := c0
        have d1 : w3.drew.cell? ⟨w.heap.size, 0, none⟩ = some (.slice (some a) ml c) := c1
        have d2 : w3.drew.cell? (a.add Q1) = some (.int .u64 (X2 : Int)) := c2'
        have d3 : w3.drew.cell? ⟨g, k, none⟩ = some (.int .u64 (v1 : Int)) := c3
        have d4 : w3.drew.frozen? ⟨g, k, none⟩ = false := c4
        have e0 : ({ heap := w3.heap, tape := w3.tape, drawn := w3.drawn + 1, os := w3.os, output := w3.output } : World) = w3.drew := rfl
        refine wp_region_still_tail 16 (by kernel_rfl) (by kernel_rfl) ?_
        simp only [List.take_succ_cons, List.take_zero, List.drop_succ_cons, List.drop_zero]
        rw [e0]
        generalize hw4 : w3.drew = w4 at *
        have HW4 := Lib.hid hw4
        clear c0 c1 c2' c3 c4 e0 hw4
        have s1 := S12.out.1
        have s2 := S12.out.2
        repeat still_step
        refine wpStill_nil ?_
        go_wp2
        refine ⟨⟨k + 1, by omega, by go_num, ?_, ?_⟩, by simp [intOf]; omega⟩
        · rw [← HW4.out, ← HW3.out]; exact H1.out
        · rw [← HW4.out, ← HW3.out]; exact ⟨H2.out.os, H2.out.tape, H2.out.output, H2.out.size, H2.out.block⟩
      · have hz : cutHi l (Q) r = 0 := by unfold cutHi; rw [HML.out, if_neg hc]
        rw [hz, Nat.or_zero] at hcw
        have H1 := Lib.hid (show (wr.setCell ⟨g, k, none⟩ (.int .u64 ((wd l (Q) / 2 ^ r : Nat) : Int))).ownsRow (w.heap.size + 2) 55 1 (.slice (some ⟨g, 0, none⟩) m c2) m (u64s (fillN (cutW l a0) m (k + 1))) by
          have h := HST.out.2.1 (.int .u64 ((wd l (Q) / 2 ^ r : Nat) : Int)); rw [← hcw, HST.out.2.2] at h; rw [← hcw]; exact h)
        have H2 := Lib.hid (grown_set (j := k) HG.out (.int .u64 ((wd l (Q) / 2 ^ r : Nat) : Int)))
        have hgd : (decide ((0 : Int) < (r : Int)) && decide ((Q : Int) + 1 < (ml : Int))) = false := by
          rw [Bool.and_eq_false_iff, decide_eq_false_iff_not, decide_eq_false_iff_not]; omega
        clear hz hcw hcell
        generalize wd l (Q) / 2 ^ r = v1 at *
        generalize wd l (Q) = X at *
        have hc2 : 0 < r → ¬ (Q : Int) + 1 < (ml : Int) := by omega
        clear hc
        by_cases hr0 : 0 < r
        · have hq3 := hc2 hr0
          clear hc2
          go_wp2_with fail
          go_region_held3 (fun w' => w'.cell? ⟨w2.heap.size, 0, none⟩ = some (.slice (some ⟨g, 0, none⟩) m c2) ∧ w'.cell? ⟨w.heap.size, 0, none⟩ = some (.slice (some a) ml c) ∧ w'.cell? (a.add (Q)) = some (.int .u64 (X : Int)))
            ((first | exact ⟨keep_set O0 hgb2, keep_set P0 hgb, keep_set L0 (by rw [addr_block]; exact hgb3)⟩ | go_keep)) (fail)
          go_wp2
          exact ⟨⟨k + 1, by omega, by go_num, H1.out, grown_drew H2.out⟩, by simp [intOf]; omega⟩
        · clear hc2
          go_wp2_with fail
          go_region_held3 (fun w' => w'.cell? ⟨w2.heap.size, 0, none⟩ = some (.slice (some ⟨g, 0, none⟩) m c2) ∧ w'.cell? ⟨w.heap.size, 0, none⟩ = some (.slice (some a) ml c) ∧ w'.cell? (a.add (Q)) = some (.int .u64 (X : Int)))
            ((first | exact ⟨keep_set O0 hgb2, keep_set P0 hgb, keep_set L0 (by rw [addr_block]; exact hgb3)⟩ | go_keep)) (fail)
          go_wp2
          exact ⟨⟨k + 1, by omega, by go_num, H1.out, grown_drew H2.out⟩, by simp [intOf]; omega⟩
    · have hkm : k = m := by omega
      subst hkm
      have O1 : wr.cell? ⟨w2.heap.size, 1, none⟩ = some (.int .i64 (d : Int)) := (grown_cell hgr (p := ⟨w2.heap.size, 1, none⟩) (by simp) (by simp; omega)).trans (by simp)
      have HG := Lib.hid hgr
      have HO := Lib.hid hown
      have hlt' : ∀ x ∈ fillN (cutW l a0) k k, x < 18446744073709551616 := fillN_lt _ _ (fun i _ => cutW_lt l a0 i)
      have ct := fun w1 => trim_any g k c2 d (w.heap.size + 2) (fillN (cutW l a0) k k) w1 HM.out.symm hn1 hlt'
      rw [HW.out] at ct
      have CT := Lib.hid ct
      clear hgr hown ct hlt'
      go_wp2_with fail
      refine (CT.out _ HO.out).mono ?_
      rintro e w3 ⟨rfl, hown3, hg3⟩
      have hBl' : w2.heap.size < wr.heap.size := Nat.lt_of_lt_of_le (by simp) HG.out.size
      have P0 : w3.cell? ⟨w2.heap.size, 0, none⟩ = some (.slice (some ⟨g, 0, none⟩) k c2) := (grown_cell hg3 hBl' (by simp; omega)).trans O0
      have P1 : w3.cell? ⟨w2.heap.size, 1, none⟩ = some (.int .i64 (d : Int)) := (grown_cell hg3 hBl' (by simp; omega)).trans O1
      have far : ∀ o, w3.cell? ⟨w.heap.size + 1, o, none⟩ = w2.cell? ⟨w.heap.size + 1, o, none⟩ := fun o => (grown_cell hg3 (p := ⟨w.heap.size + 1, o, none⟩) (by simp; omega) (by simp; omega)).trans ((grown_cell HG.out (p := ⟨w.heap.size + 1, o, none⟩) (by simp; omega) (by simp; omega)).trans (World.cell?_alloc_lt w2 _ ⟨w.heap.size + 1, o, none⟩ (by simp; omega)))
      have farf : ∀ o, w3.frozen? ⟨w.heap.size + 1, o, none⟩ = w2.frozen? ⟨w.heap.size + 1, o, none⟩ := fun o => (grown_frozen hg3 (p := ⟨w.heap.size + 1, o, none⟩) (by simp; omega) (by simp; omega)).trans ((grown_frozen HG.out (p := ⟨w.heap.size + 1, o, none⟩) (by simp; omega) (by simp; omega)).trans (((Ext.refl w2).alloc _).cells.2 _ _ (by omega)))
      have Q0 := (far 0).trans HR.out.1.1
      have Q1 := (far 1).trans HR.out.1.2
      have Qf := (farf 0).trans HR.out.2.1
      have Qf1 := (farf 1).trans HR.out.2.2
      have H1 := Lib.hid hown3
      have hxw : Ext w w2 := (((Ext.refl w).alloc _).alloc _).trans HX2.out
      have H2 := Lib.hid (grown_ext (grown_ext (hxw.alloc _) HG.out (by omega)) hg3 (by omega))
      clear far farf hown3 hg3 O0 O1 hxw
      go_wp2_with fail
      refine bodyPost_ret (v := .agg #[.slice (some ⟨g, 0, none⟩) k c2, .int .i64 (d : Int)]) (by simp [results, Tryd.results24, go_sem, Q0, Q1]) rfl ⟨_, rfl, ?_, ?_⟩
      · refine ⟨by rw [HL.out]; exact hn1, g, c2, ?_, by omega, ?_⟩
        · rw [HL.out, HM.out]
        · rw [HL.out, HM.out]
          exact own_base (ownsRow_setCell_below (ownsRow_setCell_below H1.out (by simp) _) (by simp) _) (by omega)
      · exact (H2.out.setCell (by simp) _).setCell (by simp) _
end Go.Proofs.YtmjikdkdccnbaaaDoor
