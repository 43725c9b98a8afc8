/- A region that makes a row and a struct in either order; words filled one by one; bitvec's Not. -/
import Derived.Test.YtmjikdkdccnbaaaDoorPr
import Derived.Deep.RegionHeld3
import Derived.Deep.DeepCutAuto
namespace Go.Proofs.YtmjikdkdccnbaaaDoor
open Go.RowKit Bv

/-- a make of so many zeros, as a function on worlds: for a region that draws its order -/
def Makes (m : Nat) (mk : World → World) : Prop :=
  ∀ w, (Instr.makeSlice 24 (.int .i64 (m : Int)) (.int .i64 (m : Int))).run Tryd.prog w = .ok (.slice (some ⟨w.heap.size, 0, none⟩) m m) (mk w)
    ∧ (mk w).ownsRow w.heap.size 55 1 (.slice (some ⟨w.heap.size, 0, none⟩) m m) m (u64s (List.replicate m 0)) ∧ Ext w (mk w)
theorem makes_u64 (m : Nat) (hm : m ≤ 16384) : ∃ mk, Makes m mk := by
  obtain ⟨i0, hi0, hz0, hz1, hz2⟩ := info_parts infoW
  have hsz : i0.bytes * m ≤ 281474976710656 := by rw [hz2]; omega
  have h : ∀ w : World, ∃ w' : World, (Instr.makeSlice 24 (.int .i64 (m : Int)) (.int .i64 (m : Int))).run Tryd.prog w = .ok (.slice (some ⟨w.heap.size, 0, none⟩) m m) w' ∧ w'.ownsRow w.heap.size 55 1 (.slice (some ⟨w.heap.size, 0, none⟩) m m) m (u64s (List.replicate m 0)) ∧ Ext w w' := fun w => by
    obtain ⟨w', hrun, r1, r2⟩ := run_make_full (P := Tryd.prog) w w.heap.size 24 55 i0 (.int .u64 0) 1 Tryd.underlying24 hi0 hz0 hz1 .i64 .i64 m hsz (by simp only [maxLen]; omega) (Nat.le_refl _)
    refine ⟨w', hrun, ?_, ext_none r2⟩
    have e : (madeCells #[Value.int .u64 0] m).toList = u64s (List.replicate m 0) := (toList_madeCells_one _ _).trans (by simp [u64s])
    rw [← e]
    rw [Nat.mul_one] at r1
    exact r1
  exact ⟨fun w => Classical.choose (h w), fun w => Classical.choose_spec (h w)⟩
theorem alloc_at {w : World} {us : Array Value} {t : TypeId} {B : Nat} (hB : B = w.heap.size) (j : Nat) : ((w.alloc (.cells us t)).drew).cell? ⟨B, j, none⟩ = us[j]? := by
  subst hB
  exact World.cell?_alloc_new w us t j
theorem alloc_fr {w : World} {us : Array Value} {t : TypeId} {B : Nat} (hB : B = w.heap.size) (j : Nat) : ((w.alloc (.cells us t)).drew).frozen? ⟨B, j, none⟩ = false := by
  subst hB
  show (w.alloc (.cells us t)).frozen? _ = false
  simp
theorem cell_ext' {w w' : World} {p : Addr} {u : Value} (hx : Ext w w') (h : w.cell? p = some u) : w'.cell? p = some u := (Below.cell hx (World.block_lt_of_cell? _ _ h)).trans h
/-- a struct of packed booleans at B, its row of zeros at g -/
def OutAt (W0 : World) (m : Nat) (n : Int) (B g : Nat) (wx : World) : Prop :=
  B ≠ g ∧ W0.heap.size ≤ B ∧ W0.heap.size ≤ g ∧ B < wx.heap.size ∧ g < wx.heap.size ∧ wx.cell? ⟨B, 0, none⟩ = some (.slice (some ⟨g, 0, none⟩) m m) ∧ wx.cell? ⟨B, 1, none⟩ = some (.int .i64 n)
    ∧ wx.ownsRow W0.heap.size 55 1 (.slice (some ⟨g, 0, none⟩) m m) m (u64s (List.replicate m 0)) ∧ Ext W0 wx
theorem outAt1 {m : Nat} {mk : World → World} (hk : Makes m mk) (W0 : World) (n : Int) (t : TypeId) (S : Nat) (hS : S = W0.heap.size) : OutAt W0 m n (mk W0.drew).heap.size S ((mk W0.drew).alloc (.cells #[.slice (some ⟨S, 0, none⟩) m m, .int .i64 n] t)) := by
  subst hS
  obtain ⟨_, ho, hx⟩ := hk W0.drew
  have hl : W0.heap.size < (mk W0.drew).heap.size := (ho.lt _ rfl).2
  refine ⟨by omega, by omega, Nat.le_refl _, by simp, by simp; omega, by simp, by simp, ho.alloc _, ((Ext.refl W0).drew.trans hx).alloc _⟩
theorem outAt2 {m : Nat} {mk : World → World} (hk : Makes m mk) (W0 : World) (n : Int) (t : TypeId) (S : Nat) (hS : S = W0.heap.size) : OutAt W0 m n S (S + 1) (((mk (W0.alloc (.cells #[.slice none 0 0, .int .i64 0] t)).drew).setCell ⟨S, 0, none⟩ (.slice (some ⟨S + 1, 0, none⟩) m m)).setCell ⟨S, 1, none⟩ (.int .i64 n)) := by
  subst hS
  obtain ⟨_, ho, hx⟩ := hk (W0.alloc (.cells #[.slice none 0 0, .int .i64 0] t)).drew
  have e : (W0.alloc (.cells #[.slice none 0 0, .int .i64 0] t)).drew.heap.size = W0.heap.size + 1 := by simp
  rw [e] at ho
  have hl : W0.heap.size + 1 < (mk (W0.alloc (.cells #[.slice none 0 0, .int .i64 0] t)).drew).heap.size := (ho.lt _ rfl).2
  have c0 : (mk (W0.alloc (.cells #[.slice none 0 0, .int .i64 0] t)).drew).cell? ⟨W0.heap.size, 0, none⟩ = some (.slice none 0 0) := (hx.cells.1 _ _ (by simp)).trans (alloc_at rfl _)
  have c1 : (mk (W0.alloc (.cells #[.slice none 0 0, .int .i64 0] t)).drew).cell? ⟨W0.heap.size, 1, none⟩ = some (.int .i64 0) := (hx.cells.1 _ _ (by simp)).trans (alloc_at rfl _)
  have hX : Ext W0 (mk (W0.alloc (.cells #[.slice none 0 0, .int .i64 0] t)).drew) := (((Ext.refl W0).alloc _).drew).trans hx
  generalize mk (W0.alloc (.cells #[.slice none 0 0, .int .i64 0] t)).drew = X at *
  refine ⟨by omega, Nat.le_refl _, by omega, by simp; omega, by simp; omega, ?_, ?_, ?_, (hX.setCell (Nat.le_refl _) _).setCell (Nat.le_refl _) _⟩
  · rw [World.cell?_setCell_other _ _ _ _ (by simp)]
    exact World.cell?_setCell_same _ _ _ c0
  · exact World.cell?_setCell_same _ _ _ (by rw [World.cell?_setCell_other _ _ _ _ (by simp)]; exact c1)
  · exact own_base (ownsRow_setCell_below (ownsRow_setCell_below ho (by simp) _) (by simp) _) (Nat.le_succ _)
theorem keep2 {a b : World} {p q : Addr} {u v : Value} (h : Ext a b) (h1 : a.cell? p = some u) (h2 : a.cell? q = some v) : Ext a b ∧ b.cell? p = some u ∧ b.cell? q = some v := ⟨h, cell_ext' h h1, cell_ext' h h2⟩

namespace Bv
/-- the words f 0, .., f (k - 1), the rest still 0 -/
def fillN (f : Nat → Nat) (m k : Nat) : List Nat := (List.range k).map f ++ List.replicate (m - k) 0
theorem fillN_length (f : Nat → Nat) {m k : Nat} (h : k ≤ m) : (fillN f m k).length = m := by simp [fillN]; omega
theorem fillN_zero (f : Nat → Nat) (m : Nat) : fillN f m 0 = List.replicate m 0 := by simp [fillN]
theorem fillN_full (f : Nat → Nat) (m : Nat) : fillN f m m = (List.range m).map f := by simp [fillN]
theorem fillN_get (f : Nat → Nat) {m k : Nat} (h : k < m) : (u64s (fillN f m k))[k]? = some (.int .u64 ((0 : Nat) : Int)) := by
  refine u64s_get ?_
  unfold fillN
  rw [List.getElem?_append_right (by simp)]
  simp only [List.length_map, List.length_range, Nat.sub_self, List.getElem?_replicate]
  rw [if_pos (by omega)]
theorem fillN_set (f : Nat → Nat) {m k : Nat} (h : k < m) : (u64s (fillN f m k)).set k (.int .u64 ((f k : Nat) : Int)) = u64s (fillN f m (k + 1)) := by
  have e : (u64s (fillN f m k)).set k (.int .u64 ((f k : Nat) : Int)) = u64s ((fillN f m k).set k (f k)) := by simp [u64s]
  rw [e]
  congr 1
  apply List.ext_getElem?
  intro j
  rw [List.getElem?_set, fillN_length f (Nat.le_of_lt h)]
  unfold fillN
  by_cases hj : k = j
  · subst hj
    rw [if_pos rfl, if_pos h, List.getElem?_append_left (by simp)]
    simp
  · rw [if_neg hj]
    by_cases hjk : j < k
    · rw [List.getElem?_append_left (by simp; omega), List.getElem?_append_left (by simp; omega)]
      simp [hjk, Nat.lt_succ_of_lt hjk]
    · rw [List.getElem?_append_right (by simp; omega), List.getElem?_append_right (by simp; omega)]
      simp only [List.length_map, List.length_range, List.getElem?_replicate]
      by_cases hjl : j < m
      · rw [if_pos (by omega), if_pos (by omega)]
      · rw [if_neg (by omega), if_neg (by omega)]
theorem fillN_at (f : Nat → Nat) {m i : Nat} (h : i < m) : (fillN f m m).getD i 0 = f i := by
  rw [fillN_full]; simp [List.getD, h]
theorem fillN_lt (f : Nat → Nat) (m : Nat) (h : ∀ i, i < m → f i < 18446744073709551616) : ∀ x ∈ fillN f m m, x < 18446744073709551616 := by
  intro x hx
  rw [fillN_full] at hx
  simp only [List.mem_map, List.mem_range] at hx
  obtain ⟨i, hi, rfl⟩ := hx
  exact h i hi
theorem fillN_trim (f : Nat → Nat) (l : List Bool) (hf : ∀ i, i < wc l.length → f i < 18446744073709551616) (h : ∀ i j, i < wc l.length → j < 64 → 64 * i + j < l.length → (f i).testBit j = l.getD (64 * i + j) false) : trimW (fillN f (wc l.length) (wc l.length)) l.length = words l :=
  trimW_words (fillN_length f (Nat.le_refl _)) (fillN_lt f _ hf) fun i j hi hj hl => by rw [fillN_at f hi]; exact h i j hi hj hl
theorem u64_compl (x : Nat) (hx : x < 18446744073709551616) : bits .xor .u64 (if IntKind.u64.signed = true then -1 else IntKind.u64.max) (x : Int) = ((18446744073709551615 - x : Nat) : Int) := by
  have h := u64_xor_nat 18446744073709551615 x (by decide) hx
  refine Eq.trans h ?_
  congr 1
  apply Nat.eq_of_testBit_eq
  intro j
  have e : 18446744073709551615 - x = 2 ^ 64 - (x + 1) := by omega
  rw [e, Nat.testBit_two_pow_sub_succ hx, Nat.testBit_xor, show (18446744073709551615 : Nat) = 2 ^ 64 - 1 by rfl, Nat.testBit_two_pow_sub_one]
  by_cases hj : j < 64
  · rw [decide_eq_true hj]; simp
  · rw [decide_eq_false hj, Nat.testBit_lt_two_pow (Nat.lt_of_lt_of_le hx (Nat.pow_le_pow_right (n := 2) (by decide) (by omega : 64 ≤ j)))]; rfl
/-- every one turned -/
def notL (l : List Bool) : List Bool := l.map (!·)
theorem notL_length (l : List Bool) : (notL l).length = l.length := by simp [notL]
theorem notL_getD (l : List Bool) {k : Nat} (h : k < l.length) : (notL l).getD k false = !l.getD k false := by simp [notL, List.getD, h]
theorem notW (l : List Bool) : trimW (fillN (fun i => 18446744073709551615 - wd l i) (wc l.length) (wc l.length)) l.length = words (notL l) := by
  have h := fillN_trim (fun i => 18446744073709551615 - wd l i) (notL l) (fun i _ => by omega) (fun i j _ hj hl => by
    have e : 18446744073709551615 - wd l i = 2 ^ 64 - (wd l i + 1) := by omega
    rw [notL_length] at hl
    rw [e, Nat.testBit_two_pow_sub_succ (wd_lt l i), decide_eq_true hj, wd_testBit, decide_eq_true hj, notL_getD l hl]
    simp)
  rw [notL_length] at h
  exact h
end Bv

set_option maxHeartbeats 1000000
theorem not_any (v : Value) (l : List Bool) (w : World) (hv : IsB w v l) :
    Calls Tryd.prog 26 #[v] w fun e w' => ∃ v', e = .returned v' ∧ OwnB w' w.heap.size v' (notL l) ∧ Ext w w' := by
  obtain ⟨hl, A, c, rfl, hs⟩ := hv
  have hwl : wc l.length ≤ 16384 := by unfold wc; omega
  have HS := Lib.hid hs
  have HL := Lib.hid hl
  have HW := Lib.hid (notW l)
  obtain ⟨m, hm⟩ : ∃ m, wc l.length = m := ⟨_, rfl⟩
  obtain ⟨n, hn⟩ : ∃ n, l.length = n := ⟨_, rfl⟩
  rw [hm] at HS HW hwl ⊢
  rw [hn] at HW ⊢
  have HM := Lib.hid hm
  have HN := Lib.hid hn
  obtain ⟨mk, hmk⟩ := makes_u64 m hwl
  have hrun := fun w => (hmk w).1
  have HK := Lib.hid hmk
  clear hs hl hm hn hmk
  go_enter Tryd.func26, Tryd.ntmps26
  go_upto_region 1 with fail
  go_cut [3] (fun s3 wx => ∃ B g : Nat, s3 = .pointer (some ⟨B, 0, none⟩) ∧ OutAt ((w.alloc (.cells #[.slice A m c, .int .i64 (n : Int)] 26)).alloc (.cells #[.slice none 0 0, .int .i64 0] 26)) m (n : Int) B g wx)
  case first =>
    have hc0 : ((w.alloc (.cells #[.slice A m c, .int .i64 (n : Int)] 26)).alloc (.cells #[.slice none 0 0, .int .i64 0] 26)).cell? ⟨w.heap.size, 0, none⟩ = some (.slice A m c) := by simp
    have hc1 : ((w.alloc (.cells #[.slice A m c, .int .i64 (n : Int)] 26)).alloc (.cells #[.slice none 0 0, .int .i64 0] 26)).cell? ⟨w.heap.size, 1, none⟩ = some (.int .i64 (n : Int)) := by simp
    have HC0 := Lib.hid hc0
    have HC1 := Lib.hid hc1
    have HE := Lib.hid (Ext.refl ((w.alloc (.cells #[.slice A m c, .int .i64 (n : Int)] 26)).alloc (.cells #[.slice none 0 0, .int .i64 0] 26)))
    clear hc0 hc1
    have hx0 : (mk (((w.alloc (.cells #[.slice A m c, .int .i64 (n : Int)] 26)).alloc (.cells #[.slice none 0 0, .int .i64 0] 26)).alloc (.cells #[.slice none 0 0, .int .i64 0] 26)).drew).cell? ⟨w.heap.size + 1 + 1, 0, none⟩ = some (.slice none 0 0) := ((HK.out _).2.2.cells.1 _ _ (by simp)).trans (alloc_at (by simp) _)
    have hx1 : (mk (((w.alloc (.cells #[.slice A m c, .int .i64 (n : Int)] 26)).alloc (.cells #[.slice none 0 0, .int .i64 0] 26)).alloc (.cells #[.slice none 0 0, .int .i64 0] 26)).drew).cell? ⟨w.heap.size + 1 + 1, 1, none⟩ = some (.int .i64 0) := ((HK.out _).2.2.cells.1 _ _ (by simp)).trans (alloc_at (by simp) _)
    have hx2 : (mk (((w.alloc (.cells #[.slice A m c, .int .i64 (n : Int)] 26)).alloc (.cells #[.slice none 0 0, .int .i64 0] 26)).alloc (.cells #[.slice none 0 0, .int .i64 0] 26)).drew).frozen? ⟨w.heap.size + 1 + 1, 0, none⟩ = false := ((HK.out _).2.2.cells.2 _ _ (by simp)).trans (alloc_fr (by simp) _)
    have hx3 : (mk (((w.alloc (.cells #[.slice A m c, .int .i64 (n : Int)] 26)).alloc (.cells #[.slice none 0 0, .int .i64 0] 26)).alloc (.cells #[.slice none 0 0, .int .i64 0] 26)).drew).frozen? ⟨w.heap.size + 1 + 1, 1, none⟩ = false := ((HK.out _).2.2.cells.2 _ _ (by simp)).trans (alloc_fr (by simp) _)
    have hx4 : w.heap.size + 1 + 1 < (mk (((w.alloc (.cells #[.slice A m c, .int .i64 (n : Int)] 26)).alloc (.cells #[.slice none 0 0, .int .i64 0] 26)).alloc (.cells #[.slice none 0 0, .int .i64 0] 26)).drew).heap.size := Nat.lt_of_lt_of_le (by simp) (HK.out _).2.2.size
    go_region_held3 (fun w' => Ext ((w.alloc (.cells #[.slice A m c, .int .i64 (n : Int)] 26)).alloc (.cells #[.slice none 0 0, .int .i64 0] 26)) w' ∧ w'.cell? ⟨w.heap.size, 0, none⟩ = some (.slice A m c) ∧ w'.cell? ⟨w.heap.size, 1, none⟩ = some (.int .i64 (n : Int)))
      ((go_split_ands; refine keep2 ?_ HC0.out HC1.out; (first | exact HE.out.drew | exact Ext.trans (by assumption) (HK.out _).2.2 | exact Ext.alloc (by assumption) _ | exact Ext.alloc (Ext.trans HE.out.drew (HK.out _).2.2) _ | exact (Ext.setCell (Ext.setCell (by assumption) (by first | exact (HK.out _).2.2.size | (simp; done) | (simp; omega)) _) (by first | exact (HK.out _).2.2.size | (simp; done) | (simp; omega)) _)))) (fail)
    all_goals
      go_wp2_with fail
      go_meet
      first
      | exact ⟨_, _, rfl, outAt1 HK.out _ _ _ _ (by simp)⟩
      | exact ⟨_, _, rfl, outAt2 HK.out _ _ 26 _ (by simp)⟩
  case rest =>
    obtain ⟨B, g, rfl, hBg, hB, hg, hBl, hgl, o0, o1, hown, hx⟩ := hcut
    have hW0 : ((w.alloc (.cells #[.slice A m c, .int .i64 (n : Int)] 26)).alloc (.cells #[.slice none 0 0, .int .i64 0] 26)).heap.size = w.heap.size + 2 := by simp
    rw [hW0] at hB hg hown
    have b0 : wc.cell? ⟨w.heap.size, 0, none⟩ = some (.slice A m c) := cell_ext' hx (by simp)
    have R0 : wc.cell? ⟨w.heap.size + 1, 0, none⟩ = some (.slice none 0 0) := cell_ext' hx (by simp)
    have R1 : wc.cell? ⟨w.heap.size + 1, 1, none⟩ = some (.int .i64 0) := cell_ext' hx (by simp)
    have Rf : wc.frozen? ⟨w.heap.size + 1, 0, none⟩ = false := (hx.cells.2 _ _ (by simp)).trans (by simp)
    have Rf1 : wc.frozen? ⟨w.heap.size + 1, 1, none⟩ = false := (hx.cells.2 _ _ (by simp)).trans (by simp)
    have hsz : w.heap.size + 2 ≤ wc.heap.size := by have := hx.size; rw [hW0] at this; exact this
    have hXw : Ext w wc := (((Ext.refl w).alloc _).alloc _).trans hx
    rw [← fillN_zero (fun i => 18446744073709551615 - wd l i) m] at hown
    have HO := Lib.hid hown
    have HX := Lib.hid hXw
    clear hx hXw hown hW0 hrun
    have HR := Lib.hid (And.intro (And.intro R0 R1) (And.intro Rf Rf1))
    clear R0 R1 Rf Rf1
    have HB := Lib.hid (And.intro o0 o1)
    clear o0 o1
    go_wp2_with fail
    go_loopw [16] (fun i wr => ∃ k : Nat, k ≤ m ∧ i = .int .i64 k ∧ wr.ownsRow (w.heap.size + 2) 55 1 (.slice (some ⟨g, 0, none⟩) m m) m (u64s (fillN (fun i => 18446744073709551615 - wd l i) m k)) ∧ wc.grownBy wr (some g)) (fun i _ => m - (intOf i).toNat)
    case atStart => exact ⟨0, Nat.zero_le _, rfl, HO.out, ⟨rfl, rfl, rfl, Nat.le_refl _, fun _ _ _ => rfl⟩⟩
    case round =>
      obtain ⟨k, hk, rfl, hown, hgr⟩ := hrel
      clear HO
      have O0 : wr.cell? ⟨B, 0, none⟩ = some (.slice (some ⟨g, 0, none⟩) m m) := (grown_cell hgr hBl hBg).trans HB.out.1
      by_cases hlt : k < m
      · obtain ⟨a, rfl, hab, hcell⟩ := IsB.word (l := l) (by rw [HM.out]; exact HS.out) (by rw [HM.out]; exact hlt)
        have L0 : wr.cell? (a.add k) = some (.int .u64 ((wd l k : Nat) : Int)) := (grown_cell hgr (by rw [addr_block]; have := HX.out.size; omega) (by rw [addr_block]; omega)).trans (cell_ext' HX.out hcell)
        have W0 : wr.cell? ⟨g, k, none⟩ = some (.int .u64 ((0 : Nat) : Int)) := by
          rw [hown.cellAt k (by omega)]
          exact fillN_get _ hlt
        have W1 : wr.frozen? ⟨g, k, none⟩ = false := hown.frozenAt _
        have hst := (hown.stored k (.int .u64 ((18446744073709551615 - wd l k : Nat) : Int))).1
        rw [fillN_set (fun i => 18446744073709551615 - wd l i) hlt] at hst
        have H1 := Lib.hid hst
        have H2 := Lib.hid (grown_set (j := k) hgr (.int .u64 ((18446744073709551615 - wd l k : Nat) : Int)))
        have hxl := wd_lt l k
        clear hst hown hgr hcell b0
        generalize wd l k = x at *
        have hcp := u64_compl x hxl
        generalize 18446744073709551615 - x = y at *
        clear hxl
        go_wp2
        exact ⟨⟨k + 1, by omega, by go_num, H1.out, H2.out⟩, by simp [intOf]; omega⟩
      · have hkm : k = m := by omega
        subst hkm
        have O1 : wr.cell? ⟨B, 1, none⟩ = some (.int .i64 (n : Int)) := (grown_cell hgr hBl hBg).trans HB.out.2
        have HG := Lib.hid hgr
        have HO := Lib.hid hown
        have hlt : ∀ x ∈ fillN (fun i => 18446744073709551615 - wd l i) k k, x < 18446744073709551616 := fillN_lt _ _ (fun i _ => by omega)
        have ct := fun w1 => trim_any g k k n (w.heap.size + 2) (fillN (fun i => 18446744073709551615 - wd l i) k k) w1 (by rw [← HN.out]; exact HM.out.symm) (by rw [← HN.out]; exact HL.out) hlt
        rw [HW.out] at ct
        have CT := Lib.hid ct
        clear hgr hown ct hlt b0
        go_wp2_with fail
        refine (CT.out _ HO.out).mono ?_
        rintro e w3 ⟨rfl, hown3, hg3⟩
        have hBl' : B < wr.heap.size := Nat.lt_of_lt_of_le hBl HG.out.size
        have P0 : w3.cell? ⟨B, 0, none⟩ = some (.slice (some ⟨g, 0, none⟩) k k) := (grown_cell hg3 hBl' hBg).trans O0
        have P1 : w3.cell? ⟨B, 1, none⟩ = some (.int .i64 (n : Int)) := (grown_cell hg3 hBl' hBg).trans O1
        have far : ∀ o, w3.cell? ⟨w.heap.size + 1, o, none⟩ = wc.cell? ⟨w.heap.size + 1, o, none⟩ := fun o => (grown_cell hg3 (p := ⟨w.heap.size + 1, o, none⟩) (by have := HG.out.size; simp; omega) (by simp; omega)).trans (grown_cell HG.out (p := ⟨w.heap.size + 1, o, none⟩) (by simp; omega) (by simp; omega))
        have farf : ∀ o, w3.frozen? ⟨w.heap.size + 1, o, none⟩ = wc.frozen? ⟨w.heap.size + 1, o, none⟩ := fun o => (grown_frozen hg3 (p := ⟨w.heap.size + 1, o, none⟩) (by have := HG.out.size; simp; omega) (by simp; omega)).trans (grown_frozen HG.out (p := ⟨w.heap.size + 1, o, none⟩) (by simp; omega) (by simp; omega))
        have Q0 := (far 0).trans HR.out.1.1
        have Q1 := (far 1).trans HR.out.1.2
        have Qf := (farf 0).trans HR.out.2.1
        have Qf1 := (farf 1).trans HR.out.2.2
        have H1 := Lib.hid hown3
        have H2 := Lib.hid (grown_ext (grown_ext HX.out HG.out (by omega)) hg3 (by omega))
        clear far farf hown3 hg3 O0 O1 HB
        go_wp2_with fail
        refine bodyPost_ret (v := .agg #[.slice (some ⟨g, 0, none⟩) k k, .int .i64 (n : Int)]) (by simp [results, Tryd.results26, go_sem, Q0, Q1]) rfl ⟨_, rfl, ?_, ?_⟩
        · have hn : (notL l).length = n := by rw [notL_length]; exact HN.out
          refine ⟨by rw [hn, ← HN.out]; exact HL.out, g, k, ?_, by omega, ?_⟩
          · rw [hn, ← HN.out, HM.out]
          · rw [hn, ← HN.out, HM.out]
            exact own_base (ownsRow_setCell_below (ownsRow_setCell_below H1.out (by simp) _) (by simp) _) (by omega)
        · exact (H2.out.setCell (by simp) _).setCell (by simp) _
end Go.Proofs.YtmjikdkdccnbaaaDoor
