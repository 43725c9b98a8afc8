/- Contracts of rebusref02: Words, Ones, Scan, Into, Truth. -/
import Derived.Test.YtmjikdkdccnbaaaDoorPr
namespace Go.Proofs.YtmjikdkdccnbaaaDoor
open Go.RowKit Bv

theorem infoN : (Tryd.prog.info? 3).map (fun i => (i.zero, i.size, i.bytes)) = some (some (.int .i64 0), 1, 8) := by kernel_rfl
theorem sl_built (w : World) (us : Array Value) (t : TypeId) : Sl (w.alloc (.cells us t)) us.size (some ⟨w.heap.size, 0, none⟩) 1 us.toList := by
  refine ⟨by simp, fun _ => ⟨_, rfl, by simp, fun j u hu => ?_⟩⟩
  rw [show (Addr.add ⟨w.heap.size, 0, none⟩ j) = ⟨w.heap.size, j, none⟩ by unfold Addr.add; split <;> simp_all]
  rw [World.cell?_alloc_new]
  simpa using hu
theorem own_pos {w : World} {base : Nat} {e : TypeId} {s n : Nat} {v : Value} {xs : List Value} (h : w.ownsRow base e s v n xs) (hn : 0 < n) : ∃ g c, v = .slice (some ⟨g, 0, none⟩) n c ∧ base ≤ g ∧ g < w.heap.size ∧ n ≤ c := by
  rcases h.2 with ⟨_, h0⟩ | ⟨g, cap, cur, hv, hb, hg, hc, _⟩
  · omega
  · subst hv
    exact ⟨g, cap, rfl, hb, (h.lt g rfl).2, hc⟩
theorem own_nil (w : World) (base : Nat) (e : TypeId) (s : Nat) : w.ownsRow base e s (.slice none 0 0) 0 [] := World.ownsRow_nil _ _ _ _

namespace Bv
/-- the words of the first k, with room for one more -/
def wordsX (l : List Bool) (k : Nat) : List Nat := (List.range (wc (k + 1))).map (wd (l.take k))
def wordsT (l : List Bool) (k : Nat) : List Nat := (List.range (wc k)).map (wd (l.take k))
theorem wordsT_length (l : List Bool) (k : Nat) : (wordsT l k).length = wc k := by simp [wordsT]
theorem wordsX_length (l : List Bool) (k : Nat) : (wordsX l k).length = wc (k + 1) := by simp [wordsX]
theorem wordsT_full (l : List Bool) : wordsT l l.length = words l := by unfold wordsT words; rw [List.take_length]
theorem wordsX_same (l : List Bool) (k : Nat) (h : k % 64 ≠ 0) : wordsT l k = wordsX l k ∧ wc k = wc (k + 1) := by
  have e : wc k = wc (k + 1) := by unfold wc; omega
  exact ⟨by unfold wordsT wordsX; rw [e], e⟩
theorem wordsX_more (l : List Bool) (k : Nat) (h : k % 64 = 0) : wordsT l k ++ [0] = wordsX l k ∧ wc k + 1 = wc (k + 1) := by
  have e : wc (k + 1) = wc k + 1 := by unfold wc; omega
  refine ⟨?_, e.symm⟩
  unfold wordsT wordsX
  rw [e, List.range_succ, List.map_append]
  congr 1
  simp only [List.map_cons, List.map_nil]
  congr 1
  refine wd_of (by omega) fun j _ => ?_
  rw [Nat.zero_testBit, getD_past _ _ (by simp; unfold wc; omega)]
theorem take_getD (l : List Bool) (k j : Nat) : (l.take k).getD j false = (decide (j < k) && l.getD j false) := by
  by_cases h : j < k
  · rw [decide_eq_true h, Bool.true_and]; simp [List.getD, h]
  · rw [decide_eq_false h, Bool.false_and, getD_past _ _ (by simp; omega)]
theorem wordsX_at (l : List Bool) (k : Nat) : (wordsX l k)[k / 64]? = some (wd (l.take k) (k / 64)) := by
  unfold wordsX
  have : k / 64 < wc (k + 1) := by unfold wc; omega
  simp [this]
theorem wordsX_false (l : List Bool) (k : Nat) (h : l.getD k false = false) : wordsX l k = wordsT l (k + 1) := by
  unfold wordsX wordsT
  refine List.map_congr_left fun i _ => wd_of (wd_lt _ _) fun j hj => ?_
  rw [wd_testBit, decide_eq_true hj, Bool.true_and, take_getD, take_getD]
  by_cases e : 64 * i + j = k
  · rw [e, h]; simp
  · congr 1; rw [decide_eq_decide]; omega
theorem wordsX_true (l : List Bool) (k : Nat) (h : l.getD k false = true) : (wordsX l k).set (k / 64) (wd (l.take k) (k / 64) ||| 2 ^ (k % 64)) = wordsT l (k + 1) := by
  apply List.ext_getElem?
  intro i
  rw [List.getElem?_set, wordsX_length]
  by_cases hi : i < wc (k + 1)
  · have e2 : (wordsT l (k + 1))[i]? = some (wd (l.take (k + 1)) i) := by unfold wordsT; simp [hi]
    rw [e2]
    by_cases hk : k / 64 = i
    · subst hk
      rw [if_pos rfl, if_pos hi]
      congr 1
      refine wd_of (Nat.or_lt_two_pow (n := 64) (wd_lt _ _) (Nat.pow_lt_pow_right (by decide) (show k % 64 < 64 by omega))) fun j hj => ?_
      rw [Nat.testBit_or, wd_testBit, Nat.testBit_two_pow, decide_eq_true hj, Bool.true_and, take_getD, take_getD]
      by_cases e : k % 64 = j
      · have e2 : 64 * (k / 64) + j = k := by omega
        rw [e2, h, decide_eq_true e]; simp
      · rw [decide_eq_false e, Bool.or_false]
        congr 1
        rw [decide_eq_decide]; omega
    · rw [if_neg hk]
      have e3 : (wordsX l k)[i]? = some (wd (l.take k) i) := by unfold wordsX; simp [hi]
      rw [e3]
      congr 1
      refine wd_of (wd_lt _ _) fun j hj => ?_
      rw [wd_testBit, decide_eq_true hj, Bool.true_and, take_getD, take_getD]
      congr 1
      rw [decide_eq_decide]; omega
  · rw [if_neg (by unfold wc at *; omega), List.getElem?_eq_none (by rw [wordsX_length]; omega), List.getElem?_eq_none (by rw [wordsT_length]; omega)]
def intoI (n a b : Int) : Int := if n < a then a else if n > b then b else n
theorem tabL_succ (k : Nat) (f : Nat → Bool) : bools (tabL k f) ++ [.bool (f k)] = bools (tabL (k + 1) f) := by
  unfold tabL bools; rw [List.range_succ]; simp
theorem px_next (l : List Bool) (k : Nat) : px (fun j => l.getD j false) (k + 1 + 1) = (l.getD (k + 1) false != px (fun j => l.getD j false) (k + 1)) := by
  rw [px]; cases px (fun j => l.getD j false) (k + 1) <;> cases l.getD (k + 1) false <;> rfl
theorem px_first (l : List Bool) : px (fun j => l.getD j false) (0 + 1) = l.getD 0 false := by simp [px]
theorem any_next (l : List Bool) (k : Nat) (h : k + 1 < l.length) : decide (fst1 l ≤ k + 1) = (l.getD (k + 1) false || decide (fst1 l ≤ k)) := by
  by_cases h1 : fst1 l ≤ k
  · rw [decide_eq_true h1, decide_eq_true (by omega)]; simp
  · rw [decide_eq_false h1, Bool.or_false]
    by_cases h2 : fst1 l = k + 1
    · rw [decide_eq_true (by omega), ← h2, fst1_at l (by omega)]
    · rw [decide_eq_false (by omega), fst1_below l (by omega)]
theorem any_first (l : List Bool) (h : 0 < l.length) : decide (fst1 l ≤ 0) = l.getD 0 false := by
  by_cases h2 : fst1 l = 0
  · have := fst1_at l (by omega); rw [h2] at this; rw [this, h2]; rfl
  · rw [decide_eq_false (by omega), fst1_below l (by omega)]
end Bv

set_option maxHeartbeats 1000000
theorem into_any (n a b : Int) (w : World) : Calls Tryd.prog 19 #[.int .i64 n, .int .i64 a, .int .i64 b] w fun e w' => e = .returned (.int .i64 (intoI n a b)) ∧ w = w' := by
  unfold intoI
  by_cases h1 : n < a
  · rw [if_pos h1]
    go_enter Tryd.func19, Tryd.ntmps19
    go_wp2
    go_ret
    exact ⟨rfl, rfl⟩
  · rw [if_neg h1]
    by_cases h2 : n > b
    · rw [if_pos h2]
      go_enter Tryd.func19, Tryd.ntmps19
      go_wp2
      go_ret
      exact ⟨rfl, rfl⟩
    · rw [if_neg h2]
      go_enter Tryd.func19, Tryd.ntmps19
      go_wp2
      go_ret
      exact ⟨rfl, rfl⟩
theorem rtruth_any (t : Nat) (x y : Bool) (w : World) (ht : t < 256) : Calls Tryd.prog 30 #[.int .u8 (t : Int), .bool x, .bool y] w fun e w' => e = .returned (.bool (t.testBit (2 * x.toNat + y.toNat))) ∧ w = w' := by
  have h : ∀ k, t.testBit k = ((t : Int) / 2 ^ k % 2 == 1) := fun k => by
    have e : (t : Int) / 2 ^ k % 2 = ((t / 2 ^ k % 2 : Nat) : Int) := by simp
    rw [Nat.testBit_eq_decide_div_mod_eq, e, Bool.eq_iff_iff]
    simp
    omega
  rw [h]
  clear h
  cases x <;> cases y
  all_goals
    go_enter Tryd.func30, Tryd.ntmps30
    go_wp2
    go_ret
    exact ⟨by simp, rfl⟩

theorem rones_any (A : Option Addr) (l : List Bool) (n : Nat) (hn : n = l.length) (c : Nat) (w : World) (hl : n ≤ 1048576) (hs : Sl w 1 A n (bools l)) :
    Calls Tryd.prog 18 #[.slice A n c] w fun e w' => ∃ v, e = .returned v ∧ w'.ownsRow w.heap.size 3 1 v (cnt l n) (nats (onesL l n)) ∧ Ext w w' := by
  obtain ⟨i0, hi0, hz0, hz1, hz2⟩ := info_parts infoN
  have HS := Lib.hid hs
  have HN := Lib.hid hn
  clear hs hn
  go_enter Tryd.func18, Tryd.ntmps18
  go_wp2_with fail
  go_loopw [3, 4] (fun o i wr => ∃ k : Nat, k ≤ n ∧ i = .int .i64 k ∧ wr.ownsRow w.heap.size 3 1 o (cnt l k) (nats (onesL l k)) ∧ Ext w wr) (fun _ i _ => n - (intOf i).toNat)
  case atStart => exact ⟨0, Nat.zero_le _, rfl, own_nil _ _ _ _, Ext.refl w⟩
  case round =>
    obtain ⟨k, hk, rfl, hown, hx⟩ := hrel
    have HX := Lib.hid hx
    have HO := Lib.hid hown
    by_cases hlt : k < n
    · obtain ⟨a, u, rfl, hab, hu, hcell⟩ := HS.out.at1 hlt
      rw [bools_get (by rw [← HN.out]; exact hlt)] at hu
      cases hu
      have L0 : wr.cell? (a.add k) = some (.bool (l.getD k false)) := (Below.cell hx (by rw [addr_block]; exact hab)).trans hcell
      have h1 := cnt_le l k
      have hs1 := onesL_succ l k
      have hc1 : cnt l (k + 1) = cnt l k + (l.getD k false).toNat := rfl
      clear hcell hx hown
      cases hd : l.getD k false with
      | false =>
        rw [hd] at L0 hs1 hc1
        have H1 := Lib.hid (show wr.ownsRow w.heap.size 3 1 u3 (cnt l (k + 1)) (nats (onesL l (k + 1))) by
          rw [hs1, hc1]; simpa using HO.out)
        clear hs1 hc1 hd
        go_wp2
        exact ⟨⟨k + 1, by omega, by go_num, H1.out, HX.out⟩, by simp [intOf]; omega⟩
      | true =>
        rw [hd] at L0 hs1 hc1
        have HP : Hid (nats (onesL l k) ++ [.int .i64 (k : Int)] = nats (onesL l (k + 1)) ∧ cnt l k + 1 = cnt l (k + 1)) := by
          rw [hs1, hc1]; exact ⟨by simp [nats], rfl⟩
        clear hs1 hc1 hd
        generalize nats (onesL l k) = xs at *
        generalize cnt l k = q at *
        have HW : Hid (∀ o, (wr.alloc o).ownsRow w.heap.size 3 1 u3 q xs) := fun o => own_ext HO.out ((Ext.refl _).alloc _)
        have HR : Hid (Sl (wr.alloc (.cells #[.int .i64 (k : Int)] 3)) 1 (some ⟨wr.heap.size, 0, none⟩) 1 [.int .i64 (k : Int)]) := sl_built wr #[.int .i64 (k : Int)] 3
        have h1' : ∀ u ∈ [Value.int .i64 (k : Int)], u.oneCell' = true := by intro u hu; simp at hu; subst hu; rfl
        have hbase : ∀ o, w.heap.size ≤ (wr.alloc o).heap.size := fun o => by have := HX.out.size; simp; omega
        have hlim : q + 1 ≤ 1099511627776 := by omega
        go_wp2_with (at_builtin; refine wpList_append_sl _ rfl _ _ 36 rfl w.heap.size 3 i0 (.int .i64 0) 1 8 Tryd.underlying36 hi0 hz0 hz1 hz2 rfl (by omega) _ q _ rfl (HW.out _) (some ⟨wr.heap.size, 0, none⟩) 1 1 [.int .i64 (k : Int)] rfl HR.out h1' hlim (by omega) (hbase _) ?_; intro v' w1 hown hbel)
        refine ⟨⟨k + 1, by omega, by go_num, by rw [← HP.out.1, ← HP.out.2]; exact hown, ?_⟩, by simp [intOf]; omega⟩
        exact (HX.out.alloc _).trans' hbel
    · have hkn : k = n := by omega
      subst hkn
      clear hown hx
      go_wp2
      go_ret
      exact ⟨_, rfl, HO.out, HX.out⟩

theorem rscanP_any (A : Option Addr) (l : List Bool) (n : Nat) (hn : n = l.length) (c : Nat) (w : World) (hl : n ≤ 1048576) (hs : Sl w 1 A n (bools l)) :
    Calls Tryd.prog 15 #[.slice A n c, .bool true] w fun e w' => ∃ v, e = .returned v ∧ w'.ownsRow w.heap.size 4 1 v n (bools (tabL n (fun i => px (fun j => l.getD j false) (i + 1)))) ∧ Ext w w' := by
  obtain ⟨i0, hi0, hz0, hz1, hz2⟩ := info_parts infoB
  have HS := Lib.hid hs
  have HN := Lib.hid hn
  clear hs hn
  go_enter Tryd.func15, Tryd.ntmps15
  go_wp2_with fail
  go_loopw [5, 6] (fun o i wr => ∃ k : Nat, k ≤ n ∧ i = .int .i64 k ∧ wr.ownsRow w.heap.size 4 1 o k (bools (tabL k (fun i => px (fun j => l.getD j false) (i + 1)))) ∧ Ext w wr) (fun _ i _ => n - (intOf i).toNat)
  case atStart => exact ⟨0, Nat.zero_le _, rfl, own_nil _ _ _ _, Ext.refl w⟩
  case round =>
    obtain ⟨k, hk, rfl, hown, hx⟩ := hrel
    have HX := Lib.hid hx
    by_cases hlt : k < n
    · obtain ⟨a, u, rfl, hab, hu, hcell⟩ := HS.out.at1 hlt
      rw [bools_get (by rw [← HN.out]; exact hlt)] at hu
      cases hu
      have L0 : wr.cell? (a.add k) = some (.bool (l.getD k false)) := (Below.cell hx (by rw [addr_block]; exact hab)).trans hcell
      have hkl : k < l.length := by rw [← HN.out]; exact hlt
      have HL := Lib.hid hkl
      clear hcell hx hkl
      have hlim : k + 1 ≤ 1099511627776 := by omega
      have hbase : ∀ o, w.heap.size ≤ (wr.alloc o).heap.size := fun o => by have := HX.out.size; simp; omega
      have hbase' : ∀ o, w.heap.size ≤ (wr.drew.alloc o).heap.size := fun o => by have := HX.out.size; simp; omega
      have hbase2 : ∀ o q, w.heap.size ≤ ((wr.drewN q).alloc o).heap.size := fun o q => by have := HX.out.size; simp; omega
      cases k with
      | zero =>
        have hkl := HL.out
        have hF : Hid (bools (tabL 0 (fun i => px (fun j => l.getD j false) (i + 1))) ++ [.bool (l.getD 0 false)] = bools (tabL (0 + 1) (fun i => px (fun j => l.getD j false) (i + 1)))) := by
          show _ = _
          rw [← tabL_succ, px_first l]
        have HW : Hid (∀ o, (wr.alloc o).ownsRow w.heap.size 4 1 u5 0 (bools (tabL 0 (fun i => px (fun j => l.getD j false) (i + 1))))) := fun o => own_ext hown ((Ext.refl _).alloc _)
        generalize bools (tabL 0 (fun i => px (fun j => l.getD j false) (i + 1))) = xs at *
        generalize l.getD 0 false = d at *
        have HR : Hid (Sl (wr.alloc (.cells #[.bool d] 4)) 1 (some ⟨wr.heap.size, 0, none⟩) 1 [.bool d]) := sl_built wr #[.bool d] 4
        have h1' : ∀ u ∈ [Value.bool d], u.oneCell' = true := by intro u hu; simp at hu; subst hu; rfl
        have L0 : wr.cell? a = some (.bool d) := L0
        clear hown hkl
        go_wp2_with (at_builtin; refine wpList_append_sl _ rfl _ _ 22 rfl w.heap.size 4 i0 (.bool false) 1 1 Tryd.underlying22 hi0 hz0 hz1 hz2 rfl (by omega) _ 0 _ rfl (HW.out _) (some ⟨wr.heap.size, 0, none⟩) 1 1 [.bool d] rfl HR.out h1' hlim (by omega) (hbase _) ?_; intro v' w1 hown hbel)
        refine ⟨⟨0 + 1, by omega, by go_num, by rw [← hF.out]; exact hown, ?_⟩, by simp [intOf]; omega⟩
        exact (HX.out.alloc _).trans' hbel
      | succ k =>
        have hkl := HL.out
        obtain ⟨g, cc, rfl, hgb, hgs, hgc⟩ := own_pos hown (by omega)
        have L1 : wr.cell? ⟨g, k, none⟩ = some (.bool ((fun i => px (fun j => l.getD j false) (i + 1)) k)) := by
          rw [hown.cellAt k (by omega), bools_get (by rw [tabL_length]; omega), tabL_getD, decide_eq_true (by omega), Bool.true_and]
        have hF := tabL_succ (k + 1) (fun i => px (fun j => l.getD j false) (i + 1))
        simp only [px_next l k] at hF L1
        have HF := Lib.hid hF
        have HO := Lib.hid hown
        have L0 : wr.cell? ⟨a.block, a.off + (k + 1), none⟩ = some (.bool (l.getD (k + 1) false)) := L0
        have k5 : (k : Int) + 1 < (n : Int) := by omega
        have e1 : IntKind.i64.wrap (((k + 1 : Nat) : Int) - 1) = (k : Int) := by rw [wraps_i64 _ (by omega) (by omega)]; omega
        have e2 : (((k + 1 : Nat) : Int) - 1) = (k : Int) := by omega
        have k0 : (0 : Int) ≤ (k : Int) := by omega
        have k1 : (k : Int) < ((k + 1 : Nat) : Int) := by omega
        have k2 : ((k + 1 : Nat) : Int) < (n : Int) := by omega
        have k3 : (0 : Int) ≤ ((k + 1 : Nat) : Int) := by omega
        have k4 : (0 : Int) < ((k + 1 : Nat) : Int) := by omega
        clear hF hown hkl
        generalize bools (tabL (k + 1) (fun i => px (fun j => l.getD j false) (i + 1))) = xs at *
        generalize px (fun j => l.getD j false) (k + 1) = pv at *
        generalize l.getD (k + 1) false = d at *
        have HW : Hid (∀ q o, ((wr.alloc o).drewN q).ownsRow w.heap.size 4 1 (.slice (some ⟨g, 0, none⟩) (k + 1) cc) (k + 1) xs) := fun q o => own_ext HO.out (((Ext.refl _).alloc _).drewN q)
        have HR : Hid (∀ q b, Sl ((wr.alloc (.cells #[.bool b] 4)).drewN q) 1 (some ⟨wr.heap.size, 0, none⟩) 1 [.bool b]) := fun q b => (sl_built wr #[.bool b] 4).ext ((Ext.refl _).drewN q)
        have h1' : ∀ b, ∀ u ∈ [Value.bool b], u.oneCell' = true := by intro b u hu; simp at hu; subst hu; rfl
        have hb0 : ∀ q o, w.heap.size ≤ ((wr.alloc o).drewN q).heap.size := fun q o => hbase o
        clear hbase hbase' hbase2
        go_wp2_with fail
        go_quiet (fail)
        go_wp2_with (at_builtin; refine wpList_append_sl _ rfl _ _ 22 rfl w.heap.size 4 i0 (.bool false) 1 1 Tryd.underlying22 hi0 hz0 hz1 hz2 rfl (by omega) _ (k + 1) _ rfl (HW.out _ _) (some ⟨wr.heap.size, 0, none⟩) 1 1 [.bool _] rfl (HR.out _ _) (h1' _) hlim (by omega) (hb0 _ _) ?_; intro v' w1 hown hbel)
        refine ⟨⟨k + 1 + 1, by omega, by go_num, by rw [← HF.out]; exact hown, ?_⟩, by simp [intOf]; omega⟩
        exact ((HX.out.alloc _).drewN _).trans' hbel
    · have hkn : k = n := by omega
      subst hkn
      have HO := Lib.hid hown
      clear hown hx
      go_wp2
      go_ret
      exact ⟨_, rfl, HO.out, HX.out⟩
theorem rscanF_any (A : Option Addr) (l : List Bool) (n : Nat) (hn : n = l.length) (c : Nat) (w : World) (hl : n ≤ 1048576) (hs : Sl w 1 A n (bools l)) :
    Calls Tryd.prog 15 #[.slice A n c, .bool false] w fun e w' => ∃ v, e = .returned v ∧ w'.ownsRow w.heap.size 4 1 v n (bools (tabL n (fun i => decide (fst1 l ≤ i)))) ∧ Ext w w' := by
  obtain ⟨i0, hi0, hz0, hz1, hz2⟩ := info_parts infoB
  have HS := Lib.hid hs
  have HN := Lib.hid hn
  clear hs hn
  go_enter Tryd.func15, Tryd.ntmps15
  go_wp2_with fail
  go_loopw [5, 6] (fun o i wr => ∃ k : Nat, k ≤ n ∧ i = .int .i64 k ∧ wr.ownsRow w.heap.size 4 1 o k (bools (tabL k (fun i => decide (fst1 l ≤ i)))) ∧ Ext w wr) (fun _ i _ => n - (intOf i).toNat)
  case atStart => exact ⟨0, Nat.zero_le _, rfl, own_nil _ _ _ _, Ext.refl w⟩
  case round =>
    obtain ⟨k, hk, rfl, hown, hx⟩ := hrel
    have HX := Lib.hid hx
    by_cases hlt : k < n
    · obtain ⟨a, u, rfl, hab, hu, hcell⟩ := HS.out.at1 hlt
      rw [bools_get (by rw [← HN.out]; exact hlt)] at hu
      cases hu
      have L0 : wr.cell? (a.add k) = some (.bool (l.getD k false)) := (Below.cell hx (by rw [addr_block]; exact hab)).trans hcell
      have hkl : k < l.length := by rw [← HN.out]; exact hlt
      have HL := Lib.hid hkl
      clear hcell hx hkl
      have hlim : k + 1 ≤ 1099511627776 := by omega
      have hbase : ∀ o, w.heap.size ≤ (wr.alloc o).heap.size := fun o => by have := HX.out.size; simp; omega
      have hbase' : ∀ o, w.heap.size ≤ (wr.drew.alloc o).heap.size := fun o => by have := HX.out.size; simp; omega
      have hbase2 : ∀ o q, w.heap.size ≤ ((wr.drewN q).alloc o).heap.size := fun o q => by have := HX.out.size; simp; omega
      cases k with
      | zero =>
        have hkl := HL.out
        have hF : Hid (bools (tabL 0 (fun i => decide (fst1 l ≤ i))) ++ [.bool (l.getD 0 false)] = bools (tabL (0 + 1) (fun i => decide (fst1 l ≤ i)))) := by
          show _ = _
          rw [← tabL_succ, any_first l hkl]
        have HW : Hid (∀ o, (wr.alloc o).ownsRow w.heap.size 4 1 u5 0 (bools (tabL 0 (fun i => decide (fst1 l ≤ i))))) := fun o => own_ext hown ((Ext.refl _).alloc _)
        generalize bools (tabL 0 (fun i => decide (fst1 l ≤ i))) = xs at *
        generalize l.getD 0 false = d at *
        have HR : Hid (Sl (wr.alloc (.cells #[.bool d] 4)) 1 (some ⟨wr.heap.size, 0, none⟩) 1 [.bool d]) := sl_built wr #[.bool d] 4
        have h1' : ∀ u ∈ [Value.bool d], u.oneCell' = true := by intro u hu; simp at hu; subst hu; rfl
        have L0 : wr.cell? a = some (.bool d) := L0
        clear hown hkl
        go_wp2_with (at_builtin; refine wpList_append_sl _ rfl _ _ 22 rfl w.heap.size 4 i0 (.bool false) 1 1 Tryd.underlying22 hi0 hz0 hz1 hz2 rfl (by omega) _ 0 _ rfl (HW.out _) (some ⟨wr.heap.size, 0, none⟩) 1 1 [.bool d] rfl HR.out h1' hlim (by omega) (hbase _) ?_; intro v' w1 hown hbel)
        refine ⟨⟨0 + 1, by omega, by go_num, by rw [← hF.out]; exact hown, ?_⟩, by simp [intOf]; omega⟩
        exact (HX.out.alloc _).trans' hbel
      | succ k =>
        have hkl := HL.out
        obtain ⟨g, cc, rfl, hgb, hgs, hgc⟩ := own_pos hown (by omega)
        have L1 : wr.cell? ⟨g, k, none⟩ = some (.bool ((fun i => decide (fst1 l ≤ i)) k)) := by
          rw [hown.cellAt k (by omega), bools_get (by rw [tabL_length]; omega), tabL_getD, decide_eq_true (by omega), Bool.true_and]
        have hF := tabL_succ (k + 1) (fun i => decide (fst1 l ≤ i))
        simp only [any_next l k hkl] at hF L1
        have HF := Lib.hid hF
        have HO := Lib.hid hown
        have L0 : wr.cell? ⟨a.block, a.off + (k + 1), none⟩ = some (.bool (l.getD (k + 1) false)) := L0
        have k5 : (k : Int) + 1 < (n : Int) := by omega
        have e1 : IntKind.i64.wrap (((k + 1 : Nat) : Int) - 1) = (k : Int) := by rw [wraps_i64 _ (by omega) (by omega)]; omega
        have e2 : (((k + 1 : Nat) : Int) - 1) = (k : Int) := by omega
        have k0 : (0 : Int) ≤ (k : Int) := by omega
        have k1 : (k : Int) < ((k + 1 : Nat) : Int) := by omega
        have k2 : ((k + 1 : Nat) : Int) < (n : Int) := by omega
        have k3 : (0 : Int) ≤ ((k + 1 : Nat) : Int) := by omega
        have k4 : (0 : Int) < ((k + 1 : Nat) : Int) := by omega
        clear hF hown hkl
        generalize bools (tabL (k + 1) (fun i => decide (fst1 l ≤ i))) = xs at *
        generalize decide (fst1 l ≤ k) = pv at *
        generalize l.getD (k + 1) false = d at *
        have HW : Hid (∀ o, (wr.alloc o).ownsRow w.heap.size 4 1 (.slice (some ⟨g, 0, none⟩) (k + 1) cc) (k + 1) xs) := fun o => own_ext HO.out ((Ext.refl _).alloc _)
        clear hbase' hbase2
        cases d
        all_goals
          have h1' : ∀ b, ∀ u ∈ [Value.bool b], u.oneCell' = true := by intro b u hu; simp at hu; subst hu; rfl
          have HR : Hid (∀ b, Sl (wr.alloc (.cells #[.bool b] 4)) 1 (some ⟨wr.heap.size, 0, none⟩) 1 [.bool b]) := fun b => sl_built wr #[.bool b] 4
          go_wp2_with (at_builtin; refine wpList_append_sl _ rfl _ _ 22 rfl w.heap.size 4 i0 (.bool false) 1 1 Tryd.underlying22 hi0 hz0 hz1 hz2 rfl (by omega) _ (k + 1) _ rfl (HW.out _) (some ⟨wr.heap.size, 0, none⟩) 1 1 [.bool _] rfl (HR.out _) (h1' _) hlim (by omega) (hbase _) ?_; intro v' w1 hown hbel)
          refine ⟨⟨k + 1 + 1, by omega, by go_num, by rw [← HF.out]; exact hown, ?_⟩, by simp [intOf]; omega⟩
          exact (HX.out.alloc _).trans' hbel
    · have hkn : k = n := by omega
      subst hkn
      have HO := Lib.hid hown
      clear hown hx
      go_wp2
      go_ret
      exact ⟨_, rfl, HO.out, HX.out⟩
end Go.Proofs.YtmjikdkdccnbaaaDoor
