/- Contracts of bitvec: Count, Rank, First. -/
import Derived.Test.YtmjikdkdccnbaaaDoorPr
namespace Go.Proofs.YtmjikdkdccnbaaaDoor
open Go.RowKit Bv

namespace Bv
theorem cnt_next (l : List Bool) (k : Nat) : cnt l (64 * (k + 1)) = cnt l (64 * k) + pop (wd l k) 64 := by
  rw [← cnt_word l k 64 (Nat.le_refl _)]
  rfl
def clampN (x : Int) (n : Nat) : Nat := (max 0 (min x n)).toNat
theorem clampN_le (x : Int) (n : Nat) : clampN x n ≤ n := by unfold clampN; omega
theorem clampN_nat {k n : Nat} (h : k ≤ n) : clampN (k : Int) n = k := by unfold clampN; omega
theorem clampN_eq (x : Int) (n : Nat) : ∃ (m : Int) (k : Nat), clampN x n = k ∧ k ≤ n ∧ (if (n : Int) < x then (n : Int) else x) = m ∧ (if 0 < m then m else 0) = (k : Int) := by
  refine ⟨_, clampN x n, rfl, clampN_le _ _, rfl, ?_⟩
  unfold clampN; split <;> split <;> omega
theorem word_zero (l : List Bool) (k : Nat) (h : wd l k = 0) : ∀ j, 64 * k ≤ j → j < 64 * (k + 1) → l.getD j false = false := by
  intro j h1 h2
  have h3 := wd_testBit l k (j - 64 * k)
  rw [h, Nat.zero_testBit, decide_eq_true (by omega), Bool.true_and, show 64 * k + (j - 64 * k) = j by omega] at h3
  exact h3.symm
theorem word_low (l : List Bool) (k t q : Nat) (h : wd l k = 2 ^ t * (2 * q + 1)) : t < 64 ∧ l.getD (64 * k + t) false = true ∧ ∀ j, 64 * k ≤ j → j < 64 * k + t → l.getD j false = false := by
  have hb : (wd l k).testBit t = true := by rw [h, odd_bit, if_neg (by omega), Nat.sub_self]; simp
  have h1 := wd_testBit l k t
  rw [hb] at h1
  have ht : t < 64 := by
    by_cases h' : t < 64
    · exact h'
    · rw [decide_eq_false h'] at h1; cases h1
  rw [decide_eq_true ht, Bool.true_and] at h1
  refine ⟨ht, h1.symm, fun j h2 h3 => ?_⟩
  have h4 := wd_testBit l k (j - 64 * k)
  rw [h, odd_bit, if_pos (by omega), decide_eq_true (by omega), Bool.true_and, show 64 * k + (j - 64 * k) = j by omega] at h4
  exact h4.symm
end Bv

set_option maxHeartbeats 1000000
theorem count_any (v : Value) (l : List Bool) (w : World) (hv : IsB w v l) :
    Calls Tryd.prog 17 #[v] w fun e w' => e = .returned (.int .i64 (cnt l l.length : Int)) ∧ Ext w w' := by
  obtain ⟨hl, A, c, rfl, hs⟩ := hv
  have hwl : wc l.length ≤ 16384 := by unfold wc; omega
  have HS := Lib.hid hs
  obtain ⟨m, hm⟩ : ∃ m, wc l.length = m := ⟨_, rfl⟩
  have HE : Hid (cnt l (64 * m) = cnt l l.length) := cnt_all l _ (by rw [← hm]; unfold wc; omega)
  rw [hm] at HS hwl ⊢
  have HM := Lib.hid hm
  rw [← HE.out]
  clear hs hm hl
  generalize (l.length : Int) = n at *
  go_enter Tryd.func17, Tryd.ntmps17
  go_wp2_with fail
  go_loop [3, 9] (fun s i => ∃ k : Nat, k ≤ m ∧ i = .int .i64 k ∧ s = .int .i64 (cnt l (64 * k) : Int)) (fun _ i => m - (intOf i).toNat)
  case atStart => exact ⟨0, Nat.zero_le _, rfl, rfl⟩
  case round =>
    obtain ⟨k, hk, rfl, rfl⟩ := hrel
    by_cases hlt : k < m
    · obtain ⟨a, rfl, hab, hcell⟩ := IsB.word (l := l) (by rw [HM.out]; exact HS.out) (by rw [HM.out]; exact hlt)
      have L0 : ∀ o, (w.alloc o).cell? (a.add k) = some (.int .u64 ((wd l k : Nat) : Int)) := fun o => cell_ext'' ((Ext.refl w).alloc o) hcell
      have HC := Lib.hid (cnt_next l k)
      have h1 := cnt_le l (64 * k)
      have h2 := pop_le (wd l k) 64
      have ct := fun w1 => onesCount_any (wd l k) (wd_lt l k) w1
      clear hcell
      generalize wd l k = x at *
      generalize pop x 64 = p at *
      generalize cnt l (64 * k) = s at *
      go_wp2_with fail
      refine (ct _).mono ?_
      rintro e w1 ⟨rfl, rfl⟩
      clear ct
      go_wp2
      exact ⟨⟨k + 1, by omega, by go_num, by rw [HC.out]; go_num⟩, by simp [intOf]; omega⟩
    · have hkm : k = m := by omega
      subst hkm
      clear HS
      go_wp2
      go_ret
      exact ⟨rfl, (Ext.refl w).alloc _⟩

theorem rank_any (v : Value) (l : List Bool) (x : Int) (w : World) (hv : IsB w v l) :
    Calls Tryd.prog 20 #[v, .int .i64 x] w fun e w' => e = .returned (.int .i64 (cnt l (clampN x l.length) : Int)) ∧ Ext w w' := by
  obtain ⟨hl, A, c, rfl, hs⟩ := hv
  obtain ⟨m1, k0, hnc, hk0, he1, he2⟩ := clampN_eq x l.length
  rw [hnc]
  have hkw : k0 / 64 ≤ wc l.length := by unfold wc; omega
  have hwl : wc l.length ≤ 16384 := by unfold wc; omega
  have HS := Lib.hid hs
  have hk1 : k0 ≤ 1048576 := by omega
  have hkr : k0 % 64 ≠ 0 → k0 / 64 < wc l.length := fun h => by unfold wc; omega
  have HKR := Lib.hid hkr
  clear hs hnc hk0 hkr
  obtain ⟨m, hm⟩ : ∃ m, wc l.length = m := ⟨_, rfl⟩
  have HM := Lib.hid hm
  rw [hm] at HS hwl hkw HKR ⊢
  clear hm hl
  generalize (l.length : Int) = n at *
  have e3 := i64_and63 (k0 : Int) (by omega) (by omega)
  go_enter Tryd.func20, Tryd.ntmps20
  go_wp2_with fail
  go_loop [5, 15] (fun s i => ∃ k : Nat, k ≤ k0 / 64 ∧ i = .int .i64 k ∧ s = .int .i64 (cnt l (64 * k) : Int)) (fun _ i => k0 / 64 - (intOf i).toNat)
  case atStart => exact ⟨0, Nat.zero_le _, rfl, rfl⟩
  case round =>
    obtain ⟨k, hk, rfl, rfl⟩ := hrel
    by_cases hlt : k < k0 / 64
    · obtain ⟨a, rfl, hab, hcell⟩ := IsB.word (l := l) (by rw [HM.out]; exact HS.out) (i := k) (by rw [HM.out]; omega)
      have L0 : ∀ o, (w.alloc o).cell? (a.add k) = some (.int .u64 ((wd l k : Nat) : Int)) := fun o => cell_ext'' ((Ext.refl w).alloc o) hcell
      have HC := Lib.hid (cnt_next l k)
      have h1 := cnt_le l (64 * k)
      have h2 := pop_le (wd l k) 64
      have ct := fun w1 => onesCount_any (wd l k) (wd_lt l k) w1
      clear hcell
      generalize wd l k = x at *
      generalize pop x 64 = p at *
      generalize cnt l (64 * k) = s at *
      go_wp2_with fail
      refine (ct _).mono ?_
      rintro e w1 ⟨rfl, rfl⟩
      clear ct
      go_wp2
      exact ⟨⟨k + 1, by omega, by go_num, by rw [HC.out]; go_num⟩, by simp [intOf]; omega⟩
    · have hkm : k = k0 / 64 := by omega
      subst hkm
      by_cases h0 : k0 % 64 = 0
      · have e4 : ((k0 : Int) % 64 != 0) = false := by simp; omega
        have HE : Hid (64 * (k0 / 64) = k0) := by show _ = _; omega
        rw [HE.out]
        clear HS h0 HKR hkw
        go_wp2
        go_ret
        exact ⟨rfl, (Ext.refl w).alloc _⟩
      · have e4 : ((k0 : Int) % 64 != 0) = true := by simp; omega
        have hkm := HKR.out h0
        obtain ⟨a, rfl, hab, hcell⟩ := IsB.word (l := l) (by rw [HM.out]; exact HS.out) (i := k0 / 64) (by rw [HM.out]; exact hkm)
        have L0 : ∀ o, (w.alloc o).cell? (a.add (k0 / 64)) = some (.int .u64 ((wd l (k0 / 64) : Nat) : Int)) := fun o => cell_ext'' ((Ext.refl w).alloc o) hcell
        obtain ⟨m1', m2'⟩ := u64_mask (k0 % 64) (by omega)
        have hx := wd_lt l (k0 / 64)
        have hand := u64_and_mask (wd l (k0 / 64)) (k0 % 64) hx (by omega)
        have hmod : ((wd l (k0 / 64) : Nat) : Int) % 2 ^ (k0 % 64) = ((wd l (k0 / 64) % 2 ^ (k0 % 64) : Nat) : Int) := by simp
        have hpm := pop_mod (wd l (k0 / 64)) (k0 % 64) 64 (by omega)
        have ct := fun w1 => onesCount_any (wd l (k0 / 64) % 2 ^ (k0 % 64)) (Nat.lt_of_le_of_lt (Nat.mod_le _ _) hx) w1
        rw [hpm] at ct
        have hcw := cnt_word l (k0 / 64) (k0 % 64) (by omega)
        rw [Nat.div_add_mod] at hcw
        have HC := Lib.hid hcw
        have h1 := cnt_le l (64 * (k0 / 64))
        have h2 := pop_le (wd l (k0 / 64)) (k0 % 64)
        clear hcell hcw hpm h0 HKR
        generalize pop (wd l (k0 / 64)) (k0 % 64) = p at *
        generalize wd l (k0 / 64) % 2 ^ (k0 % 64) = y at *
        generalize wd l (k0 / 64) = z at *
        generalize cnt l (64 * (k0 / 64)) = s at *
        rw [hmod] at hand
        clear hmod
        go_wp2_with fail
        refine (ct _).mono ?_
        rintro e w1 ⟨rfl, rfl⟩
        clear ct
        go_wp2
        go_ret
        exact ⟨by rw [HC.out]; exact ret_int (by simp), (Ext.refl w).alloc _⟩

theorem first_any (v : Value) (l : List Bool) (w : World) (hv : IsB w v l) (ht : Tab w) :
    Calls Tryd.prog 21 #[v] w fun e w' => e = .returned (.int .i64 (fst1 l : Int)) ∧ Ext w w' := by
  obtain ⟨hl, A, c, rfl, hs⟩ := hv
  have hwl : wc l.length ≤ 16384 := by unfold wc; omega
  have HS := Lib.hid hs
  have HT := Lib.hid ht
  obtain ⟨m, hm⟩ : ∃ m, wc l.length = m := ⟨_, rfl⟩
  rw [hm] at HS hwl ⊢
  have HM := Lib.hid hm
  obtain ⟨n, hn⟩ : ∃ n, l.length = n := ⟨_, rfl⟩
  have HN := Lib.hid hn
  rw [hn]
  have HL : Hid (64 * m < n + 64) := by show _ < _; rw [← hm, ← hn]; unfold wc; omega
  have HL2 : Hid (n ≤ 64 * m) := by show _ ≤ _; rw [← hm, ← hn]; unfold wc; omega
  clear hs hm hl ht hn
  go_enter Tryd.func21, Tryd.ntmps21
  go_wp2_with fail
  go_loop [8] (fun i => ∃ k : Nat, k ≤ m ∧ i = .int .i64 k ∧ ∀ j, j < 64 * k → l.getD j false = false) (fun i => m - (intOf i).toNat)
  case atStart => exact ⟨0, Nat.zero_le _, rfl, fun j hj => absurd hj (by omega)⟩
  case round =>
    obtain ⟨k, hk, rfl, hup⟩ := hrel
    have HU := Lib.hid hup
    clear hup
    by_cases hlt : k < m
    · obtain ⟨a, rfl, hab, hcell⟩ := IsB.word (l := l) (by rw [HM.out]; exact HS.out) (i := k) (by rw [HM.out]; exact hlt)
      have L0 : ∀ o, (w.alloc o).cell? (a.add k) = some (.int .u64 ((wd l k : Nat) : Int)) := fun o => cell_ext'' ((Ext.refl w).alloc o) hcell
      clear hcell
      by_cases hz : wd l k = 0
      · have hw := word_zero l k hz
        rw [hz] at L0
        have HW : Hid (∀ j, j < 64 * (k + 1) → l.getD j false = false) := fun j hj => by
          by_cases h : j < 64 * k
          · exact HU.out j h
          · exact hw j (by omega) hj
        clear hw hz
        go_wp2
        exact ⟨⟨k + 1, by omega, by go_num, HW.out⟩, by simp [intOf]; omega⟩
      · obtain ⟨t, q, he⟩ := odd_part _ hz
        obtain ⟨h1, h2, h3⟩ := word_low l k t q he
        have hfst : fst1 l = 64 * k + t := by
          refine fst1_is l _ (fun j hj => ?_) (fun _ => h2) ?_
          · by_cases h : j < 64 * k
            · exact HU.out j h
            · exact h3 j (by omega) hj
          · rcases Nat.lt_or_ge (64 * k + t) l.length with h | h
            · omega
            · rw [getD_past l _ h] at h2; cases h2
        have HF := Lib.hid hfst
        have ct := fun w1 hw1 => tz_any (wd l k) t q (wd_lt l k) he w1 hw1
        have hx0 : (0 : Int) < ((wd l k : Nat) : Int) := by omega
        have HT1 := Lib.hid (fun o => HT.out.ext ((Ext.refl w).alloc o))
        clear h2 h3 hfst hz he HU
        generalize wd l k = x at *
        have hxb : ((x : Int) != 0) = true := by simp; omega
        go_wp2_with fail
        refine (ct _ (HT1.out _)).mono ?_
        rintro e w1 ⟨rfl, rfl⟩
        clear ct
        go_wp2
        go_ret
        exact ⟨by rw [HF.out]; exact ret_int (by simp; omega), (Ext.refl w).alloc _⟩
    · have hkm : k = m := by omega
      subst hkm
      have hfst : fst1 l = n := by
        rw [← HN.out]
        exact fst1_is l _ (fun j hj => HU.out j (by have := HL2.out; rw [HN.out] at hj; omega)) (fun h => absurd h (by omega)) (Nat.le_refl _)
      have HF := Lib.hid hfst
      clear HS hfst HU
      go_wp2
      go_ret
      exact ⟨by rw [HF.out]; rfl, (Ext.refl w).alloc _⟩
end Go.Proofs.YtmjikdkdccnbaaaDoor
