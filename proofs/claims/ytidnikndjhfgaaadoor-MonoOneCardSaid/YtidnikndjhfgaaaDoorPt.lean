/- Contracts of bitvec: Count, Rank, First. -/
import Derived.Test.YtidnikndjhfgaaaDoorPr
namespace Go.Proofs.YtidnikndjhfgaaaDoor
open Go.RowKit Bv

namespace Bv
theorem cnt_next (l : List Bool) (k : Nat) : cnt l (64 * (k + 1)) = cnt l (64 * k) + pop (wd l k) 64 := by
  rw [← cnt_word l k 64 (Nat.le_refl _)]
  rfl
def clampN (x : Int) (n : Nat) : Nat := (max 0 (min x n)).toNat
theorem clampN_le (x : Int) (n : Nat) : clampN x n ≤ n := by unfold clampN; omega
theorem clampN_nat {k n : Nat} (h : k ≤ n) : clampN (k : Int) n = k := by unfold clampN; omega
theorem clampN_eq (x : Int) (n : Nat) : ∃ (m : Int) (k : Nat), clampN x n = k ∧ k ≤ n ∧ (if (n : Int) < x then (n : Int) else x) = m ∧ (if 0 < m then m else 0) = (k : Int) := by
  refine ⟨_, clampN x n, rfl, clampN_le _ _, rfl, ?_⟩
  unfold clampN; split <;> split <;> omega
theorem word_zero (l : List Bool) (k : Nat) (h : wd l k = 0) : ∀ j, 64 * k ≤ j → j < 64 * (k + 1) → l.getD j false = false := by
  intro j h1 h2
  have h3 := wd_testBit l k (j - 64 * k)
  rw [h, Nat.zero_testBit, decide_eq_true (by omega), Bool.true_and, show 64 * k + (j - 64 * k) = j by omega] at h3
  exact h3.symm
theorem word_low (l : List Bool) (k t q : Nat) (h : wd l k = 2 ^ t * (2 * q + 1)) : t < 64 ∧ l.getD (64 * k + t) false = true ∧ ∀ j, 64 * k ≤ j → j < 64 * k + t → l.getD j false = false := by
  have hb : (wd l k).testBit t = true := by rw [h, odd_bit, if_neg (by omega), Nat.sub_self]; simp
  have h1 := wd_testBit l k t
  rw [hb] at h1
  have ht : t < 64 := by
    by_cases h' : t < 64
    · exact h'
    · rw [decide_eq_false h'] at h1; cases h1
  rw [decide_eq_true ht, Bool.true_and] at h1
  refine ⟨ht, h1.symm, fun j h2 h3 => ?_⟩
  have h4 := wd_testBit l k (j - 64 * k)
  rw [h, odd_bit, if_pos (by omega), decide_eq_true (by omega), Bool.true_and, show 64 * k + (j - 64 * k) = j by omega] at h4
  exact h4.symm
end Bv

set_option maxHeartbeats 1000000
theorem count_any (v : Value) (l : List Bool) (w : World) (hv : IsB w v l) :
    Calls Tryd.prog 63 #[v] w fun e w' => e = .returned (.int .i64 (cnt l l.length : Int)) ∧ Ext w w' := by
  obtain ⟨hl, A, c, rfl, hs⟩ := hv
  have hwl : wc l.length ≤ 16384 := by unfold wc; omega
  have HS := Lib.hid hs
  obtain ⟨m, hm⟩ : ∃ m, wc l.length = m := ⟨_, rfl⟩
  have HE : Hid (cnt l (64 * m) = cnt l l.length) := cnt_all l _ (by rw [← hm]; unfold wc; omega)
  rw [hm] at HS hwl ⊢
  have HM := Lib.hid hm
  rw [← HE.out]
  clear hs hm hl
  generalize (l.length : Int) = n at *
  go_enter Tryd.func63, Tryd.ntmps63
  go_wp2_with fail
  go_loop [3, 9] (fun s i => ∃ k : Nat, k ≤ m ∧ i = .int .i64 k ∧ s = .int .i64 (cnt l (64 * k) : Int)) (fun _ i => m - (intOf i).toNat)
  case atStart => exact ⟨0, Nat.zero_le _, rfl, rfl⟩
  case round =>
    obtain ⟨k, hk, rfl, rfl⟩ := hrel
    by_cases hlt : k < m
    · obtain ⟨a, rfl, hab, hcell⟩ := IsB.word (l := l) (by rw [HM.out]; exact HS.out) (by rw [HM.out]; exact hlt)
      have L0 : ∀ o, (w.alloc o).cell? (a.add k) = some (.int .u64 ((wd l k : Nat) : Int)) := fun o => cell_ext'' ((Ext.refl w).alloc o) hcell
      have HC := Lib.hid (cnt_next l k)
      have h1 := cnt_le l (64 * k)
      have h2 := pop_le (wd l k) 64
      have ct := fun w1 => onesCount_any (wd l k) (wd_lt l k) w1
      clear hcell
      generalize wd l k = x at *
      generalize pop x 64 = p at *
      generalize cnt l (64 * k) = s at *
      go_wp2_with fail
      refine (ct _).mono ?_
      rintro e w1 ⟨rfl, rfl⟩
      clear ct
      go_wp2
      exact ⟨⟨k + 1, by omega, by go_num, by rw [HC.out]; go_num⟩, by simp [intOf]; omega⟩
    · have hkm : k = m := by omega
      subst hkm
      clear HS
      go_wp2
      go_ret
      exact ⟨rfl, (Ext.refl w).alloc _⟩

end Go.Proofs.YtidnikndjhfgaaaDoor
