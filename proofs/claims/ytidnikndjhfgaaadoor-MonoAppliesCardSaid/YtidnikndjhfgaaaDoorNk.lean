/- Contracts of the functions of num and rebusref03: whole numbers below and above. -/
import Derived.Test.YtidnikndjhfgaaaDoorN
namespace Go.Proofs.YtidnikndjhfgaaaDoor
open Go.RowKit Fl

namespace Fl
theorem flN_tidy {b : Nat} (h : tidy b) : tidy (flN b) := by
  unfold flN
  split
  · have hG := flI_G ‹_›
    exact fi_tidy hG.1 hG.2
  · exact h
theorem word_small {b : Nat} (hs : small b) : rnd (flM b) 0 ≤ 4845873199050653696 := by
  have hG := flI_G hs
  have hr := fi_rung hG.1 hG.2
  have hM : (flI b).natAbs = flM b := by
    unfold flI; rw [sv_div]; split <;> omega
  have h1 : rnd (flM b) 0 = rung (fi (flI b)) := by
    rw [← hM]
    exact rnd_whole (by omega) hr.1.symm
  omega
theorem fl_dn {b : Nat} (h : tidy b) : dn (Ieee.double.word (neg b) (rnd (flM b) 0)) = flN b := by
  unfold flN
  by_cases hs : small b
  · rw [if_pos hs, dn_of (by unfold fin; rw [rung_word _ (rnd_inf _ _)]; have := word_small hs; omega), floor_small hs]
  · rw [if_neg hs, floor_big h.1 h.2.1 hs, dn_of h.1, norm_tidy h]
theorem ce_flM {b : Nat} (h : nn b) : ceM b = flM (opp b) := by
  unfold ceM flM
  rw [opp_rung h, opp_neg h]
theorem opp_word (s : Bool) {r : Nat} (h : r ≤ 9218868437227405312) : opp (Ieee.double.word s r) = Ieee.double.word (!s) r := by
  unfold opp
  rw [neg_word _ h, rung_word _ h]
theorem norm_opp_norm (b : Nat) (h : nn b) : norm (opp (norm b)) = norm (opp b) := by
  unfold norm
  by_cases e : rung b = 0
  · rw [if_pos e]
    have h1 : rung (opp b) = 0 := by rw [opp_rung h]; exact e
    rw [if_pos h1]
    decide
  · rw [if_neg e]
theorem ce_dn {b : Nat} (h : tidy b) : dn (Ieee.double.word (neg b) (rnd (ceM b) 0)) = ceN b := by
  by_cases hz : rung b = 0
  · have hb := h.2.2 hz
    subst hb
    decide +kernel
  have ho : ng b = opp b := by unfold ng norm; rw [if_neg (by rw [opp_rung h.1.nn]; exact hz)]
  have ht := ng_tidy h.1
  have hf := fl_dn ht
  unfold ceN
  rw [← hf, ho, ce_flM h.1.nn, opp_neg h.1.nn]
  have hw : Ieee.double.word (neg b) (rnd (flM (opp b)) 0) = opp (Ieee.double.word (!neg b) (rnd (flM (opp b)) 0)) := by
    rw [opp_word _ (rnd_inf _ _), Bool.not_not]
  rw [hw]
  have hn : nn (Ieee.double.word (!neg b) (rnd (flM (opp b)) 0)) := by unfold nn; rw [rung_word _ (rnd_inf _ _)]; exact rnd_inf _ _
  have hfin : fin (Ieee.double.word (!neg b) (rnd (flM (opp b)) 0)) := by
    by_cases hs : small (opp b)
    · unfold fin; rw [rung_word _ (rnd_inf _ _)]; have := word_small hs; omega
    · have h1 := floor_big (b := opp b) (by rw [← ho]; exact ht.1) (opp_lt b) hs
      rw [opp_neg h.1.nn] at h1
      rw [h1, ← ho]; exact ht.1
  generalize Ieee.double.word (!neg b) (rnd (flM (opp b)) 0) = W at *
  rw [dn_of hfin, dn_of (by unfold fin; rw [opp_rung hn]; exact hfin)]
  unfold ng
  rw [norm_opp_norm W hn]
theorem flI_trn (b : Nat) : flI b = trn b ∨ (flI b = trn b - 1) := by
  unfold flI trn
  rw [sv_div]
  unfold flM sg
  have h := Bool.toNat_le (neg b && mg (rung b) % U != 0)
  generalize mg (rung b) / U = x at *
  cases hn : neg b
  · simp
  · rw [hn] at h
    simp only [if_true]
    generalize (true && mg (rung b) % U != 0).toNat = y at *
    omega
theorem gt_trn {b : Nat} (hs : small b) : (FloatKind.f64.format.order (floatOfInt .f64 (trn b)) b == some .gt) = decide (flI b ≠ trn b) := by
  have ht := trn_le hs
  rw [fi_conv, c_gt (fi_fin ht.1 ht.2).nn hs.fin.nn, decide_eq_decide, key_lt, fi_sv ht.1 ht.2]
  have hU : (0 : Int) < (U : Int) := by exact_mod_cast U_pos
  have h1 := flI_trn b
  have h2 : sv b < trn b * (U : Int) ↔ flI b < trn b := (Int.ediv_lt_iff_lt_mul hU).symm
  rw [h2]
  omega
theorem trn_neg {b : Nat} (h : flI b ≠ trn b) : trn b ≤ 0 := by
  unfold flI trn at *
  rw [sv_div] at h
  unfold flM sg at *
  generalize mg (rung b) / U = x at *
  cases hn : neg b
  · rw [hn] at h; simp at h
  · simp
theorem sub_one {t : Int} (h : t ≤ 0) (h1 : -9007199254740992 ≤ t - 1) : fsub (fi t) 4607182418800017408 = fi (t - 1) := by
  have k := fsub_fi (a := t) (b := 1) (by omega) (by omega) (by omega) (by omega) (by omega) (by omega)
  rw [← w1'] at k
  have f1 := fi_fin (n := t) (by omega) (by omega)
  have hs := sub_some f1 fin_one
  have hn := norm_key hs.2.2 (fi_lt64 _) k
  rw [norm_tidy (fi_tidy (by omega) (by omega))] at hn
  have hne : rung (fsub (fi t) 4607182418800017408) ≠ 0 := by
    intro h0
    have h2 : key (fi (t - 1)) = key (fi 0) := by
      rw [← k, show key (fi 0) = 0 by decide]
      unfold key
      rw [h0]; simp
    rw [fi_inj (by omega) (by omega) (by omega) (by omega)] at h2
    omega
  unfold norm at hn
  rw [if_neg hne] at hn
  exact hn
where w1' : 4607182418800017408 = fi 1 := by decide +kernel
end Fl

set_option maxHeartbeats 400000
theorem numFloor_any (b : Nat) (h : tidy b) (w : World) : Calls Tryd.prog 28 #[.float .f64 b] w fun e w' => e = .returned (.float .f64 (flN b)) ∧ w = w' := by
  have c1 := mathFloor_any b h.1 w
  have c2 := tidy_any (Ieee.double.word (neg b) (rnd (flM b) 0)) w
  rw [fl_dn h] at c2
  clear h
  generalize Ieee.double.word (neg b) (rnd (flM b) 0) = W at *
  generalize decide (fin W) = d at *
  go_enter Tryd.func28, Tryd.ntmps28
  go_wp2_with fail
  refine (c1).mono ?_
  rintro e w' ⟨rfl, rfl⟩
  go_wp2_with fail
  refine (c2).mono ?_
  rintro e w' ⟨rfl, rfl⟩
  go_wp2
  go_ret
  exact ⟨rfl, rfl⟩
theorem numCeil_any (b : Nat) (h : tidy b) (w : World) : Calls Tryd.prog 27 #[.float .f64 b] w fun e w' => e = .returned (.float .f64 (ceN b)) ∧ w = w' := by
  have c1 := mathCeil_any b h.1 w
  have c2 := tidy_any (Ieee.double.word (neg b) (rnd (ceM b) 0)) w
  rw [ce_dn h] at c2
  clear h
  generalize Ieee.double.word (neg b) (rnd (ceM b) 0) = W at *
  generalize decide (fin W) = d at *
  go_enter Tryd.func27, Tryd.ntmps27
  go_wp2_with fail
  refine (c1).mono ?_
  rintro e w' ⟨rfl, rfl⟩
  go_wp2_with fail
  refine (c2).mono ?_
  rintro e w' ⟨rfl, rfl⟩
  go_wp2
  go_ret
  exact ⟨rfl, rfl⟩

theorem top_ge {b : Nat} (h : nn b) : (FloatKind.f64.format.order b 4845873199050653696 == some .gt || FloatKind.f64.format.order b 4845873199050653696 == some .eq) = decide (4845873199050653696 ≤ key b) := by
  rw [c_gt h nn_top, c_eq h nn_top, key_top, Bool.eq_iff_iff]
  simp only [Bool.or_eq_true, decide_eq_true_eq]
  omega
theorem top_le {b : Nat} (h : nn b) : (FloatKind.f64.format.order b 14069245235905429504 == some .lt || FloatKind.f64.format.order b 14069245235905429504 == some .eq) = decide (key b ≤ -4845873199050653696) := by
  rw [c_lt h nn_ntop, c_eq h nn_ntop, key_ntop, Bool.eq_iff_iff]
  simp only [Bool.or_eq_true, decide_eq_true_eq]
  omega
theorem flN_top {b : Nat} (h : tidy b) (hr : 4845873199050653696 ≤ rung b) : flN b = b := by
  unfold flN
  by_cases hs : small b
  · rw [if_pos hs]
    have he : rung b = 4845873199050653696 := by unfold small at hs; omega
    have hw : whole b := by
      refine ⟨hs, ?_⟩
      rw [he, mg_top, Nat.mul_mod_left]
    have : flI b = trn b := by
      unfold flI
      rw [whole_sv hw, Int.mul_ediv_cancel _ (by have := U_pos; omega)]
    rw [this, ← whole_tidy hw h]
  · rw [if_neg hs]
theorem rfloor_any (b : Nat) (h : tidy b) (w : World) : Calls Tryd.prog 34 #[.float .f64 b] w fun e w' => e = .returned (.float .f64 (flN b)) ∧ w = w' := by
  have t1 := top_ge h.1.nn
  have t2 := top_le h.1.nn
  by_cases hr : 4845873199050653696 ≤ rung b
  · rw [flN_top h hr]
    have hk := key_abs b
    by_cases h1 : 4845873199050653696 ≤ key b
    · rw [decide_eq_true h1] at t1
      clear h hr hk h1
      go_enter Tryd.func34, Tryd.ntmps34
      go_wp2
      go_ret
      exact ⟨rfl, rfl⟩
    · rw [decide_eq_false h1] at t1
      rw [decide_eq_true (by omega)] at t2
      clear h hr hk h1
      go_enter Tryd.func34, Tryd.ntmps34
      go_wp2
      go_ret
      exact ⟨rfl, rfl⟩
  · have hk := key_abs b
    rw [decide_eq_false (by omega)] at t1 t2
    have hs : small b := by unfold small; omega
    have r0 := @run_toInt Tryd.prog b hs 22 2 (by kernel_rfl) (by kernel_rfl)
    have t3 := gt_trn hs
    have ht := trn_le hs
    have hG := flI_G hs
    have ef : flN b = fi (flI b) := if_pos hs
    rw [ef]
    clear ef
    have f0 : fin 0 := by decide
    by_cases he : flI b = trn b
    · rw [decide_eq_false (by omega)] at t3
      have r1 := @run_add Tryd.prog (fi (trn b)) 0 (fi_fin ht.1 ht.2) f0
      rw [add_zero (fi_tidy ht.1 ht.2), ← fi_conv] at r1
      rw [he]
      clear h hr hk hs ht hG he f0
      generalize trn b = t at *
      go_enter Tryd.func34, Tryd.ntmps34
      go_wp2
      go_ret
      exact ⟨rfl, rfl⟩
    · rw [decide_eq_true (by omega)] at t3
      have hn := trn_neg he
      have e1 : flI b = trn b - 1 := by have := flI_trn b; omega
      have hG2 : -9007199254740992 ≤ trn b - 1 := by have := hG.1; omega
      have r0' := @run_sub Tryd.prog (fi (trn b)) _ (fi_fin ht.1 ht.2) fin_one
      rw [sub_one hn hG2, ← fi_conv (trn b)] at r0'
      have r1 := @run_add Tryd.prog (fi (trn b - 1)) 0 (fi_fin hG2 (by omega)) f0
      rw [add_zero (fi_tidy hG2 (by omega))] at r1
      rw [e1]
      clear h hr hk hs ht hG he f0 e1 hn hG2
      generalize trn b = t at *
      go_enter Tryd.func34, Tryd.ntmps34
      go_wp2
      go_ret
      exact ⟨rfl, rfl⟩
theorem rceil_any (b : Nat) (h : tidy b) (w : World) : Calls Tryd.prog 33 #[.float .f64 b] w fun e w' => e = .returned (.float .f64 (ceN b)) ∧ w = w' := by
  have f0 : fin 0 := by decide
  have r0 := @run_sub Tryd.prog 0 b f0 h.1
  rw [zero_sub h] at r0
  have hn := ng_tidy h.1
  have c := rfloor_any (ng b) hn w
  have hy := flN_tidy hn
  have t := eq_zero' hy
  have r1 := @run_sub Tryd.prog 0 (flN (ng b)) f0 hy.1
  rw [zero_sub hy] at r1
  unfold ceN
  clear h hn f0
  generalize ng b = x at *
  by_cases h0 : flN x = 0
  · rw [decide_eq_true h0] at t
    have e0 : ng (flN x) = 0 := by rw [h0]; decide
    rw [e0]
    clear h0 e0 hy r1
    go_enter Tryd.func33, Tryd.ntmps33
    go_wp2_with fail
    refine (c).mono ?_
    rintro e w' ⟨rfl, rfl⟩
    go_wp2
    go_ret
    exact ⟨rfl, rfl⟩
  · rw [decide_eq_false h0] at t
    clear h0 hy
    generalize flN x = y at *
    go_enter Tryd.func33, Tryd.ntmps33
    go_wp2_with fail
    refine (c).mono ?_
    rintro e w' ⟨rfl, rfl⟩
    go_wp2
    go_ret
    exact ⟨rfl, rfl⟩
end Go.Proofs.YtidnikndjhfgaaaDoor
