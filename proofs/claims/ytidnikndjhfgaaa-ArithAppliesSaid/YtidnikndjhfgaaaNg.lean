/- Contracts of the functions of num and rebusref03: powers, all words. -/
import Derived.Test.YtidnikndjhfgaaaNf
namespace Go.Proofs.Ytidnikndjhfgaaa
open Go.RowKit Fl

set_option maxHeartbeats 400000
theorem powE_out {n : Int} {a : Nat} (h : n < -1023 ∨ 1023 < n) : powE n a = (0, 24) := if_pos h
theorem power_any (a b : Nat) (ha : nn a) (hl : a < 18446744073709551616) (w : World) :
    Calls Try.prog 62 #[.float .f64 a, .float .f64 b] w fun e w' => e = .returned (.tuple #[.float .f64 (pwN a b), .int .i64 (pwE a b)]) ∧ w = w' := by
  unfold pwN pwE
  by_cases hb : whole b
  · rw [if_pos hb, if_pos hb]
    by_cases hn : trn b < -1023 ∨ 1023 < trn b
    · rw [powE_out hn]
      have db := decide_eq_true hb
      have eb : wn b = trn b := if_pos hb.1
      have c := whole_any b w
      rw [db, eb] at c
      have tb := trn_le hb.1
      clear hb ha hl db eb
      generalize trn b = n at *
      by_cases h1 : 1023 < n
      · clear hn
        go_enter Try.func62, Try.ntmps62
        go_wp2_with (first | (go_at_call 84; refine c.mono ?_; rintro e w' ⟨rfl, rfl⟩))
        go_ret2
        exact ⟨rfl, rfl⟩
      · have h2 : n < -1023 := by omega
        clear hn
        go_enter Try.func62, Try.ntmps62
        go_wp2_with (first | (go_at_call 84; refine c.mono ?_; rintro e w' ⟨rfl, rfl⟩))
        go_ret2
        exact ⟨rfl, rfl⟩
    · exact power_walk a (trn b) (by omega) (by omega) ha hl b hb rfl w
  · rw [if_neg hb, if_neg hb]
    have c := whole_any b w
    rw [decide_eq_false hb] at c
    clear hb ha hl
    go_enter Try.func62, Try.ntmps62
    go_wp2_with (first | (go_at_call 84; refine c.mono ?_; rintro e w' ⟨rfl, rfl⟩))
    go_ret2
    exact ⟨rfl, rfl⟩

/-! ### The reference -/
namespace Fl
theorem w1023 : 4652209618980700160 = fi 1023 := by decide +kernel
theorem wm1023 : 13875581655835475968 = fi (-1023) := by decide +kernel
theorem w0 : 0 = fi 0 := by decide +kernel
theorem w1 : 4607182418800017408 = fi 1 := by decide +kernel
theorem whole_lt {b : Nat} (hb : whole b) {n : Int} (h1 : -9007199254740992 ≤ n) (h2 : n ≤ 9007199254740992) : (key b < key (fi n) ↔ trn b < n) ∧ (key (fi n) < key b ↔ n < trn b) ∧ (key b = key (fi n) ↔ trn b = n) := by
  have h := trn_le hb.1
  rw [← (whole_key hb.1).2 hb]
  exact ⟨fi_lt h.1 h.2 h1 h2, fi_lt h1 h2 h.1 h.2, fi_inj h.1 h.2 h1 h2⟩
theorem gt_1023 {b : Nat} (hb : whole b) : (FloatKind.f64.format.order b 4652209618980700160 == some .gt) = decide (1023 < trn b) := by
  rw [c_gt hb.1.fin.nn (by decide), w1023]; exact decide_eq_decide.2 (whole_lt hb (by omega) (by omega)).2.1
theorem lt_1023 {b : Nat} (hb : whole b) : (FloatKind.f64.format.order b 13875581655835475968 == some .lt) = decide (trn b < -1023) := by
  rw [c_lt hb.1.fin.nn (by decide), wm1023]; exact decide_eq_decide.2 (whole_lt hb (by omega) (by omega)).1
theorem ge_0 {b : Nat} (hb : whole b) : (FloatKind.f64.format.order b 0 == some .gt || FloatKind.f64.format.order b 0 == some .eq) = decide (0 ≤ trn b) := by
  rw [c_gt hb.1.fin.nn nn_zero, c_eq hb.1.fin.nn nn_zero]
  have h := @whole_lt b hb 0 (by omega) (by omega)
  rw [← w0] at h
  rw [Bool.eq_iff_iff]
  simp only [Bool.or_eq_true, decide_eq_true_eq]
  omega
end Fl

theorem rpower_walk (a : Nat) (n : Int) (hn : -1023 ≤ n) (hn' : n ≤ 1023) (ha : nn a) (hl : a < 18446744073709551616) (b : Nat) (hb : whole b) (ht : trn b = n) (w : World) :
    Calls Try.prog 66 #[.float .f64 a, .float .f64 b] w (PowPost n a w) := by
  have c := rwhole_any b w
  rw [decide_eq_true hb] at c
  have hst := Lib.hid (@PowTo.start n.natAbs a ha hl)
  have t1 := gt_1023 hb
  have t2 := lt_1023 hb
  have t3 := ge_0 hb
  have rc := @run_toInt Try.prog b hb.1 56 2 (by kernel_rfl) (by kernel_rfl)
  rw [ht, decide_eq_false (by omega)] at t1 t2
  rw [ht] at t3 rc
  have cs := rsize_any n (by omega) (by omega) w
  clear ht hb ha hl
  generalize hR : powN n.natAbs a = R at hst
  have HR := Lib.hid hR
  clear hR
  have hm : n.natAbs ≤ 1023 := by omega
  by_cases s : n < 0
  all_goals
    first
    | rw [decide_eq_false (show ¬ 0 ≤ n by omega)] at t3
    | rw [decide_eq_true (show 0 ≤ n by omega)] at t3
    go_enter Try.func66, Try.ntmps66
    go_wp2_with (first | (go_at_call 64; refine c.mono ?_; rintro e w' ⟨rfl, rfl⟩) | (go_at_call 87; refine cs.mono ?_; rintro e w' ⟨rfl, rfl⟩))
    clear c cs rc t1 t2
    go_loop [6, 7, 8] (fun k o x => ∃ kk oo xx : Nat, kk ≤ 1023 ∧ k = .int .i64 kk ∧ o = .float .f64 oo ∧ x = .float .f64 xx ∧ Hid (PowTo R kk oo xx)) (fun k _ _ => (intOf k).toNat)
    case atStart =>
      exact ⟨n.natAbs, _, _, hm, rfl, rfl, rfl, hst⟩
    case round =>
      obtain ⟨k, o, x, hk, rfl, rfl, rfl, hp⟩ := hrel
      clear hst hm
      by_cases k0 : k = 0
      · subst k0
        have ho := hp.out.done
        have hno := hp.out.nn
        subst ho
        clear hp
        first
        | have s' : 0 ≤ n := by omega
          clear s
          go_wp2_with (go_at_call 86; refine (rdone_any _ _).mono ?_; rintro e w' ⟨rfl, rfl⟩)
          go_ret2
          exact post_pos HR.out s' hn' w
        | by_cases hf : fin o
          · have d0 := decide_eq_true hf
            by_cases hz : rung o = 0
            · have t0 := eq_zero hno
              rw [decide_eq_true hz] at t0
              have hP := Lib.hid (post_zero HR.out hn s hz w)
              clear HR hf hz hno hk
              go_wp2_with (go_at_call 54; refine (finite_any _ _).mono ?_; rintro e w' ⟨rfl, rfl⟩)
              go_ret2
              exact hP.out
            · have t0 := eq_zero hno
              rw [decide_eq_false hz] at t0
              have hP := Lib.hid (post_inv HR.out hn s hf hz w)
              have r := @run_div Try.prog _ _ fin_one hf (fun h => hz h.2)
              clear HR hf hz hno hk
              go_wp2_with (first | (go_at_call 54; refine (finite_any _ _).mono ?_; rintro e w' ⟨rfl, rfl⟩) | (go_at_call 86; refine (rdone_any _ _).mono ?_; rintro e w' ⟨rfl, rfl⟩))
              go_ret2
              exact hP.out
          · have d0 := decide_eq_false hf
            have hP := Lib.hid (post_inf HR.out hn s hf w)
            clear HR hf hno hk
            go_wp2_with (go_at_call 54; refine (finite_any _ _).mono ?_; rintro e w' ⟨rfl, rfl⟩)
            go_ret2
            exact hP.out
      · have r1 := @run_mul_side Try.prog _ _ hp.out.1
        have r2 := @run_square_side Try.prog _ _ hp.out.1
        have hs := Lib.hid (hp.out.step k0)
        by_cases k1 : k % 2 = 1
        · have t1 := mod2_odd k1
          rw [if_pos k1] at hs
          by_cases k2 : 1 < k
          · rw [if_pos k2] at hs
            go_wp2
            exact ⟨⟨k / 2, _, _, by omega, by go_num, rfl, rfl, hs⟩, by simp [intOf]; omega⟩
          · rw [if_neg k2] at hs
            go_wp2
            exact ⟨⟨k / 2, _, _, by omega, by go_num, rfl, rfl, hs⟩, by simp [intOf]; omega⟩
        · have t1 := mod2_even k1
          rw [if_neg k1] at hs
          by_cases k2 : 1 < k
          · rw [if_pos k2] at hs
            go_wp2
            exact ⟨⟨k / 2, _, _, by omega, by go_num, rfl, rfl, hs⟩, by simp [intOf]; omega⟩
          · omega

theorem rpower_any (a b : Nat) (ha : nn a) (hl : a < 18446744073709551616) (w : World) :
    Calls Try.prog 66 #[.float .f64 a, .float .f64 b] w fun e w' => e = .returned (.tuple #[.float .f64 (pwN a b), .int .i64 (pwE a b)]) ∧ w = w' := by
  unfold pwN pwE
  by_cases hb : whole b
  · rw [if_pos hb, if_pos hb]
    by_cases hn : trn b < -1023 ∨ 1023 < trn b
    · rw [powE_out hn]
      have c := rwhole_any b w
      rw [decide_eq_true hb] at c
      have t1 := gt_1023 hb
      have t2 := lt_1023 hb
      clear hb ha hl
      generalize trn b = n at *
      by_cases h1 : 1023 < n
      · rw [decide_eq_true h1] at t1
        clear hn t2
        go_enter Try.func66, Try.ntmps66
        go_wp2_with (first | (go_at_call 64; refine c.mono ?_; rintro e w' ⟨rfl, rfl⟩))
        go_ret2
        exact ⟨rfl, rfl⟩
      · have h2 : n < -1023 := by omega
        rw [decide_eq_false h1] at t1
        rw [decide_eq_true h2] at t2
        clear hn
        go_enter Try.func66, Try.ntmps66
        go_wp2_with (first | (go_at_call 64; refine c.mono ?_; rintro e w' ⟨rfl, rfl⟩))
        go_ret2
        exact ⟨rfl, rfl⟩
    · exact rpower_walk a (trn b) (by omega) (by omega) ha hl b hb rfl w
  · rw [if_neg hb, if_neg hb]
    have c := rwhole_any b w
    rw [decide_eq_false hb] at c
    clear hb ha hl
    go_enter Try.func66, Try.ntmps66
    go_wp2_with (first | (go_at_call 64; refine c.mono ?_; rintro e w' ⟨rfl, rfl⟩))
    go_ret2
    exact ⟨rfl, rfl⟩
end Go.Proofs.Ytidnikndjhfgaaa
