/- Contracts of rebusref05: Least, Fits. -/
import Derived.Test.YtdfhefnjoekgbaaQ
namespace Go.Proofs.Ytdfhefnjoekgbaa
open Go.RowKit Bv Fl

theorem rank_at {l : List Nat} {j : Nat} (hw : whole (l.getD j 0)) : rankI (wn (l.getD j 0)) = rankI (trn (l.getD j 0)) := by rw [wn_whole hw]
theorem lm_1 {l : List Nat} {j : Nat} (hw : whole (l.getD j 0)) (h : trn (l.getD j 0) = 0 ∨ trn (l.getD j 0) = 1) : lm l (j + 1) = lm l j := by
  have := lm_ge l j
  have h1 := rankI_le1.2 h
  show max _ _ = _
  rw [rank_at hw]; omega
theorem lm_2 {l : List Nat} {j : Nat} (hw : whole (l.getD j 0)) (h0 : trn (l.getD j 0) ≠ 0) (h1 : trn (l.getD j 0) ≠ 1) (h : -128 ≤ trn (l.getD j 0) ∧ trn (l.getD j 0) ≤ 127) : lm l (j + 1) = if lm l j < 2 then 2 else lm l j := by
  have := lm_ge l j
  have h3 := rankI_le2.2 h
  have h4 : ¬ rankI (trn (l.getD j 0)) ≤ 1 := fun e => by have := rankI_le1.1 e; omega
  show max _ _ = _
  rw [rank_at hw]; split <;> omega
theorem lm_3 {l : List Nat} {j : Nat} (hw : whole (l.getD j 0)) (h : ¬ (-128 ≤ trn (l.getD j 0) ∧ trn (l.getD j 0) ≤ 127)) : lm l (j + 1) = 3 := by
  have := lm_le l j
  have h3 : ¬ rankI (trn (l.getD j 0)) ≤ 2 := fun e => h (rankI_le2.1 e)
  have h4 := rankI_le (trn (l.getD j 0))
  show max _ _ = _
  rw [rank_at hw]; omega

set_option maxHeartbeats 1000000
theorem rleast_any (A : Option Addr) (l : List Nat) (n : Nat) (hn : n = l.length) (c : Nat) (w : World) (hl : n ≤ 1048576) (hs : Sl w 1 A n (f64s l)) : Calls Try.prog 22 #[.slice A n c] w fun e w' => e = .returned (.int .i64 (leastL l : Int)) ∧ w = w' := by
  have HS := Lib.hid hs
  have HN := Lib.hid hn
  clear hs hn
  obtain ⟨r, hr⟩ : ∃ r, leastL l = r := ⟨_, rfl⟩
  rw [hr]
  have HR := Lib.hid hr
  clear hr
  go_enter Try.func22, Try.ntmps22
  go_wp2_with fail
  go_loop [3, 4] (fun m i => ∃ k : Nat, k ≤ n ∧ i = .int .i64 k ∧ m = .int .i64 ((lm l k : Nat) : Int) ∧ upW l k) (fun _ i => n - (intOf i).toNat)
  case atStart => exact ⟨0, Nat.zero_le _, rfl, rfl, upW_zero l⟩
  case round =>
    obtain ⟨k, hk, rfl, rfl, hup⟩ := hrel
    have HU := Lib.hid hup
    clear hup
    by_cases hlt : k < n
    · obtain ⟨a, u, rfl, hab, hu, hcell⟩ := HS.out.at1 hlt
      rw [f64s_get (by rw [← HN.out]; exact hlt)] at hu
      cases hu
      have ct := rwhole_any (l.getD k 0) w
      have hcell : w.cell? (a.add k) = some (.float .f64 (l.getD k 0)) := hcell
      by_cases hg : whole (l.getD k 0)
      · have hup := Lib.hid (upW_step HU.out hg)
        rw [decide_eq_true hg] at ct
        have t1 := t_m128 hg
        have t2 := t_127 hg
        have t3 := t_ne0 hg
        have t4 := t_ne1 hg
        have m1 := Lib.hid (@lm_1 l k hg)
        have m2 := Lib.hid (@lm_2 l k hg)
        have m3 := Lib.hid (@lm_3 l k hg)
        have g1 := lm_ge l k
        have g2 := lm_le l k
        clear hg HU
        generalize l.getD k 0 = x at *
        generalize lm l k = q at *
        by_cases hA : -128 ≤ trn x ∧ trn x ≤ 127
        · rw [decide_eq_false (show ¬ trn x < -128 by omega)] at t1
          rw [decide_eq_false (show ¬ 127 < trn x by omega)] at t2
          by_cases h0 : trn x = 0
          · rw [decide_eq_true h0] at t3
            have m := Lib.hid (m1.out (.inl h0))
            clear h0 hA t4 m1 m2 m3
            go_wp2_with fail
            refine ct.mono ?_
            rintro e w4 ⟨rfl, rfl⟩
            go_wp2
            exact ⟨⟨k + 1, by omega, by go_num, by rw [m.out], hup.out⟩, by simp [intOf]; omega⟩
          · rw [decide_eq_false h0] at t3
            by_cases h1 : trn x = 1
            · rw [decide_eq_true h1] at t4
              have m := Lib.hid (m1.out (.inr h1))
              clear h0 h1 hA m1 m2 m3
              go_wp2_with fail
              refine ct.mono ?_
              rintro e w4 ⟨rfl, rfl⟩
              go_wp2
              exact ⟨⟨k + 1, by omega, by go_num, by rw [m.out], hup.out⟩, by simp [intOf]; omega⟩
            · rw [decide_eq_false h1] at t4
              have m := Lib.hid (m2.out h0 h1 hA)
              clear h0 h1 hA m1 m2 m3
              by_cases hq : q < 2
              · have m : Hid (lm l (k + 1) = 2) := Lib.hid (by rw [m.out, if_pos hq])
                go_wp2_with fail
                refine ct.mono ?_
                rintro e w4 ⟨rfl, rfl⟩
                go_wp2
                exact ⟨⟨k + 1, by omega, by go_num, by rw [m.out]; rfl, hup.out⟩, by simp [intOf]; omega⟩
              · have m : Hid (lm l (k + 1) = q) := Lib.hid (by rw [m.out, if_neg hq])
                have hq : 2 ≤ q := by omega
                go_wp2_with fail
                refine ct.mono ?_
                rintro e w4 ⟨rfl, rfl⟩
                go_wp2
                exact ⟨⟨k + 1, by omega, by go_num, by rw [m.out], hup.out⟩, by simp [intOf]; omega⟩
        · have m := Lib.hid (m3.out hA)
          have h0 : trn x ≠ 0 := by omega
          have h1 : trn x ≠ 1 := by omega
          rw [decide_eq_false h0] at t3
          rw [decide_eq_false h1] at t4
          by_cases hB : trn x < -128
          · rw [decide_eq_true hB] at t1
            clear h0 h1 hA hB m1 m2 m3 t2
            go_wp2_with fail
            refine ct.mono ?_
            rintro e w4 ⟨rfl, rfl⟩
            go_wp2
            exact ⟨⟨k + 1, by omega, by go_num, by rw [m.out]; rfl, hup.out⟩, by simp [intOf]; omega⟩
          · rw [decide_eq_false hB] at t1
            rw [decide_eq_true (show 127 < trn x by omega)] at t2
            clear h0 h1 hA hB m1 m2 m3
            go_wp2_with fail
            refine ct.mono ?_
            rintro e w4 ⟨rfl, rfl⟩
            go_wp2
            exact ⟨⟨k + 1, by omega, by go_num, by rw [m.out]; rfl, hup.out⟩, by simp [intOf]; omega⟩
      · have hf := allW_false (by rw [← HN.out]; exact hlt) hg
        have hr : r = 4 := by rw [← HR.out]; unfold leastL; rw [hf]; rfl
        subst hr
        rw [decide_eq_false hg] at ct
        clear hg hf HU
        generalize l.getD k 0 = x at *
        generalize lm l k = q at *
        go_wp2_with fail
        refine ct.mono ?_
        rintro e w4 ⟨rfl, rfl⟩
        go_wp2
        go_ret
        exact ⟨rfl, rfl⟩
    · have hkn : k = n := by omega
      subst hkn
      have hup := HU.out
      rw [HN.out] at hup
      have ht := upW_all hup
      have hr : lm l k = r := by rw [← HR.out]; unfold leastL; rw [ht, HN.out]; rfl
      have HU2 := Lib.hid hr
      clear hup ht
      rw [hr]
      clear hr
      go_wp2
      go_ret
      exact ⟨rfl, rfl⟩
theorem rfits_any (A : Option Addr) (l : List Nat) (n : Nat) (hn : n = l.length) (c : Nat) (kind : Int) (w : World) (hl : n ≤ 1048576) (hs : Sl w 1 A n (f64s l)) : Calls Try.prog 16 #[.slice A n c, .int .i64 kind] w fun e w' => e = .returned (.bool (fitsL l kind)) ∧ w = w' := by
  have c1 := rleast_any A l n hn c w hl hs
  unfold fitsL
  generalize (leastL l : Int) = r at *
  clear hs hn hl
  by_cases h1 : r ≤ kind
  · by_cases h2 : kind ≤ 4
    · rw [decide_eq_true ⟨h1, h2⟩]
      go_enter Try.func16, Try.ntmps16
      go_wp2_with fail
      refine c1.mono ?_
      rintro e w' ⟨rfl, rfl⟩
      go_wp2
      go_ret
      exact ⟨rfl, rfl⟩
    · rw [decide_eq_false (fun h => h2 h.2)]
      have e2 := decide_eq_false h2
      clear h2
      go_enter Try.func16, Try.ntmps16
      go_wp2_with fail
      refine c1.mono ?_
      rintro e w' ⟨rfl, rfl⟩
      go_wp2
      go_ret
      exact ⟨rfl, rfl⟩
  · rw [decide_eq_false (fun h => h1 h.1)]
    have h1 : kind < r := by omega
    go_enter Try.func16, Try.ntmps16
    go_wp2_with fail
    refine c1.mono ?_
    rintro e w' ⟨rfl, rfl⟩
    go_wp2
    go_ret
    exact ⟨rfl, rfl⟩
end Go.Proofs.Ytdfhefnjoekgbaa
