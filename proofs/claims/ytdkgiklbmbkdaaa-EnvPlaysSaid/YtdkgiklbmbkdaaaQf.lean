/- Contracts of squeeze: Least. -/
import Derived.Test.YtdkgiklbmbkdaaaQ
import Derived.Test.YtdkgiklbmbkdaaaQe
namespace Go.Proofs.Ytdkgiklbmbkdaaa
open Go.RowKit Bv Fl

theorem least_three {l : List Nat} {k : Nat} (hw : allW l = true) (hk : k ≤ l.length) (h : lm l k = 3) : leastL l = 3 := by
  unfold leastL
  rw [hw]
  have h1 := lm_mono l hk
  have h2 := lm_le l l.length
  show lm l l.length = 3
  omega

theorem nwhole_four' (v : Value) (K : Nat) (l : List Nat) (j : Nat) (w : World) (h : IsNum w v K l) (hj : j < l.length) (h4 : K = 4) : Calls Try.prog 64 #[v, .int .i64 (j : Int)] w fun e w' => e = .returned (.tuple #[.int .i64 0, .bool false]) ∧ Ext w w' := by
  subst h4
  exact nwhole_four v l j w h hj
set_option maxHeartbeats 2000000
theorem least_any (v : Value) (K : Nat) (l : List Nat) (w : World) (h : IsNum w v K l) : Calls Try.prog 44 #[v] w fun e w' => e = .returned (.int .i64 (leastL l : Int)) ∧ Ext w w' := by
  obtain ⟨hk1, hk4⟩ := h.rng
  have hk0 : ((K : Int) == 0) = false := by simp; omega
  have hlim := h.lim
  have HAW : Hid (K ≤ 3 → ∀ j, j < l.length → whole (l.getD j 0)) := fun h3 j hj => h.whole h3 hj
  obtain ⟨f1, fn, f3, f4, f5, f6, f7, rfl⟩ := h.form
  have HV := Lib.hid (h.ext ((Ext.refl w).alloc (.cells #[.int .i64 (K : Int), f1, .int .i64 fn, f3, f4, f5, f6, f7] 47)))
  have HX := Lib.hid (Ext.refl (w.alloc (.cells #[.int .i64 (K : Int), f1, .int .i64 fn, f3, f4, f5, f6, f7] 47)))
  obtain ⟨hc, hf⟩ := HX.out.cells
  obtain ⟨n, hn⟩ : ∃ n, l.length = n := ⟨_, rfl⟩
  have cl := fun w h => nlen_any (.agg #[.int .i64 (K : Int), f1, .int .i64 fn, f3, f4, f5, f6, f7]) K l w h
  rw [hn] at hlim cl
  obtain ⟨r, hr⟩ : ∃ r, leastL l = r := ⟨_, rfl⟩
  rw [hr]
  have HR := Lib.hid hr
  have HN := Lib.hid hn
  clear hr hn h
  go_enter Try.func44, Try.ntmps44
  go_wp2_with fail
  refine (nclass_any _ K l _ (HV.out.ext HX.out)).mono ?_
  rintro e w' ⟨rfl, hx⟩
  replace HX := Lib.hid (HX.out.trans hx)
  clear hc hf hx
  obtain ⟨hc, hf⟩ := HX.out.cells
  go_wp2_with fail
  refine (nkind_any _ K l _ (HV.out.ext HX.out)).mono ?_
  rintro e w' ⟨rfl, hx⟩
  replace HX := Lib.hid (HX.out.trans hx)
  clear hc hf hx
  obtain ⟨hc, hf⟩ := HX.out.cells
  go_wp2_with fail
  refine (cl _ (HV.out.ext HX.out)).mono ?_
  rintro e w' ⟨rfl, hx⟩
  replace HX := Lib.hid (HX.out.trans hx)
  clear hc hf hx
  obtain ⟨hc, hf⟩ := HX.out.cells
  go_wp2_with fail
  go_loopw [3, 19] (fun m i wr => ∃ k : Nat, k ≤ n ∧ i = .int .i64 k ∧ m = .int .i64 ((lm l k : Nat) : Int) ∧ upW l k ∧ Ext (w.alloc (.cells #[.int .i64 (K : Int), f1, .int .i64 fn, f3, f4, f5, f6, f7] 47)) wr) (fun _ i _ => n - (intOf i).toNat)
  case atStart => exact ⟨0, Nat.zero_le _, rfl, rfl, upW_zero l, HX.out⟩
  case round =>
    obtain ⟨k, hk, rfl, rfl, hup, hx⟩ := hrel
    have HU := Lib.hid hup
    clear hc hf HX
    have HX := Lib.hid hx
    obtain ⟨hc, hf⟩ := HX.out.cells
    clear hup hx
    by_cases hlt : k < n
    · have HM : Hid (lm l (k + 1) = max (lm l k) (rankI (wn (l.getD k 0)))) := rfl
      have hq3 := lm_le l k
      have hy3 := rankI_le (wn (l.getD k 0))
      have ck := fun w => rank_any (wn (l.getD k 0)) w
      have hkl : k < l.length := by rw [HN.out]; exact hlt
      have HKL := Lib.hid hkl
      have cn := fun w h => nnum_in (.agg #[.int .i64 (K : Int), f1, .int .i64 fn, f3, f4, f5, f6, f7]) K l k w h hkl
      have cw := fun w => whole_any (l.getD k 0) w
      by_cases h3 : K ≤ 3
      · have c1 := fun w h => nwhole_in (.agg #[.int .i64 (K : Int), f1, .int .i64 fn, f3, f4, f5, f6, f7]) K l k w h hkl h3
        have hup := Lib.hid (upW_step HU.out (HAW.out h3 k hkl))
        have HT : Hid (lm l (k + 1) = 3 → r = 3) := fun e => by rw [← HR.out]; exact least_three (allW_iff.2 (HAW.out h3)) (by omega) e
        clear hkl cn cw HU
        generalize wn (l.getD k 0) = x at *
        generalize rankI x = y at *
        generalize lm l k = q at *
        rcases Nat.lt_or_ge q y with hqy | hqy
        · have HQ : Hid (lm l (k + 1) = y) := Lib.hid (by rw [HM.out]; omega)
          by_cases e3 : y = 3
          · have e3' : ((y : Int) == 3) = true := by simp; omega
            have hT := HT.out (by rw [HQ.out]; exact e3)
            clear e3 HT
            by_cases k3 : K = 3
            · subst k3 hT
              go_wp2_with fail
              refine (c1 _ (HV.out.ext HX.out)).mono ?_
              rintro e w' ⟨rfl, hx⟩
              replace HX := Lib.hid (HX.out.trans hx)
              clear hc hf hx
              obtain ⟨hc, hf⟩ := HX.out.cells
              go_wp2_with fail
              refine (ck _).mono ?_
              rintro e w4 ⟨rfl, rfl⟩
              go_wp2_with fail
              refine (nkind_any _ 3 l _ (HV.out.ext HX.out)).mono ?_
              rintro e w' ⟨rfl, hx⟩
              replace HX := Lib.hid (HX.out.trans hx)
              clear hc hf hx
              obtain ⟨hc, hf⟩ := HX.out.cells
              go_wp2
              go_ret
              exact ⟨rfl, ((Ext.refl w).alloc _).trans HX.out⟩
            · have k3' : ((K : Int) == 3) = false := by simp; omega
              clear hT
              go_wp2_with fail
              refine (c1 _ (HV.out.ext HX.out)).mono ?_
              rintro e w' ⟨rfl, hx⟩
              replace HX := Lib.hid (HX.out.trans hx)
              clear hc hf hx
              obtain ⟨hc, hf⟩ := HX.out.cells
              go_wp2_with fail
              refine (ck _).mono ?_
              rintro e w4 ⟨rfl, rfl⟩
              go_wp2_with fail
              refine (nkind_any _ K l _ (HV.out.ext HX.out)).mono ?_
              rintro e w' ⟨rfl, hx⟩
              replace HX := Lib.hid (HX.out.trans hx)
              clear hc hf hx
              obtain ⟨hc, hf⟩ := HX.out.cells
              go_wp2
              exact ⟨⟨k + 1, by omega, by go_num, by rw [HQ.out], hup.out, HX.out⟩, by simp [intOf]; omega⟩
          · have e3' : ((y : Int) == 3) = false := by simp; omega
            go_wp2_with fail
            refine (c1 _ (HV.out.ext HX.out)).mono ?_
            rintro e w' ⟨rfl, hx⟩
            replace HX := Lib.hid (HX.out.trans hx)
            clear hc hf hx
            obtain ⟨hc, hf⟩ := HX.out.cells
            go_wp2_with fail
            refine (ck _).mono ?_
            rintro e w4 ⟨rfl, rfl⟩
            go_wp2
            exact ⟨⟨k + 1, by omega, by go_num, by rw [HQ.out], hup.out, HX.out⟩, by simp [intOf]; omega⟩
        · have HQ : Hid (lm l (k + 1) = q) := Lib.hid (by rw [HM.out]; omega)
          by_cases e3 : q = 3
          · have e3' : ((q : Int) == 3) = true := by simp; omega
            have hT := HT.out (by rw [HQ.out]; exact e3)
            clear e3 HT
            by_cases k3 : K = 3
            · subst k3 hT
              go_wp2_with fail
              refine (c1 _ (HV.out.ext HX.out)).mono ?_
              rintro e w' ⟨rfl, hx⟩
              replace HX := Lib.hid (HX.out.trans hx)
              clear hc hf hx
              obtain ⟨hc, hf⟩ := HX.out.cells
              go_wp2_with fail
              refine (ck _).mono ?_
              rintro e w4 ⟨rfl, rfl⟩
              go_wp2_with fail
              refine (nkind_any _ 3 l _ (HV.out.ext HX.out)).mono ?_
              rintro e w' ⟨rfl, hx⟩
              replace HX := Lib.hid (HX.out.trans hx)
              clear hc hf hx
              obtain ⟨hc, hf⟩ := HX.out.cells
              go_wp2
              go_ret
              exact ⟨rfl, ((Ext.refl w).alloc _).trans HX.out⟩
            · have k3' : ((K : Int) == 3) = false := by simp; omega
              clear hT
              go_wp2_with fail
              refine (c1 _ (HV.out.ext HX.out)).mono ?_
              rintro e w' ⟨rfl, hx⟩
              replace HX := Lib.hid (HX.out.trans hx)
              clear hc hf hx
              obtain ⟨hc, hf⟩ := HX.out.cells
              go_wp2_with fail
              refine (ck _).mono ?_
              rintro e w4 ⟨rfl, rfl⟩
              go_wp2_with fail
              refine (nkind_any _ K l _ (HV.out.ext HX.out)).mono ?_
              rintro e w' ⟨rfl, hx⟩
              replace HX := Lib.hid (HX.out.trans hx)
              clear hc hf hx
              obtain ⟨hc, hf⟩ := HX.out.cells
              go_wp2
              exact ⟨⟨k + 1, by omega, by go_num, by rw [HQ.out], hup.out, HX.out⟩, by simp [intOf]; omega⟩
          · have e3' : ((q : Int) == 3) = false := by simp; omega
            go_wp2_with fail
            refine (c1 _ (HV.out.ext HX.out)).mono ?_
            rintro e w' ⟨rfl, hx⟩
            replace HX := Lib.hid (HX.out.trans hx)
            clear hc hf hx
            obtain ⟨hc, hf⟩ := HX.out.cells
            go_wp2_with fail
            refine (ck _).mono ?_
            rintro e w4 ⟨rfl, rfl⟩
            go_wp2
            exact ⟨⟨k + 1, by omega, by go_num, by rw [HQ.out], hup.out, HX.out⟩, by simp [intOf]; omega⟩
      · have h4 : K = 4 := by omega
        have c1 : ∀ w, IsNum w (.agg #[.int .i64 (K : Int), f1, .int .i64 fn, f3, f4, f5, f6, f7]) K l → _ := fun w h => nwhole_four' (.agg #[.int .i64 (K : Int), f1, .int .i64 fn, f3, f4, f5, f6, f7]) K l k w h hkl h4
        have k3' : ((K : Int) == 3) = false := by simp; omega
        clear h4
        have HW : Hid (∀ b : Bool, decide (whole (l.getD k 0)) = b → (b = true → upW l (k + 1)) ∧ (b = false → r = 4)) := fun b hb => ⟨fun e => upW_step HU.out (of_decide_eq_true (by rw [hb, e])), fun e => by rw [← HR.out]; unfold leastL; rw [allW_false hkl (of_decide_eq_false (by rw [hb, e]))]; rfl⟩
        clear hkl HU
        generalize decide (whole (l.getD k 0)) = b at *
        obtain ⟨hW1, hW2⟩ := HW.out b rfl
        generalize l.getD k 0 = z at *
        generalize wn z = x at *
        generalize rankI x = y at *
        generalize lm l k = q at *
        clear HW h3
        cases b
        · have hr4 := hW2 rfl
          subst hr4
          clear hW1 hW2
          go_wp2_with fail
          refine (c1 _ (HV.out.ext HX.out)).mono ?_
          rintro e w' ⟨rfl, hx⟩
          replace HX := Lib.hid (HX.out.trans hx)
          clear hc hf hx
          obtain ⟨hc, hf⟩ := HX.out.cells
          go_wp2_with fail
          refine (cn _ (HV.out.ext HX.out)).mono ?_
          rintro e w' ⟨rfl, hx⟩
          replace HX := Lib.hid (HX.out.trans hx)
          clear hc hf hx
          obtain ⟨hc, hf⟩ := HX.out.cells
          go_wp2_with fail
          refine (cw _).mono ?_
          rintro e w4 ⟨rfl, rfl⟩
          go_wp2
          go_ret
          exact ⟨rfl, ((Ext.refl w).alloc _).trans HX.out⟩
        · have hup := Lib.hid (hW1 rfl)
          clear hW1 hW2
          rcases Nat.lt_or_ge q y with hqy | hqy
          · have HQ : Hid (lm l (k + 1) = y) := Lib.hid (by rw [HM.out]; omega)
            by_cases e3 : y = 3
            · have e3' : ((y : Int) == 3) = true := by simp; omega
              clear e3
              go_wp2_with fail
              refine (c1 _ (HV.out.ext HX.out)).mono ?_
              rintro e w' ⟨rfl, hx⟩
              replace HX := Lib.hid (HX.out.trans hx)
              clear hc hf hx
              obtain ⟨hc, hf⟩ := HX.out.cells
              go_wp2_with fail
              refine (cn _ (HV.out.ext HX.out)).mono ?_
              rintro e w' ⟨rfl, hx⟩
              replace HX := Lib.hid (HX.out.trans hx)
              clear hc hf hx
              obtain ⟨hc, hf⟩ := HX.out.cells
              go_wp2_with fail
              refine (cw _).mono ?_
              rintro e w4 ⟨rfl, rfl⟩
              go_wp2_with fail
              refine (ck _).mono ?_
              rintro e w4 ⟨rfl, rfl⟩
              go_wp2_with fail
              refine (nkind_any _ K l _ (HV.out.ext HX.out)).mono ?_
              rintro e w' ⟨rfl, hx⟩
              replace HX := Lib.hid (HX.out.trans hx)
              clear hc hf hx
              obtain ⟨hc, hf⟩ := HX.out.cells
              go_wp2
              exact ⟨⟨k + 1, by omega, by go_num, by rw [HQ.out], hup.out, HX.out⟩, by simp [intOf]; omega⟩
            · have e3' : ((y : Int) == 3) = false := by simp; omega
              go_wp2_with fail
              refine (c1 _ (HV.out.ext HX.out)).mono ?_
              rintro e w' ⟨rfl, hx⟩
              replace HX := Lib.hid (HX.out.trans hx)
              clear hc hf hx
              obtain ⟨hc, hf⟩ := HX.out.cells
              go_wp2_with fail
              refine (cn _ (HV.out.ext HX.out)).mono ?_
              rintro e w' ⟨rfl, hx⟩
              replace HX := Lib.hid (HX.out.trans hx)
              clear hc hf hx
              obtain ⟨hc, hf⟩ := HX.out.cells
              go_wp2_with fail
              refine (cw _).mono ?_
              rintro e w4 ⟨rfl, rfl⟩
              go_wp2_with fail
              refine (ck _).mono ?_
              rintro e w4 ⟨rfl, rfl⟩
              go_wp2
              exact ⟨⟨k + 1, by omega, by go_num, by rw [HQ.out], hup.out, HX.out⟩, by simp [intOf]; omega⟩
          · have HQ : Hid (lm l (k + 1) = q) := Lib.hid (by rw [HM.out]; omega)
            by_cases e3 : q = 3
            · have e3' : ((q : Int) == 3) = true := by simp; omega
              clear e3
              go_wp2_with fail
              refine (c1 _ (HV.out.ext HX.out)).mono ?_
              rintro e w' ⟨rfl, hx⟩
              replace HX := Lib.hid (HX.out.trans hx)
              clear hc hf hx
              obtain ⟨hc, hf⟩ := HX.out.cells
              go_wp2_with fail
              refine (cn _ (HV.out.ext HX.out)).mono ?_
              rintro e w' ⟨rfl, hx⟩
              replace HX := Lib.hid (HX.out.trans hx)
              clear hc hf hx
              obtain ⟨hc, hf⟩ := HX.out.cells
              go_wp2_with fail
              refine (cw _).mono ?_
              rintro e w4 ⟨rfl, rfl⟩
              go_wp2_with fail
              refine (ck _).mono ?_
              rintro e w4 ⟨rfl, rfl⟩
              go_wp2_with fail
              refine (nkind_any _ K l _ (HV.out.ext HX.out)).mono ?_
              rintro e w' ⟨rfl, hx⟩
              replace HX := Lib.hid (HX.out.trans hx)
              clear hc hf hx
              obtain ⟨hc, hf⟩ := HX.out.cells
              go_wp2
              exact ⟨⟨k + 1, by omega, by go_num, by rw [HQ.out], hup.out, HX.out⟩, by simp [intOf]; omega⟩
            · have e3' : ((q : Int) == 3) = false := by simp; omega
              go_wp2_with fail
              refine (c1 _ (HV.out.ext HX.out)).mono ?_
              rintro e w' ⟨rfl, hx⟩
              replace HX := Lib.hid (HX.out.trans hx)
              clear hc hf hx
              obtain ⟨hc, hf⟩ := HX.out.cells
              go_wp2_with fail
              refine (cn _ (HV.out.ext HX.out)).mono ?_
              rintro e w' ⟨rfl, hx⟩
              replace HX := Lib.hid (HX.out.trans hx)
              clear hc hf hx
              obtain ⟨hc, hf⟩ := HX.out.cells
              go_wp2_with fail
              refine (cw _).mono ?_
              rintro e w4 ⟨rfl, rfl⟩
              go_wp2_with fail
              refine (ck _).mono ?_
              rintro e w4 ⟨rfl, rfl⟩
              go_wp2
              exact ⟨⟨k + 1, by omega, by go_num, by rw [HQ.out], hup.out, HX.out⟩, by simp [intOf]; omega⟩
    · have hkn : k = n := by omega
      subst hkn
      have hr : lm l k = r := by
        have hup := HU.out
        rw [← HN.out] at hup
        rw [← HR.out]; unfold leastL; rw [upW_all hup, HN.out]; rfl
      rw [hr]
      clear hr
      go_wp2
      go_ret
      exact ⟨rfl, ((Ext.refl w).alloc _).trans HX.out⟩
end Go.Proofs.Ytdkgiklbmbkdaaa
