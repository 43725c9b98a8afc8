/- VecBits, for every input. -/
import Derived.Test.YtmjikdkdccnbaaaVp
namespace Go.Proofs.Ytmjikdkdccnbaaa
open Go.ChangeShapes Go.WideShapes Go.RowKit Bv Fl

attribute [local go_sem] run_store_f64
theorem bits_row (l : List Bool) (n : Nat) (hn : n = l.length) : f64s (VD.bits l).nums = pre (fun k => .float .f64 (bitW (l.getD k false))) n := by
  subst hn
  simp only [f64s, VD.nums, pre, List.map_map]
  rfl
theorem smalls_row (l : List Int) (n : Nat) (hn : n = l.length) : f64s (VD.smalls l).nums = pre (fun k => .float .f64 (fi (l.getD k 0))) n := by
  subst hn
  simp only [f64s, VD.nums, pre, List.map_map]
  rfl

theorem bools_yes (A A' : Option Addr) (l : List Bool) (n c c' : Nat) (hn : n = l.length) (w : World) (hl : n ≤ 1048576) (hs : Sl w 1 A n (bools l)) (hs' : Sl w 1 A' n (bools l)) : Calls Try.prog 32 #[.slice A n c, .slice A' n c'] w fun e w' => e = .returned (.bool true) ∧ Ext w w' := by
  refine (boolsq_any A A' l l n n c c' hn hn w hl hs hs').mono ?_
  rintro e w' ⟨rfl, h⟩
  exact ⟨by simp, Ext.of_drewN h⟩

set_option maxHeartbeats 4000000
set_option maxRecDepth 100000 in
theorem vecBits_main (w : World) (A : Option Addr) (b : List Bool) (c : Nat) (hc : b.length ≤ c) (hs : Sl w 1 A b.length (bools b)) (A' : Option Addr) (s : List Int) (c' : Nat) (hs' : Sl w 1 A' s.length (i8s s)) (hw : ∀ x ∈ s, -128 ≤ x ∧ x ≤ 127) (h5 : b.length ≤ 500) (h6 : s.length ≤ 500) :
    Calls Try.prog 7 #[.slice A b.length c, .slice A' s.length c'] w fun e w' => e = .returned (.bool true) ∧ Ext w w' := by
  obtain ⟨n, hn⟩ : ∃ n, n = b.length := ⟨_, rfl⟩
  obtain ⟨m, hm⟩ : ∃ m, m = s.length := ⟨_, rfl⟩
  have cp := fun w hs => pack_any A c b w (by omega) hc hs
  have cm := fun w hs => vsmalls_any A' s m hm hw c' w (by omega) hs
  rw [← hn] at cp
  rw [← hn] at hs h5 ⊢
  rw [← hm] at hs' h6 ⊢
  have HS := Lib.hid hs
  have HS' := Lib.hid hs'
  have HN := Lib.hid hn
  have HM := Lib.hid hm
  obtain ⟨i0, hi0, hz0, hz1, hz2⟩ := info_parts infoF
  clear hs hs' hn hm hw hc
  go_enter Try.func7, Try.ntmps7
  go_wp2_with fail
  go_loopw [5, 7] (fun o i wr => ∃ k : Nat, k ≤ n ∧ i = .int .i64 k ∧ wr.ownsRow w.heap.size 53 1 o k (pre (fun k => .float .f64 (bitW (b.getD k false))) k) ∧ Ext w wr) (fun _ i _ => n - (intOf i).toNat)
  case atStart => exact ⟨0, Nat.zero_le _, rfl, ⟨rfl, Or.inl ⟨rfl, rfl⟩⟩, Ext.refl w⟩
  case round =>
    obtain ⟨k, hk, rfl, hown, hx⟩ := hrel
    have HX := Lib.hid hx
    have HO := Lib.hid hown
    clear hx hown
    by_cases hlt : k < n
    · obtain ⟨g, u, rfl, hab, hu, hcell⟩ := HS.out.at1 hlt
      rw [bools_get (by rw [← HN.out]; exact hlt)] at hu
      cases hu
      have L0 : wr.cell? (g.add k) = some (.bool (b.getD k false)) := (Below.cell HX.out (by rw [addr_block]; exact hab)).trans hcell
      have HP : Hid (pre (fun k => .float .f64 (bitW (b.getD k false))) k ++ [(.float .f64 (bitW (b.getD k false)))] = pre (fun k => .float .f64 (bitW (b.getD k false))) (k + 1)) := pre_step _ k
      clear hcell
      generalize b.getD k false = x at *
      cases x
      · have HW : Hid (∀ o, (wr.alloc o).ownsRow w.heap.size 53 1 u5 k (pre (fun k => .float .f64 (bitW (b.getD k false))) k)) := fun o => own_ext HO.out ((Ext.refl _).alloc _)
        have HR : Hid (Sl (wr.alloc (.cells #[.float .f64 0] 53)) 1 (some ⟨wr.heap.size, 0, none⟩) 1 [.float .f64 0]) := Sl.built wr #[.float .f64 0] 53
        have h1 : ∀ u ∈ [Value.float .f64 0], u.oneCell' = true := by intro u hu; simp at hu; subst hu; rfl
        have hbase : ∀ o, w.heap.size ≤ (wr.alloc o).heap.size := fun o => by have := HX.out.size; simp; omega
        have hlim : k + 1 ≤ 1099511627776 := by omega
        go_wp2_with (at_builtin; refine wpList_append_sl _ rfl _ _ 32 rfl w.heap.size 53 i0 (.float .f64 0) 1 8 Try.underlying32 hi0 hz0 hz1 hz2 rfl (by omega) _ k _ rfl (HW.out _) (some ⟨wr.heap.size, 0, none⟩) 1 1 [.float .f64 0] rfl HR.out h1 hlim (by omega) (hbase _) ?_; intro v' w5 hown hbel)
        refine ⟨⟨k + 1, by omega, by go_num, by rw [← HP.out]; exact hown, ?_⟩, by simp [intOf]; omega⟩
        exact (HX.out.alloc _).trans' hbel
      · have HW : Hid (∀ o, (wr.alloc o).ownsRow w.heap.size 53 1 u5 k (pre (fun k => .float .f64 (bitW (b.getD k false))) k)) := fun o => own_ext HO.out ((Ext.refl _).alloc _)
        have HR : Hid (Sl (wr.alloc (.cells #[.float .f64 4607182418800017408] 53)) 1 (some ⟨wr.heap.size, 0, none⟩) 1 [.float .f64 4607182418800017408]) := Sl.built wr #[.float .f64 4607182418800017408] 53
        have h1 : ∀ u ∈ [Value.float .f64 4607182418800017408], u.oneCell' = true := by intro u hu; simp at hu; subst hu; rfl
        have hbase : ∀ o, w.heap.size ≤ (wr.alloc o).heap.size := fun o => by have := HX.out.size; simp; omega
        have hlim : k + 1 ≤ 1099511627776 := by omega
        go_wp2_with (at_builtin; refine wpList_append_sl _ rfl _ _ 32 rfl w.heap.size 53 i0 (.float .f64 0) 1 8 Try.underlying32 hi0 hz0 hz1 hz2 rfl (by omega) _ k _ rfl (HW.out _) (some ⟨wr.heap.size, 0, none⟩) 1 1 [.float .f64 4607182418800017408] rfl HR.out h1 hlim (by omega) (hbase _) ?_; intro v' w5 hown hbel)
        refine ⟨⟨k + 1, by omega, by go_num, by rw [← HP.out]; exact hown, ?_⟩, by simp [intOf]; omega⟩
        exact (HX.out.alloc _).trans' hbel
    · have hkn : k = n := by omega
      subst hkn
      obtain ⟨B3, cb3, rfl, -, -⟩ := own_form HO.out
      have HX1 : Hid (Sl wr 1 B3 k (f64s (VD.bits b).nums)) := Lib.hid (by rw [bits_row b k HN.out]; exact Sl.own HO.out)
      have HE := Lib.hid HX.out
      obtain ⟨w1, hw1⟩ : ∃ w1, w1 = wr := ⟨_, rfl⟩
      subst hw1
      clear HO HX
      go_wp2_with fail
      go_loopw [6, 9] (fun o i wr => ∃ j : Nat, j ≤ m ∧ i = .int .i64 j ∧ wr.ownsRow w1.heap.size 53 1 o j (pre (fun k => .float .f64 (fi (s.getD k 0))) j) ∧ Ext w1 wr) (fun _ i _ => m - (intOf i).toNat)
      case atStart => exact ⟨0, Nat.zero_le _, rfl, ⟨rfl, Or.inl ⟨rfl, rfl⟩⟩, Ext.refl w1⟩
      case round =>
        obtain ⟨j, hj, rfl, hown, hx⟩ := hrel
        have HX := Lib.hid hx
        have HO := Lib.hid hown
        clear hx hown
        by_cases hlt : j < m
        · obtain ⟨g, u, rfl, hab, hu, hcell⟩ := HS'.out.at1 hlt
          rw [i8s_get (by rw [← HM.out]; exact hlt)] at hu
          cases hu
          have L0 : wr.cell? (g.add j) = some (.int .i8 (s.getD j 0)) := (Below.cell (HE.out.trans HX.out) (by rw [addr_block]; exact hab)).trans hcell
          have HP : Hid (pre (fun k => .float .f64 (fi (s.getD k 0))) j ++ [(.float .f64 (fi (s.getD j 0)))] = pre (fun k => .float .f64 (fi (s.getD k 0))) (j + 1)) := pre_step _ j
          clear hcell
          generalize s.getD j 0 = x at *
          have HW : Hid (∀ o, (wr.alloc o).ownsRow w1.heap.size 53 1 u6 j (pre (fun k => .float .f64 (fi (s.getD k 0))) j)) := fun o => own_ext HO.out ((Ext.refl _).alloc _)
          have HR : Hid (Sl (wr.alloc (.cells #[.float .f64 (fi x)] 53)) 1 (some ⟨wr.heap.size, 0, none⟩) 1 [.float .f64 (fi x)]) := Sl.built wr #[.float .f64 (fi x)] 53
          have h1 : ∀ u ∈ [Value.float .f64 (fi x)], u.oneCell' = true := by intro u hu; simp at hu; subst hu; rfl
          have hbase : ∀ o, w1.heap.size ≤ (wr.alloc o).heap.size := fun o => by have := HX.out.size; simp; omega
          have hlim : j + 1 ≤ 1099511627776 := by omega
          go_wp2_with (at_builtin; refine wpList_append_sl _ rfl _ _ 32 rfl w1.heap.size 53 i0 (.float .f64 0) 1 8 Try.underlying32 hi0 hz0 hz1 hz2 rfl (by omega) _ j _ rfl (HW.out _) (some ⟨wr.heap.size, 0, none⟩) 1 1 [.float .f64 (fi x)] rfl HR.out h1 hlim (by omega) (hbase _) ?_; intro v' w5 hown hbel)
          refine ⟨⟨j + 1, by omega, by go_num, by rw [← HP.out]; exact hown, ?_⟩, by simp [intOf]; omega⟩
          exact (HX.out.alloc _).trans' hbel
        · have hjm : j = m := by omega
          subst hjm
          obtain ⟨B4, cb4, rfl, -, -⟩ := own_form HO.out
          have HY1 : Hid (Sl wr 1 B4 j (f64s (VD.smalls s).nums)) := Lib.hid (by rw [smalls_row s j HM.out]; exact Sl.own HO.out)
          replace HX1 := Lib.hid (HX1.out.ext HX.out)
          replace HE := Lib.hid (HE.out.trans HX.out)
          clear HO HX
          go_wp2_with fail
          refine (cp _ (HS.out.ext HE.out)).mono ?_
          rintro e w2 ⟨v, rfl, hv, hx⟩
          have hB := hv.is
          obtain ⟨hbl, PA, pc, rfl, hps⟩ := hB
          have HB : Hid (IsB w2 (.agg #[.slice PA (wc b.length) pc, .int .i64 (b.length : Int)]) b) := Lib.hid hv.is
          replace HX1 := Lib.hid (HX1.out.ext hx)
          replace HY1 := Lib.hid (HY1.out.ext hx)
          replace HE := Lib.hid (HE.out.trans hx)
          clear hv hx hps hbl cp
          go_wp2_with fail
          refine (vbits_any _ b _ HB.out).mono ?_
          rintro e w3 ⟨v, rfl, hv, hx⟩
          obtain ⟨pa1, pn1, pk1, pbn, pa3, pn3, pk3, pa4, pn4, pk4, pa5, pn5, pk5, pa6, pn6, pk6, pa7, pn7, pk7, rfl⟩ := hv.shape
          have HV : Hid (IsVec w3 (.agg #[.int .i64 1, .slice pa1 pn1 pk1, .int .i64 pbn, .slice pa3 pn3 pk3, .slice pa4 pn4 pk4, .slice pa5 pn5 pk5, .slice pa6 pn6 pk6, .slice pa7 pn7 pk7]) (VD.bits b)) := Lib.hid hv
          replace HX1 := Lib.hid (HX1.out.ext hx)
          replace HY1 := Lib.hid (HY1.out.ext hx)
          replace HE := Lib.hid (HE.out.trans hx)
          clear hv hx
          rw [show (((VD.bits b).kind : Nat) : Int) = 1 from rfl]
          go_wp2_with fail
          refine (cm _ (HS'.out.ext HE.out)).mono ?_
          rintro e w4 ⟨v, rfl, hv, hx⟩
          obtain ⟨qa1, qn1, qk1, qbn, qa3, qn3, qk3, qa4, qn4, qk4, qa5, qn5, qk5, qa6, qn6, qk6, qa7, qn7, qk7, rfl⟩ := hv.shape
          have HU : Hid (IsVec w4 (.agg #[.int .i64 2, .slice qa1 qn1 qk1, .int .i64 qbn, .slice qa3 qn3 qk3, .slice qa4 qn4 qk4, .slice qa5 qn5 qk5, .slice qa6 qn6 qk6, .slice qa7 qn7 qk7]) (VD.smalls s)) := Lib.hid hv
          replace HX1 := Lib.hid (HX1.out.ext hx)
          replace HY1 := Lib.hid (HY1.out.ext hx)
          replace HE := Lib.hid (HE.out.trans hx)
          replace HV := Lib.hid (HV.out.ext hx)
          clear hv hx cm HB
          rw [show (((VD.smalls s).kind : Nat) : Int) = 2 from rfl]
          go_wp2_with fail
          have HA : Hid (Ext w4 ((w4.alloc (.cells #[.int .i64 1, .slice pa1 pn1 pk1, .int .i64 pbn, .slice pa3 pn3 pk3, .slice pa4 pn4 pk4, .slice pa5 pn5 pk5, .slice pa6 pn6 pk6, .slice pa7 pn7 pk7] 34)).alloc (.cells #[.int .i64 2, .slice qa1 qn1 qk1, .int .i64 qbn, .slice qa3 qn3 qk3, .slice qa4 qn4 qk4, .slice qa5 qn5 qk5, .slice qa6 qn6 qk6, .slice qa7 qn7 qk7] 34))) := Lib.hid (((Ext.refl w4).alloc _).alloc _)
          have HD1 : Hid (St ((w4.alloc (.cells #[.int .i64 1, .slice pa1 pn1 pk1, .int .i64 pbn, .slice pa3 pn3 pk3, .slice pa4 pn4 pk4, .slice pa5 pn5 pk5, .slice pa6 pn6 pk6, .slice pa7 pn7 pk7] 34)).alloc (.cells #[.int .i64 2, .slice qa1 qn1 qk1, .int .i64 qbn, .slice qa3 qn3 qk3, .slice qa4 qn4 qk4, .slice qa5 qn5 qk5, .slice qa6 qn6 qk6, .slice qa7 qn7 qk7] 34)) w4.heap.size (.int .i64 1) (.slice pa1 pn1 pk1) (.int .i64 pbn) (.slice pa3 pn3 pk3) (.slice pa4 pn4 pk4) (.slice pa5 pn5 pk5) (.slice pa6 pn6 pk6) (.slice pa7 pn7 pk7)) := Lib.hid ((St.new w4 _ _ _ _ _ _ _ _ _).ext ((Ext.refl _).alloc _))
          have HD2 : Hid (St ((w4.alloc (.cells #[.int .i64 1, .slice pa1 pn1 pk1, .int .i64 pbn, .slice pa3 pn3 pk3, .slice pa4 pn4 pk4, .slice pa5 pn5 pk5, .slice pa6 pn6 pk6, .slice pa7 pn7 pk7] 34)).alloc (.cells #[.int .i64 2, .slice qa1 qn1 qk1, .int .i64 qbn, .slice qa3 qn3 qk3, .slice qa4 qn4 qk4, .slice qa5 qn5 qk5, .slice qa6 qn6 qk6, .slice qa7 qn7 qk7] 34)) (w4.heap.size + 1) (.int .i64 2) (.slice qa1 qn1 qk1) (.int .i64 qbn) (.slice qa3 qn3 qk3) (.slice qa4 qn4 qk4) (.slice qa5 qn5 qk5) (.slice qa6 qn6 qk6) (.slice qa7 qn7 qk7)) := Lib.hid (by
            have h := St.new (w4.alloc (.cells #[.int .i64 1, .slice pa1 pn1 pk1, .int .i64 pbn, .slice pa3 pn3 pk3, .slice pa4 pn4 pk4, .slice pa5 pn5 pk5, .slice pa6 pn6 pk6, .slice pa7 pn7 pk7] 34)) (.int .i64 2) (.slice qa1 qn1 qk1) (.int .i64 qbn) (.slice qa3 qn3 qk3) (.slice qa4 qn4 qk4) (.slice qa5 qn5 qk5) (.slice qa6 qn6 qk6) (.slice qa7 qn7 qk7) 34
            rwa [show (w4.alloc (.cells #[.int .i64 1, .slice pa1 pn1 pk1, .int .i64 pbn, .slice pa3 pn3 pk3, .slice pa4 pn4 pk4, .slice pa5 pn5 pk5, .slice pa6 pn6 pk6, .slice pa7 pn7 pk7] 34)).heap.size = w4.heap.size + 1 by simp] at h)
          replace HV := Lib.hid (HV.out.ext HA.out)
          replace HU := Lib.hid (HU.out.ext HA.out)
          replace HE := Lib.hid (HE.out.trans HA.out)
          replace HX1 := Lib.hid (HX1.out.ext HA.out)
          replace HY1 := Lib.hid (HY1.out.ext HA.out)
          refine (vpacked_any _ b _ HV.out).mono ?_
          rintro e w5 ⟨v, rfl, hv, hx⟩
          have HB := Lib.hid hv
          obtain ⟨hbl, RA, rc, rfl, hps⟩ := hv
          have hz5 : w4.heap.size + 1 + 1 ≤ w5.heap.size := by have := hx.size; simpa using this
          have hy := hx.alloc (.cells #[.slice RA (wc b.length) rc, .int .i64 (b.length : Int)] 29)
          replace HV := Lib.hid (HV.out.ext hy)
          replace HU := Lib.hid (HU.out.ext hy)
          replace HE := Lib.hid (HE.out.trans hy)
          replace HX1 := Lib.hid (HX1.out.ext hy)
          replace HY1 := Lib.hid (HY1.out.ext hy)
          replace HD1 := Lib.hid (HD1.out.ext hy)
          replace HD2 := Lib.hid (HD2.out.ext hy)
          replace HB := Lib.hid (HB.out.ext ((Ext.refl w5).alloc (.cells #[.slice RA (wc b.length) rc, .int .i64 (b.length : Int)] 29)))
          have HP0 : Hid ((w5.alloc (.cells #[.slice RA (wc b.length) rc, .int .i64 (b.length : Int)] 29)).cell? ⟨w5.heap.size, 0, none⟩ = some (.slice RA (wc b.length) rc)) := Lib.hid (by simp [World.cell?_alloc_new])
          have HP1 : Hid ((w5.alloc (.cells #[.slice RA (wc b.length) rc, .int .i64 (b.length : Int)] 29)).cell? ⟨w5.heap.size, 1, none⟩ = some (.int .i64 (b.length : Int))) := Lib.hid (by simp [World.cell?_alloc_new])
          obtain ⟨D0, D1, D2, D3, D4, D5, D6, D7⟩ := HD2.out
          obtain ⟨hc5, hf5⟩ := hx.cells
          clear hx hy hps hbl
          go_wp2_with fail
          refine (vpacked_none _ (VD.smalls s) _ HU.out (show (2 : Nat) ≠ 1 by omega)).mono ?_
          rintro e w6 ⟨rfl, hx⟩
          have hy := hx.alloc (.cells #[.slice none 0 0, .int .i64 0] 29)
          have HQ0 : Hid ((w6.alloc (.cells #[.slice none 0 0, .int .i64 0] 29)).cell? ⟨w6.heap.size, 0, none⟩ = some (.slice none 0 0)) := Lib.hid (by simp [World.cell?_alloc_new])
          have HQ1 : Hid ((w6.alloc (.cells #[.slice none 0 0, .int .i64 0] 29)).cell? ⟨w6.heap.size, 1, none⟩ = some (.int .i64 0)) := Lib.hid (by simp [World.cell?_alloc_new])
          replace HV : Hid (IsVec (w6.alloc (.cells #[.slice none 0 0, .int .i64 0] 29)) (.agg #[.int .i64 1, .slice pa1 pn1 pk1, .int .i64 pbn, .slice pa3 pn3 pk3, .slice pa4 pn4 pk4, .slice pa5 pn5 pk5, .slice pa6 pn6 pk6, .slice pa7 pn7 pk7]) (VD.bits b)) := Lib.hid (HV.out.ext hy)
          replace HU : Hid (IsVec (w6.alloc (.cells #[.slice none 0 0, .int .i64 0] 29)) (.agg #[.int .i64 2, .slice qa1 qn1 qk1, .int .i64 qbn, .slice qa3 qn3 qk3, .slice qa4 qn4 qk4, .slice qa5 qn5 qk5, .slice qa6 qn6 qk6, .slice qa7 qn7 qk7]) (VD.smalls s)) := Lib.hid (HU.out.ext hy)
          replace HE := Lib.hid (HE.out.trans hy)
          replace HX1 := Lib.hid (HX1.out.ext hy)
          replace HY1 := Lib.hid (HY1.out.ext hy)
          replace HD1 := Lib.hid (HD1.out.ext hy)
          replace HD2 := Lib.hid (HD2.out.ext hy)
          replace HB := Lib.hid (HB.out.ext hy)
          replace HP0 := Lib.hid (cell_ext hy HP0.out)
          replace HP1 := Lib.hid (cell_ext hy HP1.out)
          clear D0 D1 D2 D3 D4 D5 D6 D7 hx hy hc5 hf5
          have HX := Lib.hid (Ext.refl (w6.alloc (.cells #[.slice none 0 0, .int .i64 0] 29)))
          obtain ⟨C0, C1, C2, C3, C4, C5, C6, C7⟩ := HD1.out
          obtain ⟨D0, D1, D2, D3, D4, D5, D6, D7⟩ := HD2.out
          have P0 := HP0.out
          have P1 := HP1.out
          have Q0 := HQ0.out
          have Q1 := HQ1.out
          have cy := fun w (hv : IsVec w (.agg #[.int .i64 1, .slice pa1 pn1 pk1, .int .i64 pbn, .slice pa3 pn3 pk3, .slice pa4 pn4 pk4, .slice pa5 pn5 pk5, .slice pa6 pn6 pk6, .slice pa7 pn7 pk7]) (VD.bits b)) hs => shows_yes _ (VD.bits b) B3 k cb3 w hv rfl rfl HN.out.symm hs
          rw [show (((VD.bits b).kind : Nat) : Int) = 1 from rfl] at cy
          have cz := fun w (hv : IsVec w (.agg #[.int .i64 2, .slice qa1 qn1 qk1, .int .i64 qbn, .slice qa3 qn3 qk3, .slice qa4 qn4 qk4, .slice qa5 qn5 qk5, .slice qa6 qn6 qk6, .slice qa7 qn7 qk7]) (VD.smalls s)) hs => shows_yes _ (VD.smalls s) B4 j cb4 w hv rfl rfl HM.out.symm hs
          rw [show (((VD.smalls s).kind : Nat) : Int) = 2 from rfl] at cz
          go_wp2_with fail
          refine (cy _ (HV.out.ext HX.out) (HX1.out.ext HX.out)).mono ?_
          rintro e w' ⟨rfl, hx⟩
          replace HX := Lib.hid (HX.out.trans hx)
          clear C0 C1 C2 C3 C4 C5 C6 C7 D0 D1 D2 D3 D4 D5 D6 D7 P0 P1 Q0 Q1 hx
          obtain ⟨C0, C1, C2, C3, C4, C5, C6, C7⟩ := HD1.out.ext HX.out
          obtain ⟨D0, D1, D2, D3, D4, D5, D6, D7⟩ := HD2.out.ext HX.out
          have P0 := cell_ext HX.out HP0.out
          have P1 := cell_ext HX.out HP1.out
          have Q0 := cell_ext HX.out HQ0.out
          have Q1 := cell_ext HX.out HQ1.out
          go_wp2_with fail
          refine (cz _ (HU.out.ext HX.out) (HY1.out.ext HX.out)).mono ?_
          rintro e w' ⟨rfl, hx⟩
          replace HX := Lib.hid (HX.out.trans hx)
          clear C0 C1 C2 C3 C4 C5 C6 C7 D0 D1 D2 D3 D4 D5 D6 D7 P0 P1 Q0 Q1 hx
          obtain ⟨C0, C1, C2, C3, C4, C5, C6, C7⟩ := HD1.out.ext HX.out
          obtain ⟨D0, D1, D2, D3, D4, D5, D6, D7⟩ := HD2.out.ext HX.out
          have P0 := cell_ext HX.out HP0.out
          have P1 := cell_ext HX.out HP1.out
          have Q0 := cell_ext HX.out HQ0.out
          have Q1 := cell_ext HX.out HQ1.out
          go_wp2_with fail
          refine (unpack_any _ b _ (HB.out.ext HX.out)).mono ?_
          rintro e w' ⟨v', rfl, hown, hx⟩
          obtain ⟨B7, cb7, rfl, -, -⟩ := own_form hown
          replace HX := Lib.hid (HX.out.trans hx)
          have HT : Hid (Sl w' 1 B7 b.length (bools b)) := Lib.hid (Sl.own hown)
          have HS2 := Lib.hid (HS.out.ext (HE.out.trans HX.out))
          clear C0 C1 C2 C3 C4 C5 C6 C7 D0 D1 D2 D3 D4 D5 D6 D7 P0 P1 Q0 Q1 hx hown
          obtain ⟨C0, C1, C2, C3, C4, C5, C6, C7⟩ := HD1.out.ext HX.out
          obtain ⟨D0, D1, D2, D3, D4, D5, D6, D7⟩ := HD2.out.ext HX.out
          have P0 := cell_ext HX.out HP0.out
          have P1 := cell_ext HX.out HP1.out
          have Q0 := cell_ext HX.out HQ0.out
          have Q1 := cell_ext HX.out HQ1.out
          rw [← HN.out] at HT ⊢
          go_wp2_with fail
          refine (bools_yes _ _ b k _ _ HN.out _ (by omega) HT.out HS2.out).mono ?_
          rintro e w' ⟨rfl, hx⟩
          replace HX := Lib.hid (HX.out.trans hx)
          clear C0 C1 C2 C3 C4 C5 C6 C7 D0 D1 D2 D3 D4 D5 D6 D7 P0 P1 Q0 Q1 hx
          obtain ⟨C0, C1, C2, C3, C4, C5, C6, C7⟩ := HD1.out.ext HX.out
          obtain ⟨D0, D1, D2, D3, D4, D5, D6, D7⟩ := HD2.out.ext HX.out
          have P0 := cell_ext HX.out HP0.out
          have P1 := cell_ext HX.out HP1.out
          have Q0 := cell_ext HX.out HQ0.out
          have Q1 := cell_ext HX.out HQ1.out
          clear HT HS2
          go_wp2_with fail
          refine (blen_any _ [] _ (IsB.nil _)).mono ?_
          rintro e w' ⟨rfl, hx⟩
          replace HX := Lib.hid (HX.out.trans hx)
          clear C0 C1 C2 C3 C4 C5 C6 C7 D0 D1 D2 D3 D4 D5 D6 D7 P0 P1 Q0 Q1 hx
          obtain ⟨C0, C1, C2, C3, C4, C5, C6, C7⟩ := HD1.out.ext HX.out
          obtain ⟨D0, D1, D2, D3, D4, D5, D6, D7⟩ := HD2.out.ext HX.out
          have P0 := cell_ext HX.out HP0.out
          have P1 := cell_ext HX.out HP1.out
          have Q0 := cell_ext HX.out HQ0.out
          have Q1 := cell_ext HX.out HQ1.out
          go_wp2_with fail
          refine (awake_any _).mono ?_
          rintro e w' ⟨rfl, hx⟩
          replace HX := Lib.hid (HX.out.trans hx)
          clear C0 C1 C2 C3 C4 C5 C6 C7 D0 D1 D2 D3 D4 D5 D6 D7 P0 P1 Q0 Q1 hx
          obtain ⟨C0, C1, C2, C3, C4, C5, C6, C7⟩ := HD1.out.ext HX.out
          obtain ⟨D0, D1, D2, D3, D4, D5, D6, D7⟩ := HD2.out.ext HX.out
          have P0 := cell_ext HX.out HP0.out
          have P1 := cell_ext HX.out HP1.out
          have Q0 := cell_ext HX.out HQ0.out
          have Q1 := cell_ext HX.out HQ1.out
          have HEN : Hid (Ext w w') := Lib.hid (HE.out.trans HX.out)
          go_wp2
          refine bodyPost_ret (v := .bool true) (by simp [results, Try.results7, go_sem]) rfl ⟨rfl, HEN.out⟩
end Go.Proofs.Ytmjikdkdccnbaaa
