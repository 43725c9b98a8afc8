/- VecNumbers, for every input. -/
import Derived.Test.YtmjikdkdccnbaaaVp
namespace Go.Proofs.Ytmjikdkdccnbaaa
open Go.ChangeShapes Go.WideShapes Go.RowKit Bv Fl

attribute [local go_sem] run_store_f64
theorem ints_row (l : List Int) (n : Nat) (hn : n = l.length) (d : VD) (hd : d = VD.ints l) : f64s d.nums = pre (fun k => .float .f64 (fi (l.getD k 0))) n := by
  subst hd hn
  simp only [f64s, VD.nums, pre, List.map_map]
  rfl
theorem floats_row (l : List Nat) (d : VD) (hd : d = VD.floats l) : f64s d.nums = f64s l := by
  subst hd
  congr 1
  apply List.ext_getElem
  · simp [VD.nums, VD.len, VD.floats]
  · intro i h1 h2
    simp [VD.nums, VD.num, VD.floats, List.getD, h2]

set_option maxHeartbeats 4000000
set_option maxRecDepth 100000 in
theorem vecNumbers_tt (w : World) (A : Option Addr) (l : List Int) (c : Nat) (hs : Sl w 1 A l.length (i64s l)) (A' : Option Addr) (r : List Nat) (c' : Nat) (hs' : Sl w 1 A' r.length (f64s r)) (hw : ∀ x ∈ r, x < 18446744073709551616) (h5 : l.length ≤ 500) (h6 : r.length ≤ 500) (hb : allG l = true) (hb' : allF r = true) :
    Calls Try.prog 6 #[.slice A l.length c, .slice A' r.length c'] w fun e w' => e = .returned (.bool true) ∧ Ext w w' := by
  obtain ⟨n, hn⟩ : ∃ n, n = l.length := ⟨_, rfl⟩
  obtain ⟨m, hm⟩ : ∃ m, m = r.length := ⟨_, rfl⟩
  have ci := vints_any A l n hn c w (by omega) (by rw [hn]; exact hs)
  have ct := fun w hs => rtidyL_any A' r m hm c' w (by omega) hs
  have cf := fun w hs => vfloats_any A' r m hm hw c' w (by omega) hs
  have cs := fun w hs => rsmallL_any A l n hn c w (by omega) hs
  rw [hb] at ci
  rw [hb'] at ct cf
  simp only [hb] at cs
  rw [← hn] at hs h5 ⊢
  rw [← hm] at hs' h6 ⊢
  have HS := Lib.hid hs
  have HS' := Lib.hid hs'
  have HN := Lib.hid hn
  have HM := Lib.hid hm
  obtain ⟨d, hd⟩ : ∃ d, d = VD.ints l := ⟨_, rfl⟩
  obtain ⟨f, hf⟩ : ∃ f, f = VD.floats (dnL r) := ⟨_, rfl⟩
  have hk1 : ((d.kind : Nat) : Int) = 3 := by rw [hd]; rfl
  have hk2 : ((f.kind : Nat) : Int) = 4 := by rw [hf]; rfl
  replace ci : Calls Try.prog 21 #[.slice A n c] w fun e w' => ∃ v, e = .returned (.tuple #[v, .bool true]) ∧ IsVec w' v d ∧ Ext w w' := by rw [hd]; exact ci
  replace cf : ∀ w, Sl w 1 A' m (f64s r) → Calls Try.prog 26 #[.slice A' m c'] w fun e w' => ∃ v, e = .returned (.tuple #[v, .bool true]) ∧ IsVec w' v f ∧ Ext w w' := fun w hs => by rw [hf]; exact cf w hs
  have HD := Lib.hid hd
  have HF := Lib.hid hf
  obtain ⟨i0, hi0, hz0, hz1, hz2⟩ := info_parts infoF
  clear hs hs' hn hm hd hf hw hb hb'
  go_enter Try.func6, Try.ntmps6
  go_wp2_with fail
  refine ci.mono ?_
  rintro e w1 ⟨v, rfl, hv, hx⟩
  obtain ⟨pa1, pn1, pk1, pbn, pa3, pn3, pk3, pa4, pn4, pk4, pa5, pn5, pk5, pa6, pn6, pk6, pa7, pn7, pk7, rfl⟩ := hv.shape
  rw [hk1] at hv ⊢
  have HV := Lib.hid hv
  have HE := Lib.hid hx
  clear hv hx ci
  go_wp2_with fail
  refine (cf _ (HS'.out.ext (HE.out.alloc _))).mono ?_
  rintro e w2 ⟨v, rfl, hv, hx⟩
  obtain ⟨qa1, qn1, qk1, qbn, qa3, qn3, qk3, qa4, qn4, qk4, qa5, qn5, qk5, qa6, qn6, qk6, qa7, qn7, qk7, rfl⟩ := hv.shape
  rw [hk2] at hv ⊢
  have HD1 := Lib.hid ((St.new w1 _ _ _ _ _ _ _ _ _).ext hx)
  replace HV := Lib.hid (HV.out.ext (((Ext.refl w1).alloc _).trans hx))
  replace HE := Lib.hid ((HE.out.alloc _).trans hx)
  have HU := Lib.hid hv
  obtain ⟨C0, C1, C2, C3, C4, C5, C6, C7⟩ := HD1.out
  clear hv hx cf
  go_wp2_with fail
  refine (ct _ (HS'.out.ext (HE.out.alloc _))).mono ?_
  rintro e w3 ⟨v, rfl, hown, hx⟩
  have hz : w2.heap.size ≤ w3.heap.size := by have := hx.size; simp at this; omega
  replace HD1 := Lib.hid (HD1.out.ext (((Ext.refl w2).alloc _).trans hx))
  have HD2 := Lib.hid ((St.new w2 _ _ _ _ _ _ _ _ _).ext hx)
  replace HV : Hid (IsVec w3 (.agg #[.int .i64 3, .slice pa1 pn1 pk1, .int .i64 pbn, .slice pa3 pn3 pk3, .slice pa4 pn4 pk4, .slice pa5 pn5 pk5, .slice pa6 pn6 pk6, .slice pa7 pn7 pk7]) d) := Lib.hid (HV.out.ext (((Ext.refl w2).alloc _).trans hx))
  replace HU : Hid (IsVec w3 (.agg #[.int .i64 4, .slice qa1 qn1 qk1, .int .i64 qbn, .slice qa3 qn3 qk3, .slice qa4 qn4 qk4, .slice qa5 qn5 qk5, .slice qa6 qn6 qk6, .slice qa7 qn7 qk7]) f) := Lib.hid (HU.out.ext (((Ext.refl w2).alloc _).trans hx))
  replace HE : Hid (Ext w w3) := Lib.hid ((HE.out.alloc _).trans hx)
  obtain ⟨B2, cb2, rfl, -, -⟩ := own_form (hown rfl)
  have HT : Hid (Sl w3 1 B2 m (f64s (dnL r))) := Lib.hid (Sl.own (hown rfl))
  clear C0 C1 C2 C3 C4 C5 C6 C7 hx hown ct hz
  have HX := Lib.hid (Ext.refl w3)
  obtain ⟨C0, C1, C2, C3, C4, C5, C6, C7⟩ := HD1.out
  obtain ⟨D0, D1, D2, D3, D4, D5, D6, D7⟩ := HD2.out
  go_wp2_with fail
  refine (cs _ (HS.out.ext (HE.out.trans HX.out))).mono ?_
  rintro e w' ⟨rfl, rfl⟩
  go_wp2_with fail
  clear cs
  go_loopw [11, 12] (fun o i wr => ∃ k : Nat, k ≤ n ∧ i = .int .i64 k ∧ wr.ownsRow w3.heap.size 53 1 o k (pre (fun k => .float .f64 (fi (l.getD k 0))) k) ∧ Ext w3 wr) (fun _ i _ => n - (intOf i).toNat)
  case atStart => exact ⟨0, Nat.zero_le _, rfl, ⟨rfl, Or.inl ⟨rfl, rfl⟩⟩, HX.out⟩
  case round =>
    obtain ⟨k, hk, rfl, hown, hx⟩ := hrel
    clear C0 C1 C2 C3 C4 C5 C6 C7 D0 D1 D2 D3 D4 D5 D6 D7 HX
    have HX := Lib.hid hx
    have HO := Lib.hid hown
    clear hx hown
    by_cases hlt : k < n
    · obtain ⟨g, u, rfl, hab, hu, hcell⟩ := HS.out.at1 hlt
      rw [i64s_get (by rw [← HN.out]; exact hlt)] at hu
      cases hu
      have L0 : wr.cell? (g.add k) = some (.int .i64 (l.getD k 0)) := (Below.cell (HE.out.trans HX.out) (by rw [addr_block]; exact hab)).trans hcell
      have HP : Hid (pre (fun k => .float .f64 (fi (l.getD k 0))) k ++ [.float .f64 (fi (l.getD k 0))] = pre (fun k => .float .f64 (fi (l.getD k 0))) (k + 1)) := pre_step _ k
      clear hcell
      generalize l.getD k 0 = x at *
      have HW : Hid (∀ o, (wr.alloc o).ownsRow w3.heap.size 53 1 u11 k (pre (fun k => .float .f64 (fi (l.getD k 0))) k)) := fun o => own_ext HO.out ((Ext.refl _).alloc _)
      have HR : Hid (Sl (wr.alloc (.cells #[.float .f64 (fi x)] 53)) 1 (some ⟨wr.heap.size, 0, none⟩) 1 [.float .f64 (fi x)]) := Sl.built wr #[.float .f64 (fi x)] 53
      have h1 : ∀ u ∈ [Value.float .f64 (fi x)], u.oneCell' = true := by intro u hu; simp at hu; subst hu; rfl
      have hbase : ∀ o, w3.heap.size ≤ (wr.alloc o).heap.size := fun o => by have := HX.out.size; simp; omega
      have hlim : k + 1 ≤ 1099511627776 := by omega
      go_wp2_with (at_builtin; refine wpList_append_sl _ rfl _ _ 32 rfl w3.heap.size 53 i0 (.float .f64 0) 1 8 Try.underlying32 hi0 hz0 hz1 hz2 rfl (by omega) _ k _ rfl (HW.out _) (some ⟨wr.heap.size, 0, none⟩) 1 1 [.float .f64 (fi x)] rfl HR.out h1 hlim (by omega) (hbase _) ?_; intro v' w5 hown hbel)
      refine ⟨⟨k + 1, by omega, by go_num, by rw [← HP.out]; exact hown, ?_⟩, by simp [intOf]; omega⟩
      exact (HX.out.alloc _).trans' hbel
    · have hkn : k = n := by omega
      subst hkn
      obtain ⟨B3, cb3, rfl, -, -⟩ := own_form HO.out
      have HT1 : Hid (Sl wr 1 B3 k (f64s d.nums)) := Lib.hid (by rw [ints_row l k HN.out d HD.out]; exact Sl.own HO.out)
      obtain ⟨C0, C1, C2, C3, C4, C5, C6, C7⟩ := HD1.out.ext HX.out
      obtain ⟨D0, D1, D2, D3, D4, D5, D6, D7⟩ := HD2.out.ext HX.out
      clear HO
      have cy := fun w (hv : IsVec w (.agg #[.int .i64 3, .slice pa1 pn1 pk1, .int .i64 pbn, .slice pa3 pn3 pk3, .slice pa4 pn4 pk4, .slice pa5 pn5 pk5, .slice pa6 pn6 pk6, .slice pa7 pn7 pk7]) d) hs => shows_yes _ d B3 k cb3 w hv (by rw [HD.out]; rfl) (by rw [HD.out]; rfl) (by rw [HD.out]; exact HN.out.symm) hs
      rw [hk1] at cy
      go_wp2_with fail
      refine (cy _ (HV.out.ext HX.out) HT1.out).mono ?_
      rintro e w' ⟨rfl, hx⟩
      replace HX := Lib.hid (HX.out.trans hx)
      clear C0 C1 C2 C3 C4 C5 C6 C7 D0 D1 D2 D3 D4 D5 D6 D7 hx
      obtain ⟨C0, C1, C2, C3, C4, C5, C6, C7⟩ := HD1.out.ext HX.out
      obtain ⟨D0, D1, D2, D3, D4, D5, D6, D7⟩ := HD2.out.ext HX.out
      have cn := fun w (hv : IsVec w (.agg #[.int .i64 4, .slice qa1 qn1 qk1, .int .i64 qbn, .slice qa3 qn3 qk3, .slice qa4 qn4 qk4, .slice qa5 qn5 qk5, .slice qa6 qn6 qk6, .slice qa7 qn7 qk7]) f) hs => shows_not _ f B2 m cb2 w hv (by rw [HF.out]; rfl) (by rw [HF.out]; rfl) (by rw [HF.out]; exact (dnL_length r).trans HM.out.symm) hs
      rw [hk2] at cn
      go_wp2_with fail
      refine (cn _ (HU.out.ext HX.out) (by rw [floats_row _ f HF.out]; exact HT.out.ext HX.out)).mono ?_
      rintro e w' ⟨rfl, hx⟩
      replace HX := Lib.hid (HX.out.trans hx)
      clear C0 C1 C2 C3 C4 C5 C6 C7 D0 D1 D2 D3 D4 D5 D6 D7 hx
      obtain ⟨C0, C1, C2, C3, C4, C5, C6, C7⟩ := HD1.out.ext HX.out
      obtain ⟨D0, D1, D2, D3, D4, D5, D6, D7⟩ := HD2.out.ext HX.out
      go_wp2_with fail
      refine (awake_any _).mono ?_
      rintro e w' ⟨rfl, hx⟩
      replace HX := Lib.hid (HX.out.trans hx)
      clear C0 C1 C2 C3 C4 C5 C6 C7 D0 D1 D2 D3 D4 D5 D6 D7 hx
      obtain ⟨C0, C1, C2, C3, C4, C5, C6, C7⟩ := HD1.out.ext HX.out
      obtain ⟨D0, D1, D2, D3, D4, D5, D6, D7⟩ := HD2.out.ext HX.out
      have HEN : Hid (Ext w w') := Lib.hid (HE.out.trans HX.out)
      go_wp2
      refine bodyPost_ret (v := .bool true) (by simp [results, Try.results6, go_sem]) rfl ⟨rfl, HEN.out⟩
set_option maxHeartbeats 4000000
set_option maxRecDepth 100000 in
theorem vecNumbers_tf (w : World) (A : Option Addr) (l : List Int) (c : Nat) (hs : Sl w 1 A l.length (i64s l)) (A' : Option Addr) (r : List Nat) (c' : Nat) (hs' : Sl w 1 A' r.length (f64s r)) (hw : ∀ x ∈ r, x < 18446744073709551616) (h5 : l.length ≤ 500) (h6 : r.length ≤ 500) (hb : allG l = true) (hb' : allF r = false) :
    Calls Try.prog 6 #[.slice A l.length c, .slice A' r.length c'] w fun e w' => e = .returned (.bool true) ∧ Ext w w' := by
  obtain ⟨n, hn⟩ : ∃ n, n = l.length := ⟨_, rfl⟩
  obtain ⟨m, hm⟩ : ∃ m, m = r.length := ⟨_, rfl⟩
  have ci := vints_any A l n hn c w (by omega) (by rw [hn]; exact hs)
  have ct := fun w hs => rtidyL_any A' r m hm c' w (by omega) hs
  have cf := fun w hs => vfloats_any A' r m hm hw c' w (by omega) hs
  have cs := fun w hs => rsmallL_any A l n hn c w (by omega) hs
  rw [hb] at ci
  rw [hb'] at ct cf
  simp only [hb] at cs
  rw [← hn] at hs h5 ⊢
  rw [← hm] at hs' h6 ⊢
  have HS := Lib.hid hs
  have HS' := Lib.hid hs'
  have HN := Lib.hid hn
  have HM := Lib.hid hm
  obtain ⟨d, hd⟩ : ∃ d, d = VD.ints l := ⟨_, rfl⟩
  obtain ⟨f, hf⟩ : ∃ f, f = VD.none := ⟨_, rfl⟩
  have hk1 : ((d.kind : Nat) : Int) = 3 := by rw [hd]; rfl
  have hk2 : ((f.kind : Nat) : Int) = 0 := by rw [hf]; rfl
  replace ci : Calls Try.prog 21 #[.slice A n c] w fun e w' => ∃ v, e = .returned (.tuple #[v, .bool true]) ∧ IsVec w' v d ∧ Ext w w' := by rw [hd]; exact ci
  replace cf : ∀ w, Sl w 1 A' m (f64s r) → Calls Try.prog 26 #[.slice A' m c'] w fun e w' => ∃ v, e = .returned (.tuple #[v, .bool false]) ∧ IsVec w' v f ∧ Ext w w' := fun w hs => by rw [hf]; exact cf w hs
  have HD := Lib.hid hd
  have HF := Lib.hid hf
  obtain ⟨i0, hi0, hz0, hz1, hz2⟩ := info_parts infoF
  clear hs hs' hn hm hd hf hw hb hb'
  go_enter Try.func6, Try.ntmps6
  go_wp2_with fail
  refine ci.mono ?_
  rintro e w1 ⟨v, rfl, hv, hx⟩
  obtain ⟨pa1, pn1, pk1, pbn, pa3, pn3, pk3, pa4, pn4, pk4, pa5, pn5, pk5, pa6, pn6, pk6, pa7, pn7, pk7, rfl⟩ := hv.shape
  rw [hk1] at hv ⊢
  have HV := Lib.hid hv
  have HE := Lib.hid hx
  clear hv hx ci
  go_wp2_with fail
  refine (cf _ (HS'.out.ext (HE.out.alloc _))).mono ?_
  rintro e w2 ⟨v, rfl, hv, hx⟩
  obtain ⟨qa1, qn1, qk1, qbn, qa3, qn3, qk3, qa4, qn4, qk4, qa5, qn5, qk5, qa6, qn6, qk6, qa7, qn7, qk7, rfl⟩ := hv.shape
  rw [hk2] at hv ⊢
  have HD1 := Lib.hid ((St.new w1 _ _ _ _ _ _ _ _ _).ext hx)
  replace HV := Lib.hid (HV.out.ext (((Ext.refl w1).alloc _).trans hx))
  replace HE := Lib.hid ((HE.out.alloc _).trans hx)
  have HU := Lib.hid hv
  obtain ⟨C0, C1, C2, C3, C4, C5, C6, C7⟩ := HD1.out
  clear hv hx cf
  go_wp2_with fail
  refine (ct _ (HS'.out.ext (HE.out.alloc _))).mono ?_
  rintro e w3 ⟨v, rfl, hown, hx⟩
  have hz : w2.heap.size ≤ w3.heap.size := by have := hx.size; simp at this; omega
  replace HD1 := Lib.hid (HD1.out.ext (((Ext.refl w2).alloc _).trans hx))
  have HD2 := Lib.hid ((St.new w2 _ _ _ _ _ _ _ _ _).ext hx)
  replace HV : Hid (IsVec w3 (.agg #[.int .i64 3, .slice pa1 pn1 pk1, .int .i64 pbn, .slice pa3 pn3 pk3, .slice pa4 pn4 pk4, .slice pa5 pn5 pk5, .slice pa6 pn6 pk6, .slice pa7 pn7 pk7]) d) := Lib.hid (HV.out.ext (((Ext.refl w2).alloc _).trans hx))
  replace HU : Hid (IsVec w3 (.agg #[.int .i64 0, .slice qa1 qn1 qk1, .int .i64 qbn, .slice qa3 qn3 qk3, .slice qa4 qn4 qk4, .slice qa5 qn5 qk5, .slice qa6 qn6 qk6, .slice qa7 qn7 qk7]) f) := Lib.hid (HU.out.ext (((Ext.refl w2).alloc _).trans hx))
  replace HE : Hid (Ext w w3) := Lib.hid ((HE.out.alloc _).trans hx)
  clear C0 C1 C2 C3 C4 C5 C6 C7 hx hown ct hz
  have HX := Lib.hid (Ext.refl w3)
  obtain ⟨C0, C1, C2, C3, C4, C5, C6, C7⟩ := HD1.out
  obtain ⟨D0, D1, D2, D3, D4, D5, D6, D7⟩ := HD2.out
  go_wp2_with fail
  refine (cs _ (HS.out.ext (HE.out.trans HX.out))).mono ?_
  rintro e w' ⟨rfl, rfl⟩
  go_wp2_with fail
  refine (vkind_any _ f _ (HU.out.ext HX.out)).mono ?_
  rintro e w' ⟨rfl, hx⟩
  replace HX := Lib.hid (HX.out.trans hx)
  clear C0 C1 C2 C3 C4 C5 C6 C7 D0 D1 D2 D3 D4 D5 D6 D7 hx
  obtain ⟨C0, C1, C2, C3, C4, C5, C6, C7⟩ := HD1.out.ext HX.out
  obtain ⟨D0, D1, D2, D3, D4, D5, D6, D7⟩ := HD2.out.ext HX.out
  rw [hk2]
  go_wp2_with fail
  clear cs
  go_loopw [11, 12] (fun o i wr => ∃ k : Nat, k ≤ n ∧ i = .int .i64 k ∧ wr.ownsRow w3.heap.size 53 1 o k (pre (fun k => .float .f64 (fi (l.getD k 0))) k) ∧ Ext w3 wr) (fun _ i _ => n - (intOf i).toNat)
  case atStart => exact ⟨0, Nat.zero_le _, rfl, ⟨rfl, Or.inl ⟨rfl, rfl⟩⟩, HX.out⟩
  case round =>
    obtain ⟨k, hk, rfl, hown, hx⟩ := hrel
    clear C0 C1 C2 C3 C4 C5 C6 C7 D0 D1 D2 D3 D4 D5 D6 D7 HX
    have HX := Lib.hid hx
    have HO := Lib.hid hown
    clear hx hown
    by_cases hlt : k < n
    · obtain ⟨g, u, rfl, hab, hu, hcell⟩ := HS.out.at1 hlt
      rw [i64s_get (by rw [← HN.out]; exact hlt)] at hu
      cases hu
      have L0 : wr.cell? (g.add k) = some (.int .i64 (l.getD k 0)) := (Below.cell (HE.out.trans HX.out) (by rw [addr_block]; exact hab)).trans hcell
      have HP : Hid (pre (fun k => .float .f64 (fi (l.getD k 0))) k ++ [.float .f64 (fi (l.getD k 0))] = pre (fun k => .float .f64 (fi (l.getD k 0))) (k + 1)) := pre_step _ k
      clear hcell
      generalize l.getD k 0 = x at *
      have HW : Hid (∀ o, (wr.alloc o).ownsRow w3.heap.size 53 1 u11 k (pre (fun k => .float .f64 (fi (l.getD k 0))) k)) := fun o => own_ext HO.out ((Ext.refl _).alloc _)
      have HR : Hid (Sl (wr.alloc (.cells #[.float .f64 (fi x)] 53)) 1 (some ⟨wr.heap.size, 0, none⟩) 1 [.float .f64 (fi x)]) := Sl.built wr #[.float .f64 (fi x)] 53
      have h1 : ∀ u ∈ [Value.float .f64 (fi x)], u.oneCell' = true := by intro u hu; simp at hu; subst hu; rfl
      have hbase : ∀ o, w3.heap.size ≤ (wr.alloc o).heap.size := fun o => by have := HX.out.size; simp; omega
      have hlim : k + 1 ≤ 1099511627776 := by omega
      go_wp2_with (at_builtin; refine wpList_append_sl _ rfl _ _ 32 rfl w3.heap.size 53 i0 (.float .f64 0) 1 8 Try.underlying32 hi0 hz0 hz1 hz2 rfl (by omega) _ k _ rfl (HW.out _) (some ⟨wr.heap.size, 0, none⟩) 1 1 [.float .f64 (fi x)] rfl HR.out h1 hlim (by omega) (hbase _) ?_; intro v' w5 hown hbel)
      refine ⟨⟨k + 1, by omega, by go_num, by rw [← HP.out]; exact hown, ?_⟩, by simp [intOf]; omega⟩
      exact (HX.out.alloc _).trans' hbel
    · have hkn : k = n := by omega
      subst hkn
      obtain ⟨B3, cb3, rfl, -, -⟩ := own_form HO.out
      have HT1 : Hid (Sl wr 1 B3 k (f64s d.nums)) := Lib.hid (by rw [ints_row l k HN.out d HD.out]; exact Sl.own HO.out)
      obtain ⟨C0, C1, C2, C3, C4, C5, C6, C7⟩ := HD1.out.ext HX.out
      obtain ⟨D0, D1, D2, D3, D4, D5, D6, D7⟩ := HD2.out.ext HX.out
      clear HO
      have cy := fun w (hv : IsVec w (.agg #[.int .i64 3, .slice pa1 pn1 pk1, .int .i64 pbn, .slice pa3 pn3 pk3, .slice pa4 pn4 pk4, .slice pa5 pn5 pk5, .slice pa6 pn6 pk6, .slice pa7 pn7 pk7]) d) hs => shows_yes _ d B3 k cb3 w hv (by rw [HD.out]; rfl) (by rw [HD.out]; rfl) (by rw [HD.out]; exact HN.out.symm) hs
      rw [hk1] at cy
      go_wp2_with fail
      refine (cy _ (HV.out.ext HX.out) HT1.out).mono ?_
      rintro e w' ⟨rfl, hx⟩
      replace HX := Lib.hid (HX.out.trans hx)
      clear C0 C1 C2 C3 C4 C5 C6 C7 D0 D1 D2 D3 D4 D5 D6 D7 hx
      obtain ⟨C0, C1, C2, C3, C4, C5, C6, C7⟩ := HD1.out.ext HX.out
      obtain ⟨D0, D1, D2, D3, D4, D5, D6, D7⟩ := HD2.out.ext HX.out
      go_wp2_with fail
      refine (awake_any _).mono ?_
      rintro e w' ⟨rfl, hx⟩
      replace HX := Lib.hid (HX.out.trans hx)
      clear C0 C1 C2 C3 C4 C5 C6 C7 D0 D1 D2 D3 D4 D5 D6 D7 hx
      obtain ⟨C0, C1, C2, C3, C4, C5, C6, C7⟩ := HD1.out.ext HX.out
      obtain ⟨D0, D1, D2, D3, D4, D5, D6, D7⟩ := HD2.out.ext HX.out
      have HEN : Hid (Ext w w') := Lib.hid (HE.out.trans HX.out)
      go_wp2
      refine bodyPost_ret (v := .bool true) (by simp [results, Try.results6, go_sem]) rfl ⟨rfl, HEN.out⟩
set_option maxHeartbeats 4000000
set_option maxRecDepth 100000 in
theorem vecNumbers_ft (w : World) (A : Option Addr) (l : List Int) (c : Nat) (hs : Sl w 1 A l.length (i64s l)) (A' : Option Addr) (r : List Nat) (c' : Nat) (hs' : Sl w 1 A' r.length (f64s r)) (hw : ∀ x ∈ r, x < 18446744073709551616) (h5 : l.length ≤ 500) (h6 : r.length ≤ 500) (hb : allG l = false) (hb' : allF r = true) :
    Calls Try.prog 6 #[.slice A l.length c, .slice A' r.length c'] w fun e w' => e = .returned (.bool true) ∧ Ext w w' := by
  obtain ⟨n, hn⟩ : ∃ n, n = l.length := ⟨_, rfl⟩
  obtain ⟨m, hm⟩ : ∃ m, m = r.length := ⟨_, rfl⟩
  have ci := vints_any A l n hn c w (by omega) (by rw [hn]; exact hs)
  have ct := fun w hs => rtidyL_any A' r m hm c' w (by omega) hs
  have cf := fun w hs => vfloats_any A' r m hm hw c' w (by omega) hs
  have cs := fun w hs => rsmallL_any A l n hn c w (by omega) hs
  rw [hb] at ci
  rw [hb'] at ct cf
  simp only [hb] at cs
  rw [← hn] at hs h5 ⊢
  rw [← hm] at hs' h6 ⊢
  have HS := Lib.hid hs
  have HS' := Lib.hid hs'
  have HN := Lib.hid hn
  have HM := Lib.hid hm
  obtain ⟨d, hd⟩ : ∃ d, d = VD.none := ⟨_, rfl⟩
  obtain ⟨f, hf⟩ : ∃ f, f = VD.floats (dnL r) := ⟨_, rfl⟩
  have hk1 : ((d.kind : Nat) : Int) = 0 := by rw [hd]; rfl
  have hk2 : ((f.kind : Nat) : Int) = 4 := by rw [hf]; rfl
  replace ci : Calls Try.prog 21 #[.slice A n c] w fun e w' => ∃ v, e = .returned (.tuple #[v, .bool false]) ∧ IsVec w' v d ∧ Ext w w' := by rw [hd]; exact ci
  replace cf : ∀ w, Sl w 1 A' m (f64s r) → Calls Try.prog 26 #[.slice A' m c'] w fun e w' => ∃ v, e = .returned (.tuple #[v, .bool true]) ∧ IsVec w' v f ∧ Ext w w' := fun w hs => by rw [hf]; exact cf w hs
  have HD := Lib.hid hd
  have HF := Lib.hid hf
  obtain ⟨i0, hi0, hz0, hz1, hz2⟩ := info_parts infoF
  clear hs hs' hn hm hd hf hw hb hb'
  go_enter Try.func6, Try.ntmps6
  go_wp2_with fail
  refine ci.mono ?_
  rintro e w1 ⟨v, rfl, hv, hx⟩
  obtain ⟨pa1, pn1, pk1, pbn, pa3, pn3, pk3, pa4, pn4, pk4, pa5, pn5, pk5, pa6, pn6, pk6, pa7, pn7, pk7, rfl⟩ := hv.shape
  rw [hk1] at hv ⊢
  have HV := Lib.hid hv
  have HE := Lib.hid hx
  clear hv hx ci
  go_wp2_with fail
  refine (cf _ (HS'.out.ext (HE.out.alloc _))).mono ?_
  rintro e w2 ⟨v, rfl, hv, hx⟩
  obtain ⟨qa1, qn1, qk1, qbn, qa3, qn3, qk3, qa4, qn4, qk4, qa5, qn5, qk5, qa6, qn6, qk6, qa7, qn7, qk7, rfl⟩ := hv.shape
  rw [hk2] at hv ⊢
  have HD1 := Lib.hid ((St.new w1 _ _ _ _ _ _ _ _ _).ext hx)
  replace HV := Lib.hid (HV.out.ext (((Ext.refl w1).alloc _).trans hx))
  replace HE := Lib.hid ((HE.out.alloc _).trans hx)
  have HU := Lib.hid hv
  obtain ⟨C0, C1, C2, C3, C4, C5, C6, C7⟩ := HD1.out
  clear hv hx cf
  go_wp2_with fail
  refine (ct _ (HS'.out.ext (HE.out.alloc _))).mono ?_
  rintro e w3 ⟨v, rfl, hown, hx⟩
  have hz : w2.heap.size ≤ w3.heap.size := by have := hx.size; simp at this; omega
  replace HD1 := Lib.hid (HD1.out.ext (((Ext.refl w2).alloc _).trans hx))
  have HD2 := Lib.hid ((St.new w2 _ _ _ _ _ _ _ _ _).ext hx)
  replace HV : Hid (IsVec w3 (.agg #[.int .i64 0, .slice pa1 pn1 pk1, .int .i64 pbn, .slice pa3 pn3 pk3, .slice pa4 pn4 pk4, .slice pa5 pn5 pk5, .slice pa6 pn6 pk6, .slice pa7 pn7 pk7]) d) := Lib.hid (HV.out.ext (((Ext.refl w2).alloc _).trans hx))
  replace HU : Hid (IsVec w3 (.agg #[.int .i64 4, .slice qa1 qn1 qk1, .int .i64 qbn, .slice qa3 qn3 qk3, .slice qa4 qn4 qk4, .slice qa5 qn5 qk5, .slice qa6 qn6 qk6, .slice qa7 qn7 qk7]) f) := Lib.hid (HU.out.ext (((Ext.refl w2).alloc _).trans hx))
  replace HE : Hid (Ext w w3) := Lib.hid ((HE.out.alloc _).trans hx)
  obtain ⟨B2, cb2, rfl, -, -⟩ := own_form (hown rfl)
  have HT : Hid (Sl w3 1 B2 m (f64s (dnL r))) := Lib.hid (Sl.own (hown rfl))
  clear C0 C1 C2 C3 C4 C5 C6 C7 hx hown ct hz
  have HX := Lib.hid (Ext.refl w3)
  obtain ⟨C0, C1, C2, C3, C4, C5, C6, C7⟩ := HD1.out
  obtain ⟨D0, D1, D2, D3, D4, D5, D6, D7⟩ := HD2.out
  go_wp2_with fail
  refine (cs _ (HS.out.ext (HE.out.trans HX.out))).mono ?_
  rintro e w' ⟨rfl, rfl⟩
  go_wp2_with fail
  refine (vkind_any _ d _ (HV.out.ext HX.out)).mono ?_
  rintro e w' ⟨rfl, hx⟩
  replace HX := Lib.hid (HX.out.trans hx)
  clear C0 C1 C2 C3 C4 C5 C6 C7 D0 D1 D2 D3 D4 D5 D6 D7 hx
  obtain ⟨C0, C1, C2, C3, C4, C5, C6, C7⟩ := HD1.out.ext HX.out
  obtain ⟨D0, D1, D2, D3, D4, D5, D6, D7⟩ := HD2.out.ext HX.out
  rw [hk1]
  go_wp2_with fail
  clear cs
  go_loopw [11, 12] (fun o i wr => ∃ k : Nat, k ≤ n ∧ i = .int .i64 k ∧ wr.ownsRow w3.heap.size 53 1 o k (pre (fun k => .float .f64 (fi (l.getD k 0))) k) ∧ Ext w3 wr) (fun _ i _ => n - (intOf i).toNat)
  case atStart => exact ⟨0, Nat.zero_le _, rfl, ⟨rfl, Or.inl ⟨rfl, rfl⟩⟩, HX.out⟩
  case round =>
    obtain ⟨k, hk, rfl, hown, hx⟩ := hrel
    clear C0 C1 C2 C3 C4 C5 C6 C7 D0 D1 D2 D3 D4 D5 D6 D7 HX
    have HX := Lib.hid hx
    have HO := Lib.hid hown
    clear hx hown
    by_cases hlt : k < n
    · obtain ⟨g, u, rfl, hab, hu, hcell⟩ := HS.out.at1 hlt
      rw [i64s_get (by rw [← HN.out]; exact hlt)] at hu
      cases hu
      have L0 : wr.cell? (g.add k) = some (.int .i64 (l.getD k 0)) := (Below.cell (HE.out.trans HX.out) (by rw [addr_block]; exact hab)).trans hcell
      have HP : Hid (pre (fun k => .float .f64 (fi (l.getD k 0))) k ++ [.float .f64 (fi (l.getD k 0))] = pre (fun k => .float .f64 (fi (l.getD k 0))) (k + 1)) := pre_step _ k
      clear hcell
      generalize l.getD k 0 = x at *
      have HW : Hid (∀ o, (wr.alloc o).ownsRow w3.heap.size 53 1 u11 k (pre (fun k => .float .f64 (fi (l.getD k 0))) k)) := fun o => own_ext HO.out ((Ext.refl _).alloc _)
      have HR : Hid (Sl (wr.alloc (.cells #[.float .f64 (fi x)] 53)) 1 (some ⟨wr.heap.size, 0, none⟩) 1 [.float .f64 (fi x)]) := Sl.built wr #[.float .f64 (fi x)] 53
      have h1 : ∀ u ∈ [Value.float .f64 (fi x)], u.oneCell' = true := by intro u hu; simp at hu; subst hu; rfl
      have hbase : ∀ o, w3.heap.size ≤ (wr.alloc o).heap.size := fun o => by have := HX.out.size; simp; omega
      have hlim : k + 1 ≤ 1099511627776 := by omega
      go_wp2_with (at_builtin; refine wpList_append_sl _ rfl _ _ 32 rfl w3.heap.size 53 i0 (.float .f64 0) 1 8 Try.underlying32 hi0 hz0 hz1 hz2 rfl (by omega) _ k _ rfl (HW.out _) (some ⟨wr.heap.size, 0, none⟩) 1 1 [.float .f64 (fi x)] rfl HR.out h1 hlim (by omega) (hbase _) ?_; intro v' w5 hown hbel)
      refine ⟨⟨k + 1, by omega, by go_num, by rw [← HP.out]; exact hown, ?_⟩, by simp [intOf]; omega⟩
      exact (HX.out.alloc _).trans' hbel
    · have hkn : k = n := by omega
      subst hkn
      obtain ⟨B3, cb3, rfl, -, -⟩ := own_form HO.out
      obtain ⟨C0, C1, C2, C3, C4, C5, C6, C7⟩ := HD1.out.ext HX.out
      obtain ⟨D0, D1, D2, D3, D4, D5, D6, D7⟩ := HD2.out.ext HX.out
      clear HO
      have cn := fun w (hv : IsVec w (.agg #[.int .i64 4, .slice qa1 qn1 qk1, .int .i64 qbn, .slice qa3 qn3 qk3, .slice qa4 qn4 qk4, .slice qa5 qn5 qk5, .slice qa6 qn6 qk6, .slice qa7 qn7 qk7]) f) hs => shows_not _ f B2 m cb2 w hv (by rw [HF.out]; rfl) (by rw [HF.out]; rfl) (by rw [HF.out]; exact (dnL_length r).trans HM.out.symm) hs
      rw [hk2] at cn
      go_wp2_with fail
      refine (cn _ (HU.out.ext HX.out) (by rw [floats_row _ f HF.out]; exact HT.out.ext HX.out)).mono ?_
      rintro e w' ⟨rfl, hx⟩
      replace HX := Lib.hid (HX.out.trans hx)
      clear C0 C1 C2 C3 C4 C5 C6 C7 D0 D1 D2 D3 D4 D5 D6 D7 hx
      obtain ⟨C0, C1, C2, C3, C4, C5, C6, C7⟩ := HD1.out.ext HX.out
      obtain ⟨D0, D1, D2, D3, D4, D5, D6, D7⟩ := HD2.out.ext HX.out
      go_wp2_with fail
      refine (awake_any _).mono ?_
      rintro e w' ⟨rfl, hx⟩
      replace HX := Lib.hid (HX.out.trans hx)
      clear C0 C1 C2 C3 C4 C5 C6 C7 D0 D1 D2 D3 D4 D5 D6 D7 hx
      obtain ⟨C0, C1, C2, C3, C4, C5, C6, C7⟩ := HD1.out.ext HX.out
      obtain ⟨D0, D1, D2, D3, D4, D5, D6, D7⟩ := HD2.out.ext HX.out
      have HEN : Hid (Ext w w') := Lib.hid (HE.out.trans HX.out)
      go_wp2
      refine bodyPost_ret (v := .bool true) (by simp [results, Try.results6, go_sem]) rfl ⟨rfl, HEN.out⟩
set_option maxHeartbeats 4000000
set_option maxRecDepth 100000 in
theorem vecNumbers_ff (w : World) (A : Option Addr) (l : List Int) (c : Nat) (hs : Sl w 1 A l.length (i64s l)) (A' : Option Addr) (r : List Nat) (c' : Nat) (hs' : Sl w 1 A' r.length (f64s r)) (hw : ∀ x ∈ r, x < 18446744073709551616) (h5 : l.length ≤ 500) (h6 : r.length ≤ 500) (hb : allG l = false) (hb' : allF r = false) :
    Calls Try.prog 6 #[.slice A l.length c, .slice A' r.length c'] w fun e w' => e = .returned (.bool true) ∧ Ext w w' := by
  obtain ⟨n, hn⟩ : ∃ n, n = l.length := ⟨_, rfl⟩
  obtain ⟨m, hm⟩ : ∃ m, m = r.length := ⟨_, rfl⟩
  have ci := vints_any A l n hn c w (by omega) (by rw [hn]; exact hs)
  have ct := fun w hs => rtidyL_any A' r m hm c' w (by omega) hs
  have cf := fun w hs => vfloats_any A' r m hm hw c' w (by omega) hs
  have cs := fun w hs => rsmallL_any A l n hn c w (by omega) hs
  rw [hb] at ci
  rw [hb'] at ct cf
  simp only [hb] at cs
  rw [← hn] at hs h5 ⊢
  rw [← hm] at hs' h6 ⊢
  have HS := Lib.hid hs
  have HS' := Lib.hid hs'
  have HN := Lib.hid hn
  have HM := Lib.hid hm
  obtain ⟨d, hd⟩ : ∃ d, d = VD.none := ⟨_, rfl⟩
  obtain ⟨f, hf⟩ : ∃ f, f = VD.none := ⟨_, rfl⟩
  have hk1 : ((d.kind : Nat) : Int) = 0 := by rw [hd]; rfl
  have hk2 : ((f.kind : Nat) : Int) = 0 := by rw [hf]; rfl
  replace ci : Calls Try.prog 21 #[.slice A n c] w fun e w' => ∃ v, e = .returned (.tuple #[v, .bool false]) ∧ IsVec w' v d ∧ Ext w w' := by rw [hd]; exact ci
  replace cf : ∀ w, Sl w 1 A' m (f64s r) → Calls Try.prog 26 #[.slice A' m c'] w fun e w' => ∃ v, e = .returned (.tuple #[v, .bool false]) ∧ IsVec w' v f ∧ Ext w w' := fun w hs => by rw [hf]; exact cf w hs
  have HD := Lib.hid hd
  have HF := Lib.hid hf
  obtain ⟨i0, hi0, hz0, hz1, hz2⟩ := info_parts infoF
  clear hs hs' hn hm hd hf hw hb hb'
  go_enter Try.func6, Try.ntmps6
  go_wp2_with fail
  refine ci.mono ?_
  rintro e w1 ⟨v, rfl, hv, hx⟩
  obtain ⟨pa1, pn1, pk1, pbn, pa3, pn3, pk3, pa4, pn4, pk4, pa5, pn5, pk5, pa6, pn6, pk6, pa7, pn7, pk7, rfl⟩ := hv.shape
  rw [hk1] at hv ⊢
  have HV := Lib.hid hv
  have HE := Lib.hid hx
  clear hv hx ci
  go_wp2_with fail
  refine (cf _ (HS'.out.ext (HE.out.alloc _))).mono ?_
  rintro e w2 ⟨v, rfl, hv, hx⟩
  obtain ⟨qa1, qn1, qk1, qbn, qa3, qn3, qk3, qa4, qn4, qk4, qa5, qn5, qk5, qa6, qn6, qk6, qa7, qn7, qk7, rfl⟩ := hv.shape
  rw [hk2] at hv ⊢
  have HD1 := Lib.hid ((St.new w1 _ _ _ _ _ _ _ _ _).ext hx)
  replace HV := Lib.hid (HV.out.ext (((Ext.refl w1).alloc _).trans hx))
  replace HE := Lib.hid ((HE.out.alloc _).trans hx)
  have HU := Lib.hid hv
  obtain ⟨C0, C1, C2, C3, C4, C5, C6, C7⟩ := HD1.out
  clear hv hx cf
  go_wp2_with fail
  refine (ct _ (HS'.out.ext (HE.out.alloc _))).mono ?_
  rintro e w3 ⟨v, rfl, hown, hx⟩
  have hz : w2.heap.size ≤ w3.heap.size := by have := hx.size; simp at this; omega
  replace HD1 := Lib.hid (HD1.out.ext (((Ext.refl w2).alloc _).trans hx))
  have HD2 := Lib.hid ((St.new w2 _ _ _ _ _ _ _ _ _).ext hx)
  replace HV : Hid (IsVec w3 (.agg #[.int .i64 0, .slice pa1 pn1 pk1, .int .i64 pbn, .slice pa3 pn3 pk3, .slice pa4 pn4 pk4, .slice pa5 pn5 pk5, .slice pa6 pn6 pk6, .slice pa7 pn7 pk7]) d) := Lib.hid (HV.out.ext (((Ext.refl w2).alloc _).trans hx))
  replace HU : Hid (IsVec w3 (.agg #[.int .i64 0, .slice qa1 qn1 qk1, .int .i64 qbn, .slice qa3 qn3 qk3, .slice qa4 qn4 qk4, .slice qa5 qn5 qk5, .slice qa6 qn6 qk6, .slice qa7 qn7 qk7]) f) := Lib.hid (HU.out.ext (((Ext.refl w2).alloc _).trans hx))
  replace HE : Hid (Ext w w3) := Lib.hid ((HE.out.alloc _).trans hx)
  clear C0 C1 C2 C3 C4 C5 C6 C7 hx hown ct hz
  have HX := Lib.hid (Ext.refl w3)
  obtain ⟨C0, C1, C2, C3, C4, C5, C6, C7⟩ := HD1.out
  obtain ⟨D0, D1, D2, D3, D4, D5, D6, D7⟩ := HD2.out
  go_wp2_with fail
  refine (cs _ (HS.out.ext (HE.out.trans HX.out))).mono ?_
  rintro e w' ⟨rfl, rfl⟩
  go_wp2_with fail
  refine (vkind_any _ d _ (HV.out.ext HX.out)).mono ?_
  rintro e w' ⟨rfl, hx⟩
  replace HX := Lib.hid (HX.out.trans hx)
  clear C0 C1 C2 C3 C4 C5 C6 C7 D0 D1 D2 D3 D4 D5 D6 D7 hx
  obtain ⟨C0, C1, C2, C3, C4, C5, C6, C7⟩ := HD1.out.ext HX.out
  obtain ⟨D0, D1, D2, D3, D4, D5, D6, D7⟩ := HD2.out.ext HX.out
  rw [hk1]
  go_wp2_with fail
  refine (vkind_any _ f _ (HU.out.ext HX.out)).mono ?_
  rintro e w' ⟨rfl, hx⟩
  replace HX := Lib.hid (HX.out.trans hx)
  clear C0 C1 C2 C3 C4 C5 C6 C7 D0 D1 D2 D3 D4 D5 D6 D7 hx
  obtain ⟨C0, C1, C2, C3, C4, C5, C6, C7⟩ := HD1.out.ext HX.out
  obtain ⟨D0, D1, D2, D3, D4, D5, D6, D7⟩ := HD2.out.ext HX.out
  rw [hk2]
  go_wp2_with fail
  clear cs
  go_loopw [11, 12] (fun o i wr => ∃ k : Nat, k ≤ n ∧ i = .int .i64 k ∧ wr.ownsRow w3.heap.size 53 1 o k (pre (fun k => .float .f64 (fi (l.getD k 0))) k) ∧ Ext w3 wr) (fun _ i _ => n - (intOf i).toNat)
  case atStart => exact ⟨0, Nat.zero_le _, rfl, ⟨rfl, Or.inl ⟨rfl, rfl⟩⟩, HX.out⟩
  case round =>
    obtain ⟨k, hk, rfl, hown, hx⟩ := hrel
    clear C0 C1 C2 C3 C4 C5 C6 C7 D0 D1 D2 D3 D4 D5 D6 D7 HX
    have HX := Lib.hid hx
    have HO := Lib.hid hown
    clear hx hown
    by_cases hlt : k < n
    · obtain ⟨g, u, rfl, hab, hu, hcell⟩ := HS.out.at1 hlt
      rw [i64s_get (by rw [← HN.out]; exact hlt)] at hu
      cases hu
      have L0 : wr.cell? (g.add k) = some (.int .i64 (l.getD k 0)) := (Below.cell (HE.out.trans HX.out) (by rw [addr_block]; exact hab)).trans hcell
      have HP : Hid (pre (fun k => .float .f64 (fi (l.getD k 0))) k ++ [.float .f64 (fi (l.getD k 0))] = pre (fun k => .float .f64 (fi (l.getD k 0))) (k + 1)) := pre_step _ k
      clear hcell
      generalize l.getD k 0 = x at *
      have HW : Hid (∀ o, (wr.alloc o).ownsRow w3.heap.size 53 1 u11 k (pre (fun k => .float .f64 (fi (l.getD k 0))) k)) := fun o => own_ext HO.out ((Ext.refl _).alloc _)
      have HR : Hid (Sl (wr.alloc (.cells #[.float .f64 (fi x)] 53)) 1 (some ⟨wr.heap.size, 0, none⟩) 1 [.float .f64 (fi x)]) := Sl.built wr #[.float .f64 (fi x)] 53
      have h1 : ∀ u ∈ [Value.float .f64 (fi x)], u.oneCell' = true := by intro u hu; simp at hu; subst hu; rfl
      have hbase : ∀ o, w3.heap.size ≤ (wr.alloc o).heap.size := fun o => by have := HX.out.size; simp; omega
      have hlim : k + 1 ≤ 1099511627776 := by omega
      go_wp2_with (at_builtin; refine wpList_append_sl _ rfl _ _ 32 rfl w3.heap.size 53 i0 (.float .f64 0) 1 8 Try.underlying32 hi0 hz0 hz1 hz2 rfl (by omega) _ k _ rfl (HW.out _) (some ⟨wr.heap.size, 0, none⟩) 1 1 [.float .f64 (fi x)] rfl HR.out h1 hlim (by omega) (hbase _) ?_; intro v' w5 hown hbel)
      refine ⟨⟨k + 1, by omega, by go_num, by rw [← HP.out]; exact hown, ?_⟩, by simp [intOf]; omega⟩
      exact (HX.out.alloc _).trans' hbel
    · have hkn : k = n := by omega
      subst hkn
      obtain ⟨B3, cb3, rfl, -, -⟩ := own_form HO.out
      obtain ⟨C0, C1, C2, C3, C4, C5, C6, C7⟩ := HD1.out.ext HX.out
      obtain ⟨D0, D1, D2, D3, D4, D5, D6, D7⟩ := HD2.out.ext HX.out
      clear HO
      go_wp2_with fail
      refine (awake_any _).mono ?_
      rintro e w' ⟨rfl, hx⟩
      replace HX := Lib.hid (HX.out.trans hx)
      clear C0 C1 C2 C3 C4 C5 C6 C7 D0 D1 D2 D3 D4 D5 D6 D7 hx
      obtain ⟨C0, C1, C2, C3, C4, C5, C6, C7⟩ := HD1.out.ext HX.out
      obtain ⟨D0, D1, D2, D3, D4, D5, D6, D7⟩ := HD2.out.ext HX.out
      have HEN : Hid (Ext w w') := Lib.hid (HE.out.trans HX.out)
      go_wp2
      refine bodyPost_ret (v := .bool true) (by simp [results, Try.results6, go_sem]) rfl ⟨rfl, HEN.out⟩
theorem vecNumbers_walk (w : World) (A : Option Addr) (l : List Int) (c : Nat) (_ : l.length ≤ c) (_ : c ≤ maxLen) (hs : Sl w 1 A l.length (i64s l)) (_ : ∀ x ∈ l, (Lit.int .i64 x).wf = true) (A' : Option Addr) (r : List Nat) (c' : Nat) (_ : r.length ≤ c') (_ : c' ≤ maxLen) (hs' : Sl w 1 A' r.length (f64s r)) (hw : ∀ x ∈ r, (Lit.float .f64 x).wf = true) :
    Calls Try.prog 6 #[.slice A l.length c, .slice A' r.length c'] w fun e w' => e = .returned (.bool true) ∧ Ext w w' := by
  have hw' : ∀ x ∈ r, x < 18446744073709551616 := fun x hx => by simpa [Lit.wf] using hw x hx
  by_cases h5 : l.length ≤ 500
  · by_cases h6 : r.length ≤ 500
    · cases hb : allG l <;> cases hb' : allF r
      · exact vecNumbers_ff w A l c hs A' r c' hs' hw' h5 h6 hb hb'
      · exact vecNumbers_ft w A l c hs A' r c' hs' hw' h5 h6 hb hb'
      · exact vecNumbers_tf w A l c hs A' r c' hs' hw' h5 h6 hb hb'
      · exact vecNumbers_tt w A l c hs A' r c' hs' hw' h5 h6 hb hb'
    · clear hs hs' hw hw'
      go_enter Try.func6, Try.ntmps6
      go_wp2_with fail
      refine (awake_any _).mono ?_
      rintro e w1 ⟨rfl, hx⟩
      go_wp2
      go_ret
      exact ⟨rfl, hx⟩
  · clear hs hs' hw hw'
    go_enter Try.func6, Try.ntmps6
    go_wp2_with fail
    refine (awake_any _).mono ?_
    rintro e w1 ⟨rfl, hx⟩
    go_wp2
    go_ret
    exact ⟨rfl, hx⟩
end Go.Proofs.Ytmjikdkdccnbaaa
