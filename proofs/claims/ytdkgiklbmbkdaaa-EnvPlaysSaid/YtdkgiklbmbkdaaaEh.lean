/- rebusref33.put. -/
import Derived.Test.YtdkgiklbmbkdaaaEg
namespace Go.Proofs.Ytdkgiklbmbkdaaa
open Go.ChangeShapes Go.WideShapes Go.RowKit Go.Maps Bv Fl
set_option maxHeartbeats 2000000
set_option maxRecDepth 100000
/-- is a name not behind another one? -/
def leB (s t : ByteArray) : Bool := Op.bytesLess s.toList t.toList || s.toList == t.toList
/-- a round of put -/
def putS (s : ByteArray) (n : Int) (st : List Pr × Bool) (p : Pr) : List Pr × Bool :=
  let a := if st.2 = false ∧ leB s p.nm = true then (st.1 ++ [⟨s, n⟩], true) else st
  if p.nm = s then a else (a.1 ++ [p], a.2)
def putK (l : List Pr) (s : ByteArray) (n : Int) (k : Nat) : List Pr × Bool := (l.take k).foldl (putS s n) ([], false)
theorem putK_step (l : List Pr) (s : ByteArray) (n : Int) {k : Nat} (hk : k < l.length) : putK l s n (k + 1) = putS s n (putK l s n k) (l.getD k default) := by
  unfold putK
  rw [List.take_add_one, List.foldl_append, show l.getD k default = l[k] by simp [List.getD, hk]]
  simp [hk]
def putR (l : List Pr) (s : ByteArray) (n : Int) : List Pr := if (putK l s n l.length).2 then (putK l s n l.length).1 else (putK l s n l.length).1 ++ [⟨s, n⟩]
theorem putS_1e {s t : ByteArray} {n v : Int} {L : List Pr} (h : t = s) : putS s n (L, true) ⟨t, v⟩ = (L, true) := by simp [putS, h]
theorem putS_1n {s t : ByteArray} {n v : Int} {L : List Pr} (h : t ≠ s) : putS s n (L, true) ⟨t, v⟩ = (L ++ [⟨t, v⟩], true) := by simp [putS, h]
theorem putS_3e {s t : ByteArray} {n v : Int} {L : List Pr} (hl : leB s t = true) (h : t = s) : putS s n (L, false) ⟨t, v⟩ = (L ++ [⟨s, n⟩], true) := by subst h; simp [putS, hl]
theorem putS_3n {s t : ByteArray} {n v : Int} {L : List Pr} (hl : leB s t = true) (h : t ≠ s) : putS s n (L, false) ⟨t, v⟩ = (L ++ [⟨s, n⟩] ++ [⟨t, v⟩], true) := by simp [putS, h, hl]
theorem putS_5n {s t : ByteArray} {n v : Int} {L : List Pr} (hl : leB s t = false) (h : t ≠ s) : putS s n (L, false) ⟨t, v⟩ = (L ++ [⟨t, v⟩], false) := by simp [putS, h, hl]
theorem prc_app (l : List Pr) (p : Pr) : prc (l ++ [p]) = prc l ++ p.cells := by simp [prc]
theorem put_any (A : Option Addr) (n c : Nat) (l : List Pr) (s : ByteArray) (z : Int) (w : World) (hn : Hid (n = l.length)) (hn2 : n ≤ 1000) (HS : Hid (Sl w 2 A n (prc l))) : Calls Try.prog 18 #[.slice A n c, .string s, .int .i64 z] w fun e w' => ∃ B m b, e = .returned (.slice B m b) ∧ Hid (m = (putR l s z).length) ∧ SlS w' 2 B m (prc (putR l s z)) (New w.heap.size) ∧ Ext w w' := by
  have E := Ext.refl w
  go_enter Try.func18, Try.ntmps18
  go_wp2_with fail
  obtain ⟨BS, hBS1, hBS2⟩ : ∃ BS, BS ≤ w.heap.size ∧ w.heap.size ≤ BS := ⟨_, Nat.le_refl _, Nat.le_refl _⟩
  go_loopw [7, 8, 9] (fun o dn i wr => ∃ (k m TP : Nat) (oA : Option Addr) (oc : Nat) (L : List Pr) (d : Bool), k ≤ n ∧ m ≤ 2 * k ∧ o = .slice oA m oc ∧ dn = .bool d ∧ i = .int .i64 k ∧ Hid (L.length = m) ∧ Hid (putK l s z k = (L, d)) ∧ Ext w wr ∧ w.heap.size ≤ wr.heap.size ∧ RowB 87 2 wr BS TP (.slice oA m oc) m (prc L) ∧ TP ≤ wr.heap.size) (fun _ _ i _ => n - (intOf i).toNat)
  case atStart => exact ⟨0, 0, 0, none, 0, [], false, Nat.zero_le _, Nat.zero_le _, rfl, rfl, rfl, rfl, rfl, E, Nat.le_refl _, RowB.nil, Nat.zero_le _⟩
  case round =>
    obtain ⟨k, m, TP, oA, oc, L, d, hk, hmk, rfl, rfl, rfl, hLm, hPK, E', zW, HO, hTP⟩ := hrel
    clear E
    have E := E'
    clear E'
    have z1 := E.size
    have hcs : (k < n ∧ d = true ∧ True ∧ (l.getD k default).nm = s) ∨ (k < n ∧ d = true ∧ True ∧ (l.getD k default).nm ≠ s) ∨ (k < n ∧ d = false ∧ Op.bytesLess s.toList (l.getD k default).nm.toList = true ∧ (l.getD k default).nm = s) ∨ (k < n ∧ d = false ∧ Op.bytesLess s.toList (l.getD k default).nm.toList = true ∧ (l.getD k default).nm ≠ s) ∨ (k < n ∧ d = false ∧ Op.bytesLess s.toList (l.getD k default).nm.toList = false ∧ (l.getD k default).nm = s) ∨ (k < n ∧ d = false ∧ Op.bytesLess s.toList (l.getD k default).nm.toList = false ∧ (l.getD k default).nm ≠ s) ∨ ¬ k < n := by
      by_cases h1 : k < n
      · cases d <;> cases h3 : Op.bytesLess s.toList (l.getD k default).nm.toList <;> by_cases h4 : (l.getD k default).nm = s <;> simp_all
      · simp [h1]
    rcases hcs with hc | hc | hc | hc | hc | hc | hlt
    · obtain ⟨hlt, rfl, hq1, hq2⟩ := hc
      have hst : Hid (putK l s z (k + 1) = putS s z (L, true) (l.getD k default)) := by show _ = _; rw [putK_step l s z (by have := hn.out; omega), hPK.out]
      obtain ⟨a, ea, D0, D1⟩ := pr_at HS.out hn.out hlt
      subst ea
      have hab : (a.add (k * 2)).block < w.heap.size := World.block_lt_of_cell? _ _ D0
      replace D0 := cell_ext E D0
      replace D1 := cell_ext E D1
      clear HS hPK
      generalize l.getD k default = p at D0 D1 hst hq1 hq2
      obtain ⟨t, v⟩ := p
      dsimp only at D0 D1 hst hq1 hq2
      have hq6 : (t.toList == s.toList) = true := by rw [hq2]; simp
      have hq7 : (s.toList == t.toList) = true := by rw [hq2]; simp
      have hst2 : Hid (putK l s z (k + 1) = (L, true)) := by show _ = _; rw [hst.out]; exact putS_1e hq2
      have hL2 : Hid ((L).length = m) := by show _ = _; simp [hLm.out]
      clear hst hLm hn hq2
      go_wp2_with fail
      exact ⟨⟨k + 1, m, _, _, _, L, true, by omega, by omega, rfl, rfl, by go_num, hL2, hst2, E, by omega, by skip; exact HO, by omega⟩, by simp [intOf]; omega⟩
    · obtain ⟨hlt, rfl, hq1, hq2⟩ := hc
      have hst : Hid (putK l s z (k + 1) = putS s z (L, true) (l.getD k default)) := by show _ = _; rw [putK_step l s z (by have := hn.out; omega), hPK.out]
      obtain ⟨a, ea, D0, D1⟩ := pr_at HS.out hn.out hlt
      subst ea
      have hab : (a.add (k * 2)).block < w.heap.size := World.block_lt_of_cell? _ _ D0
      replace D0 := cell_ext E D0
      replace D1 := cell_ext E D1
      clear HS hPK
      generalize l.getD k default = p at D0 D1 hst hq1 hq2
      obtain ⟨t, v⟩ := p
      dsimp only at D0 D1 hst hq1 hq2
      have hq6 := bytes_ne hq2
      have hq7 := bytes_ne (Ne.symm hq2)
      have hst2 : Hid (putK l s z (k + 1) = (L ++ [(⟨t, v⟩ : Pr)], true)) := by show _ = _; rw [hst.out]; exact putS_1n hq2
      have hL2 : Hid ((L ++ [(⟨t, v⟩ : Pr)]).length = m + 1) := by show _ = _; simp [hLm.out]
      clear hst hLm hn hq2
      have TA46 : True := trivial
      go_wp2_with (clear TA46; refine app_Pr rfl rfl (base := BS) (k := _) rfl (HO.ext ((Ext.refl _).alloc _)) rfl (Sl.built _ #[_, _] _) (by intro u hu; simp at hu; rcases hu with rfl | rfl <;> rfl) (by omega) (by simp; omega) ?_; clear HO D0 D1; intro v46 w46 HO H46; obtain ⟨A46, c46, e46, -, -⟩ := own_form HO.1; subst e46; have z2 : wr.heap.size ≤ w46.heap.size := Nat.le_trans ((Ext.refl wr).alloc _).size H46.size; replace E := (E.alloc _).trans' (H46.mono (by omega)); clear H46)
      exact ⟨⟨k + 1, m + 1, _, _, _, L ++ [(⟨t, v⟩ : Pr)], true, by omega, by omega, rfl, rfl, by go_num, hL2, hst2, E, by omega, by rw [prc_app]; exact HO, by omega⟩, by simp [intOf]; omega⟩
    · obtain ⟨hlt, rfl, hq1, hq2⟩ := hc
      have hst : Hid (putK l s z (k + 1) = putS s z (L, false) (l.getD k default)) := by show _ = _; rw [putK_step l s z (by have := hn.out; omega), hPK.out]
      obtain ⟨a, ea, D0, D1⟩ := pr_at HS.out hn.out hlt
      subst ea
      have hab : (a.add (k * 2)).block < w.heap.size := World.block_lt_of_cell? _ _ D0
      replace D0 := cell_ext E D0
      replace D1 := cell_ext E D1
      clear HS hPK
      generalize l.getD k default = p at D0 D1 hst hq1 hq2
      obtain ⟨t, v⟩ := p
      dsimp only at D0 D1 hst hq1 hq2
      have hq6 : (t.toList == s.toList) = true := by rw [hq2]; simp
      have hq7 : (s.toList == t.toList) = true := by rw [hq2]; simp
      have hq3 : leB s t = true := by unfold leB; rw [hq1, hq7]; rfl
      have hst2 : Hid (putK l s z (k + 1) = (L ++ [(⟨s, z⟩ : Pr)], true)) := by show _ = _; rw [hst.out]; exact putS_3e hq3 hq2
      have hL2 : Hid ((L ++ [(⟨s, z⟩ : Pr)]).length = m + 1) := by show _ = _; simp [hLm.out]
      clear hst hLm hn hq2 hq3
      have TA32 : True := trivial
      go_wp2_with (clear TA32; refine app_Pr rfl rfl (base := BS) (k := _) rfl (HO.ext ((Ext.refl _).alloc _)) rfl (Sl.built _ #[_, _] _) (by intro u hu; simp at hu; rcases hu with rfl | rfl <;> rfl) (by omega) (by simp; omega) ?_; clear HO; intro v32 w32 HO H32; obtain ⟨A32, c32, e32, -, -⟩ := own_form HO.1; subst e32; have z3 : wr.heap.size ≤ w32.heap.size := Nat.le_trans ((Ext.refl wr).alloc _).size H32.size; replace E := (E.alloc _).trans' (H32.mono (by omega)); replace D0 := cell_below H32 (cell_ext ((Ext.refl _).alloc _) D0) (Nat.lt_of_lt_of_le hab hBS2); replace D1 := cell_below H32 (cell_ext ((Ext.refl _).alloc _) D1) (Nat.lt_of_lt_of_le hab hBS2); clear H32)
      exact ⟨⟨k + 1, m + 1, _, _, _, L ++ [(⟨s, z⟩ : Pr)], true, by omega, by omega, rfl, rfl, by go_num, hL2, hst2, E, by omega, by rw [prc_app]; exact HO, by omega⟩, by simp [intOf]; omega⟩
    · obtain ⟨hlt, rfl, hq1, hq2⟩ := hc
      have hst : Hid (putK l s z (k + 1) = putS s z (L, false) (l.getD k default)) := by show _ = _; rw [putK_step l s z (by have := hn.out; omega), hPK.out]
      obtain ⟨a, ea, D0, D1⟩ := pr_at HS.out hn.out hlt
      subst ea
      have hab : (a.add (k * 2)).block < w.heap.size := World.block_lt_of_cell? _ _ D0
      replace D0 := cell_ext E D0
      replace D1 := cell_ext E D1
      clear HS hPK
      generalize l.getD k default = p at D0 D1 hst hq1 hq2
      obtain ⟨t, v⟩ := p
      dsimp only at D0 D1 hst hq1 hq2
      have hq6 := bytes_ne hq2
      have hq7 := bytes_ne (Ne.symm hq2)
      have hq3 : leB s t = true := by unfold leB; rw [hq1, hq7]; rfl
      have hst2 : Hid (putK l s z (k + 1) = (L ++ [(⟨s, z⟩ : Pr)] ++ [(⟨t, v⟩ : Pr)], true)) := by show _ = _; rw [hst.out]; exact putS_3n hq3 hq2
      have hL2 : Hid ((L ++ [(⟨s, z⟩ : Pr)] ++ [(⟨t, v⟩ : Pr)]).length = m + 1 + 1) := by show _ = _; simp [hLm.out]
      clear hst hLm hn hq2 hq3
      have TA32 : True := trivial
      have TA46 : True := trivial
      go_wp2_with (first | (clear TA32; refine app_Pr rfl rfl (base := BS) (k := _) rfl (HO.ext ((Ext.refl _).alloc _)) rfl (Sl.built _ #[_, _] _) (by intro u hu; simp at hu; rcases hu with rfl | rfl <;> rfl) (by omega) (by simp; omega) ?_; clear HO; intro v32 w32 HO H32; obtain ⟨A32, c32, e32, -, -⟩ := own_form HO.1; subst e32; have z4 : wr.heap.size ≤ w32.heap.size := Nat.le_trans ((Ext.refl wr).alloc _).size H32.size; replace E := (E.alloc _).trans' (H32.mono (by omega)); replace D0 := cell_below H32 (cell_ext ((Ext.refl _).alloc _) D0) (Nat.lt_of_lt_of_le hab hBS2); replace D1 := cell_below H32 (cell_ext ((Ext.refl _).alloc _) D1) (Nat.lt_of_lt_of_le hab hBS2); clear H32) | (clear TA46; refine app_Pr rfl rfl (base := BS) (k := _) rfl (HO.ext ((Ext.refl _).alloc _)) rfl (Sl.built _ #[_, _] _) (by intro u hu; simp at hu; rcases hu with rfl | rfl <;> rfl) (by omega) (by simp; omega) ?_; clear HO D0 D1; intro v46 w46 HO H46; obtain ⟨A46, c46, e46, -, -⟩ := own_form HO.1; subst e46; have z5 : w32.heap.size ≤ w46.heap.size := Nat.le_trans ((Ext.refl w32).alloc _).size H46.size; replace E := (E.alloc _).trans' (H46.mono (by omega)); clear H46))
      exact ⟨⟨k + 1, m + 1 + 1, _, _, _, L ++ [(⟨s, z⟩ : Pr)] ++ [(⟨t, v⟩ : Pr)], true, by omega, by omega, rfl, rfl, by go_num, hL2, hst2, E, by omega, by rw [prc_app, prc_app]; exact HO, by omega⟩, by simp [intOf]; omega⟩
    · obtain ⟨hlt, rfl, hq1, hq2⟩ := hc
      have hst : Hid (putK l s z (k + 1) = putS s z (L, false) (l.getD k default)) := by show _ = _; rw [putK_step l s z (by have := hn.out; omega), hPK.out]
      obtain ⟨a, ea, D0, D1⟩ := pr_at HS.out hn.out hlt
      subst ea
      have hab : (a.add (k * 2)).block < w.heap.size := World.block_lt_of_cell? _ _ D0
      replace D0 := cell_ext E D0
      replace D1 := cell_ext E D1
      clear HS hPK
      generalize l.getD k default = p at D0 D1 hst hq1 hq2
      obtain ⟨t, v⟩ := p
      dsimp only at D0 D1 hst hq1 hq2
      have hq6 : (t.toList == s.toList) = true := by rw [hq2]; simp
      have hq7 : (s.toList == t.toList) = true := by rw [hq2]; simp
      have hq3 : leB s t = true := by unfold leB; rw [hq1, hq7]; rfl
      have hst2 : Hid (putK l s z (k + 1) = (L ++ [(⟨s, z⟩ : Pr)], true)) := by show _ = _; rw [hst.out]; exact putS_3e hq3 hq2
      have hL2 : Hid ((L ++ [(⟨s, z⟩ : Pr)]).length = m + 1) := by show _ = _; simp [hLm.out]
      clear hst hLm hn hq2 hq3
      have TA32 : True := trivial
      go_wp2_with (clear TA32; refine app_Pr rfl rfl (base := BS) (k := _) rfl (HO.ext ((Ext.refl _).alloc _)) rfl (Sl.built _ #[_, _] _) (by intro u hu; simp at hu; rcases hu with rfl | rfl <;> rfl) (by omega) (by simp; omega) ?_; clear HO; intro v32 w32 HO H32; obtain ⟨A32, c32, e32, -, -⟩ := own_form HO.1; subst e32; have z6 : wr.heap.size ≤ w32.heap.size := Nat.le_trans ((Ext.refl wr).alloc _).size H32.size; replace E := (E.alloc _).trans' (H32.mono (by omega)); replace D0 := cell_below H32 (cell_ext ((Ext.refl _).alloc _) D0) (Nat.lt_of_lt_of_le hab hBS2); replace D1 := cell_below H32 (cell_ext ((Ext.refl _).alloc _) D1) (Nat.lt_of_lt_of_le hab hBS2); clear H32)
      exact ⟨⟨k + 1, m + 1, _, _, _, L ++ [(⟨s, z⟩ : Pr)], true, by omega, by omega, rfl, rfl, by go_num, hL2, hst2, E, by omega, by rw [prc_app]; exact HO, by omega⟩, by simp [intOf]; omega⟩
    · obtain ⟨hlt, rfl, hq1, hq2⟩ := hc
      have hst : Hid (putK l s z (k + 1) = putS s z (L, false) (l.getD k default)) := by show _ = _; rw [putK_step l s z (by have := hn.out; omega), hPK.out]
      obtain ⟨a, ea, D0, D1⟩ := pr_at HS.out hn.out hlt
      subst ea
      have hab : (a.add (k * 2)).block < w.heap.size := World.block_lt_of_cell? _ _ D0
      replace D0 := cell_ext E D0
      replace D1 := cell_ext E D1
      clear HS hPK
      generalize l.getD k default = p at D0 D1 hst hq1 hq2
      obtain ⟨t, v⟩ := p
      dsimp only at D0 D1 hst hq1 hq2
      have hq6 := bytes_ne hq2
      have hq7 := bytes_ne (Ne.symm hq2)
      have hq3 : leB s t = false := by unfold leB; rw [hq1, hq7]; rfl
      have hst2 : Hid (putK l s z (k + 1) = (L ++ [(⟨t, v⟩ : Pr)], false)) := by show _ = _; rw [hst.out]; exact putS_5n hq3 hq2
      have hL2 : Hid ((L ++ [(⟨t, v⟩ : Pr)]).length = m + 1) := by show _ = _; simp [hLm.out]
      clear hst hLm hn hq2 hq3
      have TA46 : True := trivial
      go_wp2_with (clear TA46; refine app_Pr rfl rfl (base := BS) (k := _) rfl (HO.ext ((Ext.refl _).alloc _)) rfl (Sl.built _ #[_, _] _) (by intro u hu; simp at hu; rcases hu with rfl | rfl <;> rfl) (by omega) (by simp; omega) ?_; clear HO D0 D1; intro v46 w46 HO H46; obtain ⟨A46, c46, e46, -, -⟩ := own_form HO.1; subst e46; have z7 : wr.heap.size ≤ w46.heap.size := Nat.le_trans ((Ext.refl wr).alloc _).size H46.size; replace E := (E.alloc _).trans' (H46.mono (by omega)); clear H46)
      exact ⟨⟨k + 1, m + 1, _, _, _, L ++ [(⟨t, v⟩ : Pr)], false, by omega, by omega, rfl, rfl, by go_num, hL2, hst2, E, by omega, by rw [prc_app]; exact HO, by omega⟩, by simp [intOf]; omega⟩
    · have hkm : k = n := by omega
      rw [hkm] at hPK hmk
      clear hkm
      have hR : Hid (putR l s z = if d then L else L ++ [⟨s, z⟩]) := by show _ = _; unfold putR; rw [← hn.out, hPK.out]
      cases d
      · have TA54 : True := trivial
        go_wp2_with (clear TA54; refine app_Pr rfl rfl (base := BS) (k := _) rfl (HO.ext ((Ext.refl _).alloc _)) rfl (Sl.built _ #[_, _] _) (by intro u hu; simp at hu; rcases hu with rfl | rfl <;> rfl) (by omega) (by simp; omega) ?_; clear HO; intro v54 w54 HO H54; obtain ⟨A54, c54, e54, -, -⟩ := own_form HO.1; subst e54; have z8 : wr.heap.size ≤ w54.heap.size := Nat.le_trans ((Ext.refl wr).alloc _).size H54.size; replace E := (E.alloc _).trans' (H54.mono (by omega)); clear H54)
        go_ret
        exact ⟨_, m + 1, ⟨_, rfl⟩, by show _ = _; rw [hR.out]; simp [hLm.out], by rw [hR.out, if_neg (by decide), prc_app]; exact HO.sls (by omega), E⟩
      · go_wp2_with fail
        go_ret
        exact ⟨oA, m, ⟨oc, rfl⟩, by show _ = _; rw [hR.out]; exact hLm.out.symm, by rw [hR.out, if_pos trivial]; exact HO.sls (by omega), E⟩
end Go.Proofs.Ytdkgiklbmbkdaaa
