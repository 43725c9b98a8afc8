/- Contract of squeeze.Into. -/
import Derived.Test.YtdkgiklbmbkdaaaQd
namespace Go.Proofs.Ytdkgiklbmbkdaaa
open Go.RowKit Bv Fl

attribute [local go_sem] run_store_f64
/-- the numbers in store k, in a Vec that reads only what the one before read, or what is new; or none -/
def IntoS (b : Bool) (v0 : Value) (K k : Nat) (l : List Nat) (w : World) (e : Ending) (w' : World) : Prop :=
  ∃ v, e = .returned (.tuple #[v, .bool b]) ∧ (b = true → ∀ S, NumS w v0 K l S → NumS w' v k l (fun i => S i ∨ New w.heap.size i)) ∧ (b = false → v = zeroVec) ∧ Ext w w'
theorem dn_tidy_eq {x : Nat} (h : tidy x) : dn x = x := by
  rw [dn_of h.1, norm_tidy h]
theorem dnL_tidy_eq {l : List Nat} (h : ∀ x ∈ l, tidy x) : dnL l = l := by
  unfold dnL
  conv => rhs; rw [← List.map_id l]
  exact List.map_congr_left fun x hx => dn_tidy_eq (h x hx)
theorem allF_tidy {l : List Nat} (h : ∀ x ∈ l, tidy x) : allF l = true := by
  unfold allF
  rw [List.all_eq_true]
  exact fun x hx => decide_eq_true (h x hx).1
theorem toI_G {l : List Nat} (h : allW l = true) : ∀ x ∈ toI l, G x := by
  intro x hx
  obtain ⟨j, hj, rfl⟩ := List.getElem_of_mem hx
  have hj' : j < l.length := by rw [← toI_length]; exact hj
  have := trn_le (allW_iff.1 h j hj').1
  simpa [toI, List.getD, hj', G] using this
theorem allG_toI {l : List Nat} (h : allW l = true) : allG (toI l) = true := by
  unfold allG
  rw [List.all_eq_true]
  exact fun x hx => decide_eq_true (toI_G h x hx)
theorem fits_leq {l : List Nat} {k : Nat} (h : k ≤ 4) : fitsL l (k : Int) = decide (leastL l ≤ k) := by
  unfold fitsL
  rw [Bool.eq_iff_iff]
  simp only [decide_eq_true_eq]
  omega

set_option maxHeartbeats 1000000
theorem into_same (v : Value) (K : Nat) (l : List Nat) (w : World) (h : IsNum w v K l) : Calls Try.prog 43 #[v, .int .i64 (K : Int)] w (IntoS true v K K l w) := by
  obtain ⟨fa1, fn1, fk1, fbn, fa3, fn3, fk3, fa4, fn4, fk4, fa5, fn5, fk5, fa6, fn6, fk6, fa7, fn7, fk7, rfl⟩ := h.shape

  have HTD := Lib.hid h.tidy
  have HLM := Lib.hid h.lim
  have HV := Lib.hid (h.ext (((Ext.refl w).alloc (.cells #[.int .i64 (K : Int), .slice fa1 fn1 fk1, .int .i64 fbn, .slice fa3 fn3 fk3, .slice fa4 fn4 fk4, .slice fa5 fn5 fk5, .slice fa6 fn6 fk6, .slice fa7 fn7 fk7] 47)).alloc (.cells #[.int .i64 0, .slice none 0 0, .int .i64 0, .slice none 0 0, .slice none 0 0, .slice none 0 0, .slice none 0 0, .slice none 0 0] 47)))
  have HX := Lib.hid (Ext.refl ((w.alloc (.cells #[.int .i64 (K : Int), .slice fa1 fn1 fk1, .int .i64 fbn, .slice fa3 fn3 fk3, .slice fa4 fn4 fk4, .slice fa5 fn5 fk5, .slice fa6 fn6 fk6, .slice fa7 fn7 fk7] 47)).alloc (.cells #[.int .i64 0, .slice none 0 0, .int .i64 0, .slice none 0 0, .slice none 0 0, .slice none 0 0, .slice none 0 0, .slice none 0 0] 47)))
  have HE : Hid (Ext w ((w.alloc (.cells #[.int .i64 (K : Int), .slice fa1 fn1 fk1, .int .i64 fbn, .slice fa3 fn3 fk3, .slice fa4 fn4 fk4, .slice fa5 fn5 fk5, .slice fa6 fn6 fk6, .slice fa7 fn7 fk7] 47)).alloc (.cells #[.int .i64 0, .slice none 0 0, .int .i64 0, .slice none 0 0, .slice none 0 0, .slice none 0 0, .slice none 0 0, .slice none 0 0] 47))) := Lib.hid (((Ext.refl w).alloc (.cells #[.int .i64 (K : Int), .slice fa1 fn1 fk1, .int .i64 fbn, .slice fa3 fn3 fk3, .slice fa4 fn4 fk4, .slice fa5 fn5 fk5, .slice fa6 fn6 fk6, .slice fa7 fn7 fk7] 47)).alloc (.cells #[.int .i64 0, .slice none 0 0, .int .i64 0, .slice none 0 0, .slice none 0 0, .slice none 0 0, .slice none 0 0, .slice none 0 0] 47))
  obtain ⟨hc, hf⟩ := HX.out.cells
  clear h
  go_enter Try.func43, Try.ntmps43
  go_wp2_with fail
  refine (nkind_any _ K l _ (HV.out.ext HX.out)).mono ?_
  rintro e w' ⟨rfl, hx⟩
  replace HX := Lib.hid (HX.out.trans hx)
  clear hc hf hx
  obtain ⟨hc, hf⟩ := HX.out.cells
  go_wp2
  refine bodyPost_ret (v := .tuple #[.agg #[.int .i64 (K : Int), .slice fa1 fn1 fk1, .int .i64 fbn, .slice fa3 fn3 fk3, .slice fa4 fn4 fk4, .slice fa5 fn5 fk5, .slice fa6 fn6 fk6, .slice fa7 fn7 fk7], .bool true]) (by simp [results, Try.results43, go_sem, hc]) rfl ⟨_, rfl, fun _ S hS => ?_, (fun h => absurd h (by decide)), ?_⟩
  · refine NumS.mono (S := fun i => S i ∧ i < w.heap.size) ?_ (fun i _ h => Or.inl h.1)
    repeat (refine NumS.set ?_ (by simp) _)
    exact (hS.mono (S' := fun i => S i ∧ i < w.heap.size) fun i hi h => ⟨h, hi⟩).ext (HE.out.trans HX.out)
  · repeat (first | refine Ext.setCell ?_ (by simp) _ | refine Ext.alloc ?_ _)
    exact HE.out.trans HX.out
theorem into_1 (v : Value) (K : Nat) (l : List Nat) (w : World) (h : IsNum w v K l) (hK : K ≠ 1) : Calls Try.prog 43 #[v, .int .i64 1] w (IntoS (decide (leastL l ≤ 1)) v K 1 l w) := by
  obtain ⟨f1, fn, f3, f4, f5, f6, f7, rfl⟩ := h.form
  have hk0 : ((K : Int) == 0) = false := by have := h.rng; simp; omega
  have hkk : ((K : Int) == 1) = false := by simp; omega

  have HTD := Lib.hid h.tidy
  have HLM := Lib.hid h.lim
  have HV := Lib.hid (h.ext (((Ext.refl w).alloc (.cells #[.int .i64 (K : Int), f1, .int .i64 fn, f3, f4, f5, f6, f7] 47)).alloc (.cells #[.int .i64 0, .slice none 0 0, .int .i64 0, .slice none 0 0, .slice none 0 0, .slice none 0 0, .slice none 0 0, .slice none 0 0] 47)))
  have HX := Lib.hid (Ext.refl ((w.alloc (.cells #[.int .i64 (K : Int), f1, .int .i64 fn, f3, f4, f5, f6, f7] 47)).alloc (.cells #[.int .i64 0, .slice none 0 0, .int .i64 0, .slice none 0 0, .slice none 0 0, .slice none 0 0, .slice none 0 0, .slice none 0 0] 47)))
  have HE : Hid (Ext w ((w.alloc (.cells #[.int .i64 (K : Int), f1, .int .i64 fn, f3, f4, f5, f6, f7] 47)).alloc (.cells #[.int .i64 0, .slice none 0 0, .int .i64 0, .slice none 0 0, .slice none 0 0, .slice none 0 0, .slice none 0 0, .slice none 0 0] 47))) := Lib.hid (((Ext.refl w).alloc (.cells #[.int .i64 (K : Int), f1, .int .i64 fn, f3, f4, f5, f6, f7] 47)).alloc (.cells #[.int .i64 0, .slice none 0 0, .int .i64 0, .slice none 0 0, .slice none 0 0, .slice none 0 0, .slice none 0 0, .slice none 0 0] 47))
  obtain ⟨hc, hf⟩ := HX.out.cells
  have cb := fun w h => intoBits_any (.agg #[.int .i64 (K : Int), f1, .int .i64 fn, f3, f4, f5, f6, f7]) K l w h
  clear h hK
  generalize decide (leastL l ≤ 1) = b at *
  go_enter Try.func43, Try.ntmps43
  go_wp2_with fail
  refine (nkind_any _ K l _ (HV.out.ext HX.out)).mono ?_
  rintro e w' ⟨rfl, hx⟩
  replace HX := Lib.hid (HX.out.trans hx)
  clear hc hf hx
  obtain ⟨hc, hf⟩ := HX.out.cells
  go_wp2_with fail
  refine (nclass_any _ K l _ (HV.out.ext HX.out)).mono ?_
  rintro e w' ⟨rfl, hx⟩
  replace HX := Lib.hid (HX.out.trans hx)
  clear hc hf hx
  obtain ⟨hc, hf⟩ := HX.out.cells
  go_wp2_with fail
  refine (nkind_any _ K l _ (HV.out.ext HX.out)).mono ?_
  rintro e w' ⟨rfl, hx⟩
  replace HX := Lib.hid (HX.out.trans hx)
  clear hc hf hx
  obtain ⟨hc, hf⟩ := HX.out.cells
  go_wp2_with fail
  refine (cb _ (HV.out.ext HX.out)).mono ?_
  rintro e w4 ⟨v, rfl, hv, hz, hx⟩
  have hs2 : w.heap.size + 2 ≤ w'.heap.size := by have := HX.out.size; simpa using this
  cases b
  · obtain rfl := hz rfl
    unfold zeroVec
    replace HX := Lib.hid (HX.out.trans hx)
    clear hv hz hx hc hf
    obtain ⟨hc, hf⟩ := HX.out.cells
    go_wp2
    refine bodyPost_ret (v := .tuple #[.agg #[.int .i64 0, .slice none 0 0, .int .i64 0, .slice none 0 0, .slice none 0 0, .slice none 0 0, .slice none 0 0, .slice none 0 0], .bool false]) (by simp [results, Try.results43, go_sem, hc]) rfl ⟨zeroVec, rfl, (fun h => absurd h (by decide)), fun _ => rfl, ?_⟩
    repeat (first | refine Ext.setCell ?_ (by simp) _ | refine Ext.alloc ?_ _)
    exact HE.out.trans HX.out
  · have hq := hv rfl
    obtain ⟨qa1, qn1, qk1, qbn, qa3, qn3, qk3, qa4, qn4, qk4, qa5, qn5, qk5, qa6, qn6, qk6, qa7, qn7, qk7, rfl⟩ := hq.is.shape
    have HQ := Lib.hid hq
    replace HX := Lib.hid (HX.out.trans hx)
    clear hv hz hx hc hf hq
    obtain ⟨hc, hf⟩ := HX.out.cells
    go_wp2
    refine bodyPost_ret (v := .tuple #[.agg #[.int .i64 ((1 : Nat) : Int), .slice qa1 qn1 qk1, .int .i64 qbn, .slice qa3 qn3 qk3, .slice qa4 qn4 qk4, .slice qa5 qn5 qk5, .slice qa6 qn6 qk6, .slice qa7 qn7 qk7], .bool true]) (by simp [results, Try.results43, go_sem, hc]) rfl ⟨_, rfl, fun _ S _ => ?_, (fun h => absurd h (by decide)), ?_⟩
    · refine NumS.mono (S := New w'.heap.size) ?_ (fun i _ h => Or.inr (by show w.heap.size ≤ i; have h : w'.heap.size ≤ i := h; omega))
      repeat (refine NumS.set ?_ (by show ¬ w'.heap.size ≤ _; simp; omega) _)
      exact HQ.out
    · repeat (first | refine Ext.setCell ?_ (by simp) _ | refine Ext.alloc ?_ _)
      exact HE.out.trans HX.out
theorem into_2 (v : Value) (K : Nat) (l : List Nat) (w : World) (h : IsNum w v K l) (hK : K ≠ 2) : Calls Try.prog 43 #[v, .int .i64 2] w (IntoS (decide (leastL l ≤ 2)) v K 2 l w) := by
  obtain ⟨f1, fn, f3, f4, f5, f6, f7, rfl⟩ := h.form
  have hk0 : ((K : Int) == 0) = false := by have := h.rng; simp; omega
  have hkk : ((K : Int) == 2) = false := by simp; omega

  have HTD := Lib.hid h.tidy
  have HLM := Lib.hid h.lim
  have HV := Lib.hid (h.ext (((Ext.refl w).alloc (.cells #[.int .i64 (K : Int), f1, .int .i64 fn, f3, f4, f5, f6, f7] 47)).alloc (.cells #[.int .i64 0, .slice none 0 0, .int .i64 0, .slice none 0 0, .slice none 0 0, .slice none 0 0, .slice none 0 0, .slice none 0 0] 47)))
  have HX := Lib.hid (Ext.refl ((w.alloc (.cells #[.int .i64 (K : Int), f1, .int .i64 fn, f3, f4, f5, f6, f7] 47)).alloc (.cells #[.int .i64 0, .slice none 0 0, .int .i64 0, .slice none 0 0, .slice none 0 0, .slice none 0 0, .slice none 0 0, .slice none 0 0] 47)))
  have HE : Hid (Ext w ((w.alloc (.cells #[.int .i64 (K : Int), f1, .int .i64 fn, f3, f4, f5, f6, f7] 47)).alloc (.cells #[.int .i64 0, .slice none 0 0, .int .i64 0, .slice none 0 0, .slice none 0 0, .slice none 0 0, .slice none 0 0, .slice none 0 0] 47))) := Lib.hid (((Ext.refl w).alloc (.cells #[.int .i64 (K : Int), f1, .int .i64 fn, f3, f4, f5, f6, f7] 47)).alloc (.cells #[.int .i64 0, .slice none 0 0, .int .i64 0, .slice none 0 0, .slice none 0 0, .slice none 0 0, .slice none 0 0, .slice none 0 0] 47))
  obtain ⟨hc, hf⟩ := HX.out.cells
  have cb := fun w h => intoSmalls_any (.agg #[.int .i64 (K : Int), f1, .int .i64 fn, f3, f4, f5, f6, f7]) K l w h
  clear h hK
  generalize decide (leastL l ≤ 2) = b at *
  go_enter Try.func43, Try.ntmps43
  go_wp2_with fail
  refine (nkind_any _ K l _ (HV.out.ext HX.out)).mono ?_
  rintro e w' ⟨rfl, hx⟩
  replace HX := Lib.hid (HX.out.trans hx)
  clear hc hf hx
  obtain ⟨hc, hf⟩ := HX.out.cells
  go_wp2_with fail
  refine (nclass_any _ K l _ (HV.out.ext HX.out)).mono ?_
  rintro e w' ⟨rfl, hx⟩
  replace HX := Lib.hid (HX.out.trans hx)
  clear hc hf hx
  obtain ⟨hc, hf⟩ := HX.out.cells
  go_wp2_with fail
  refine (nkind_any _ K l _ (HV.out.ext HX.out)).mono ?_
  rintro e w' ⟨rfl, hx⟩
  replace HX := Lib.hid (HX.out.trans hx)
  clear hc hf hx
  obtain ⟨hc, hf⟩ := HX.out.cells
  go_wp2_with fail
  refine (cb _ (HV.out.ext HX.out)).mono ?_
  rintro e w4 ⟨v, rfl, hv, hz, hx⟩
  have hs2 : w.heap.size + 2 ≤ w'.heap.size := by have := HX.out.size; simpa using this
  cases b
  · obtain rfl := hz rfl
    unfold zeroVec
    replace HX := Lib.hid (HX.out.trans hx)
    clear hv hz hx hc hf
    obtain ⟨hc, hf⟩ := HX.out.cells
    go_wp2
    refine bodyPost_ret (v := .tuple #[.agg #[.int .i64 0, .slice none 0 0, .int .i64 0, .slice none 0 0, .slice none 0 0, .slice none 0 0, .slice none 0 0, .slice none 0 0], .bool false]) (by simp [results, Try.results43, go_sem, hc]) rfl ⟨zeroVec, rfl, (fun h => absurd h (by decide)), fun _ => rfl, ?_⟩
    repeat (first | refine Ext.setCell ?_ (by simp) _ | refine Ext.alloc ?_ _)
    exact HE.out.trans HX.out
  · have hq := hv rfl
    obtain ⟨qa1, qn1, qk1, qbn, qa3, qn3, qk3, qa4, qn4, qk4, qa5, qn5, qk5, qa6, qn6, qk6, qa7, qn7, qk7, rfl⟩ := hq.is.shape
    have HQ := Lib.hid hq
    replace HX := Lib.hid (HX.out.trans hx)
    clear hv hz hx hc hf hq
    obtain ⟨hc, hf⟩ := HX.out.cells
    go_wp2
    refine bodyPost_ret (v := .tuple #[.agg #[.int .i64 ((2 : Nat) : Int), .slice qa1 qn1 qk1, .int .i64 qbn, .slice qa3 qn3 qk3, .slice qa4 qn4 qk4, .slice qa5 qn5 qk5, .slice qa6 qn6 qk6, .slice qa7 qn7 qk7], .bool true]) (by simp [results, Try.results43, go_sem, hc]) rfl ⟨_, rfl, fun _ S _ => ?_, (fun h => absurd h (by decide)), ?_⟩
    · refine NumS.mono (S := New w'.heap.size) ?_ (fun i _ h => Or.inr (by show w.heap.size ≤ i; have h : w'.heap.size ≤ i := h; omega))
      repeat (refine NumS.set ?_ (by show ¬ w'.heap.size ≤ _; simp; omega) _)
      exact HQ.out
    · repeat (first | refine Ext.setCell ?_ (by simp) _ | refine Ext.alloc ?_ _)
      exact HE.out.trans HX.out
theorem into_3 (v : Value) (K : Nat) (l : List Nat) (w : World) (h : IsNum w v K l) (hK : K ≠ 3) : Calls Try.prog 43 #[v, .int .i64 3] w (IntoS (allW l) v K 3 l w) := by
  obtain ⟨f1, fn, f3, f4, f5, f6, f7, rfl⟩ := h.form
  have hk0 : ((K : Int) == 0) = false := by have := h.rng; simp; omega
  have hkk : ((K : Int) == 3) = false := by simp; omega

  have HTD := Lib.hid h.tidy
  have HLM := Lib.hid h.lim
  have HV := Lib.hid (h.ext (((Ext.refl w).alloc (.cells #[.int .i64 (K : Int), f1, .int .i64 fn, f3, f4, f5, f6, f7] 47)).alloc (.cells #[.int .i64 0, .slice none 0 0, .int .i64 0, .slice none 0 0, .slice none 0 0, .slice none 0 0, .slice none 0 0, .slice none 0 0] 47)))
  have HX := Lib.hid (Ext.refl ((w.alloc (.cells #[.int .i64 (K : Int), f1, .int .i64 fn, f3, f4, f5, f6, f7] 47)).alloc (.cells #[.int .i64 0, .slice none 0 0, .int .i64 0, .slice none 0 0, .slice none 0 0, .slice none 0 0, .slice none 0 0, .slice none 0 0] 47)))
  have HE : Hid (Ext w ((w.alloc (.cells #[.int .i64 (K : Int), f1, .int .i64 fn, f3, f4, f5, f6, f7] 47)).alloc (.cells #[.int .i64 0, .slice none 0 0, .int .i64 0, .slice none 0 0, .slice none 0 0, .slice none 0 0, .slice none 0 0, .slice none 0 0] 47))) := Lib.hid (((Ext.refl w).alloc (.cells #[.int .i64 (K : Int), f1, .int .i64 fn, f3, f4, f5, f6, f7] 47)).alloc (.cells #[.int .i64 0, .slice none 0 0, .int .i64 0, .slice none 0 0, .slice none 0 0, .slice none 0 0, .slice none 0 0, .slice none 0 0] 47))
  obtain ⟨hc, hf⟩ := HX.out.cells
  obtain ⟨b, hb⟩ : ∃ b, allW l = b := ⟨_, rfl⟩
  have cb := fun w h => sqwholes_any (.agg #[.int .i64 (K : Int), f1, .int .i64 fn, f3, f4, f5, f6, f7]) K l w h
  rw [hb] at cb ⊢
  have HB := Lib.hid hb
  clear h hK hb
  go_enter Try.func43, Try.ntmps43
  go_wp2_with fail
  refine (nkind_any _ K l _ (HV.out.ext HX.out)).mono ?_
  rintro e w' ⟨rfl, hx⟩
  replace HX := Lib.hid (HX.out.trans hx)
  clear hc hf hx
  obtain ⟨hc, hf⟩ := HX.out.cells
  go_wp2_with fail
  refine (nclass_any _ K l _ (HV.out.ext HX.out)).mono ?_
  rintro e w' ⟨rfl, hx⟩
  replace HX := Lib.hid (HX.out.trans hx)
  clear hc hf hx
  obtain ⟨hc, hf⟩ := HX.out.cells
  go_wp2_with fail
  refine (nkind_any _ K l _ (HV.out.ext HX.out)).mono ?_
  rintro e w' ⟨rfl, hx⟩
  replace HX := Lib.hid (HX.out.trans hx)
  clear hc hf hx
  obtain ⟨hc, hf⟩ := HX.out.cells
  go_wp2_with fail
  refine (cb _ (HV.out.ext HX.out)).mono ?_
  rintro e w4 ⟨B, cb1, rfl, ho, hx⟩
  have hs2 : w.heap.size + 2 ≤ w'.heap.size := by have := HX.out.size; simpa using this
  replace HX := Lib.hid (HX.out.trans hx)
  clear hc hf
  obtain ⟨hc, hf⟩ := HX.out.cells
  cases b
  · rw [if_neg (by decide)]
    clear ho hx
    go_wp2
    refine bodyPost_ret (v := .tuple #[.agg #[.int .i64 0, .slice none 0 0, .int .i64 0, .slice none 0 0, .slice none 0 0, .slice none 0 0, .slice none 0 0, .slice none 0 0], .bool false]) (by simp [results, Try.results43, go_sem, hc]) rfl ⟨zeroVec, rfl, (fun h => absurd h (by decide)), fun _ => rfl, ?_⟩
    repeat (first | refine Ext.setCell ?_ (by simp) _ | refine Ext.alloc ?_ _)
    exact HE.out.trans HX.out
  · rw [if_pos rfl]
    have ci := vints_own B (toI l) l.length (toI_length l).symm cb1 w4 HLM.out (Sl.own (ho rfl))
    rw [allG_toI HB.out] at ci
    have hs4 : w'.heap.size ≤ w4.heap.size := hx.size
    clear ho hx
    go_wp2_with fail
    refine ci.mono ?_
    rintro e w5 ⟨B2, cb2, rfl, ho, hx⟩
    have hq : NumS w5 (.agg #[.int .i64 3, .slice none 0 0, .int .i64 0, .slice none 0 0, .slice B2 l.length cb2, .slice none 0 0, .slice none 0 0, .slice none 0 0]) 3 l (New w4.heap.size) := by
      refine NumS.mk (IsNum.mk3 ?_ HTD.out HB.out) (In.one (A := B2) (n := l.length) (c := cb2) (fun a ha => ?_) (.inr rfl) ⟨_, rfl⟩ (.inr rfl) (.inl rfl) (.inr rfl) (.inr rfl) (.inr rfl))
      · exact isvec_ints (toI_length l).symm HLM.out (toI_G HB.out) (Sl.own (ho rfl))
      · obtain ⟨A', c', e', _, hA⟩ := own_form (ho rfl)
        cases e'
        exact (hA a ha).1
    have HQ := Lib.hid hq
    replace HX := Lib.hid (HX.out.trans hx)
    clear ho hx hc hf hq ci
    obtain ⟨hc, hf⟩ := HX.out.cells
    go_wp2
    refine bodyPost_ret (v := .tuple #[.agg #[.int .i64 3, .slice none 0 0, .int .i64 0, .slice none 0 0, .slice B2 l.length cb2, .slice none 0 0, .slice none 0 0, .slice none 0 0], .bool true]) (by simp [results, Try.results43, go_sem, hc]) rfl ⟨_, rfl, fun _ S _ => ?_, (fun h => absurd h (by decide)), ?_⟩
    · refine NumS.mono (S := New w4.heap.size) ?_ (fun i _ h => Or.inr (by show w.heap.size ≤ i; have h : w4.heap.size ≤ i := h; omega))
      repeat (refine NumS.set ?_ (by show ¬ w4.heap.size ≤ _; simp; omega) _)
      exact HQ.out
    · repeat (first | refine Ext.setCell ?_ (by simp) _ | refine Ext.alloc ?_ _)
      exact HE.out.trans HX.out
theorem into_4 (v : Value) (K : Nat) (l : List Nat) (w : World) (h : IsNum w v K l) (hK : K ≠ 4) : Calls Try.prog 43 #[v, .int .i64 4] w (IntoS true v K 4 l w) := by
  obtain ⟨f1, fn, f3, f4, f5, f6, f7, rfl⟩ := h.form
  have hk0 : ((K : Int) == 0) = false := by have := h.rng; simp; omega
  have hkk : ((K : Int) == 4) = false := by simp; omega

  have HTD := Lib.hid h.tidy
  have HLM := Lib.hid h.lim
  have HV := Lib.hid (h.ext (((Ext.refl w).alloc (.cells #[.int .i64 (K : Int), f1, .int .i64 fn, f3, f4, f5, f6, f7] 47)).alloc (.cells #[.int .i64 0, .slice none 0 0, .int .i64 0, .slice none 0 0, .slice none 0 0, .slice none 0 0, .slice none 0 0, .slice none 0 0] 47)))
  have HX := Lib.hid (Ext.refl ((w.alloc (.cells #[.int .i64 (K : Int), f1, .int .i64 fn, f3, f4, f5, f6, f7] 47)).alloc (.cells #[.int .i64 0, .slice none 0 0, .int .i64 0, .slice none 0 0, .slice none 0 0, .slice none 0 0, .slice none 0 0, .slice none 0 0] 47)))
  have HE : Hid (Ext w ((w.alloc (.cells #[.int .i64 (K : Int), f1, .int .i64 fn, f3, f4, f5, f6, f7] 47)).alloc (.cells #[.int .i64 0, .slice none 0 0, .int .i64 0, .slice none 0 0, .slice none 0 0, .slice none 0 0, .slice none 0 0, .slice none 0 0] 47))) := Lib.hid (((Ext.refl w).alloc (.cells #[.int .i64 (K : Int), f1, .int .i64 fn, f3, f4, f5, f6, f7] 47)).alloc (.cells #[.int .i64 0, .slice none 0 0, .int .i64 0, .slice none 0 0, .slice none 0 0, .slice none 0 0, .slice none 0 0, .slice none 0 0] 47))
  obtain ⟨hc, hf⟩ := HX.out.cells
  have cb := fun w h => nnums_any (.agg #[.int .i64 (K : Int), f1, .int .i64 fn, f3, f4, f5, f6, f7]) K l w h
  clear h hK
  go_enter Try.func43, Try.ntmps43
  go_wp2_with fail
  refine (nkind_any _ K l _ (HV.out.ext HX.out)).mono ?_
  rintro e w' ⟨rfl, hx⟩
  replace HX := Lib.hid (HX.out.trans hx)
  clear hc hf hx
  obtain ⟨hc, hf⟩ := HX.out.cells
  go_wp2_with fail
  refine (nclass_any _ K l _ (HV.out.ext HX.out)).mono ?_
  rintro e w' ⟨rfl, hx⟩
  replace HX := Lib.hid (HX.out.trans hx)
  clear hc hf hx
  obtain ⟨hc, hf⟩ := HX.out.cells
  go_wp2_with fail
  refine (nkind_any _ K l _ (HV.out.ext HX.out)).mono ?_
  rintro e w' ⟨rfl, hx⟩
  replace HX := Lib.hid (HX.out.trans hx)
  clear hc hf hx
  obtain ⟨hc, hf⟩ := HX.out.cells
  go_wp2_with fail
  refine (cb _ (HV.out.ext HX.out)).mono ?_
  rintro e w4 ⟨v, rfl, ho, hx⟩
  obtain ⟨B, cb1, rfl, -, -⟩ := own_form ho
  have hs2 : w.heap.size + 2 ≤ w'.heap.size := by have := HX.out.size; simpa using this
  have hs4 : w'.heap.size ≤ w4.heap.size := hx.size
  replace HX := Lib.hid (HX.out.trans hx)
  have ci := vfloats_own B l l.length rfl cb1 w4 HLM.out (Sl.own ho)
  rw [allF_tidy HTD.out] at ci
  clear hc hf ho hx
  obtain ⟨hc, hf⟩ := HX.out.cells
  go_wp2_with fail
  refine ci.mono ?_
  rintro e w5 ⟨B2, cb2, rfl, ho, hx⟩
  rw [dnL_tidy_eq HTD.out] at ho
  have hq : NumS w5 (.agg #[.int .i64 4, .slice none 0 0, .int .i64 0, .slice none 0 0, .slice none 0 0, .slice B2 l.length cb2, .slice none 0 0, .slice none 0 0]) 4 l (New w4.heap.size) := by
    refine NumS.mk (IsNum.mk4 ?_) (In.one (A := B2) (n := l.length) (c := cb2) (fun a ha => ?_) (.inr rfl) ⟨_, rfl⟩ (.inr rfl) (.inr rfl) (.inl rfl) (.inr rfl) (.inr rfl))
    · exact isvec_floats rfl HLM.out HTD.out (Sl.own (ho rfl))
    · obtain ⟨A', c', e', _, hA⟩ := own_form (ho rfl)
      cases e'
      exact (hA a ha).1
  have HQ := Lib.hid hq
  replace HX := Lib.hid (HX.out.trans hx)
  clear ho hx hc hf hq ci
  obtain ⟨hc, hf⟩ := HX.out.cells
  go_wp2
  refine bodyPost_ret (v := .tuple #[.agg #[.int .i64 4, .slice none 0 0, .int .i64 0, .slice none 0 0, .slice none 0 0, .slice B2 l.length cb2, .slice none 0 0, .slice none 0 0], .bool true]) (by simp [results, Try.results43, go_sem, hc]) rfl ⟨_, rfl, fun _ S _ => ?_, (fun h => absurd h (by decide)), ?_⟩
  · refine NumS.mono (S := New w4.heap.size) ?_ (fun i _ h => Or.inr (by show w.heap.size ≤ i; have h : w4.heap.size ≤ i := h; omega))
    repeat (refine NumS.set ?_ (by show ¬ w4.heap.size ≤ _; simp; omega) _)
    exact HQ.out
  · repeat (first | refine Ext.setCell ?_ (by simp) _ | refine Ext.alloc ?_ _)
    exact HE.out.trans HX.out
theorem into_other (v : Value) (K : Nat) (l : List Nat) (kind : Int) (w : World) (h : IsNum w v K l) (hk : ¬ (1 ≤ kind ∧ kind ≤ 4)) : Calls Try.prog 43 #[v, .int .i64 kind] w (IntoS false v K kind.toNat l w) := by
  obtain ⟨f1, fn, f3, f4, f5, f6, f7, rfl⟩ := h.form
  have hk0 : ((K : Int) == 0) = false := by have := h.rng; simp; omega
  have hkk : ((K : Int) == kind) = false := by have := h.rng; simp; omega
  have e1 : (kind == 1) = false := by simp; omega
  have e2 : (kind == 2) = false := by simp; omega
  have e3 : (kind == 3) = false := by simp; omega
  have e4 : (kind == 4) = false := by simp; omega

  have HTD := Lib.hid h.tidy
  have HLM := Lib.hid h.lim
  have HV := Lib.hid (h.ext (((Ext.refl w).alloc (.cells #[.int .i64 (K : Int), f1, .int .i64 fn, f3, f4, f5, f6, f7] 47)).alloc (.cells #[.int .i64 0, .slice none 0 0, .int .i64 0, .slice none 0 0, .slice none 0 0, .slice none 0 0, .slice none 0 0, .slice none 0 0] 47)))
  have HX := Lib.hid (Ext.refl ((w.alloc (.cells #[.int .i64 (K : Int), f1, .int .i64 fn, f3, f4, f5, f6, f7] 47)).alloc (.cells #[.int .i64 0, .slice none 0 0, .int .i64 0, .slice none 0 0, .slice none 0 0, .slice none 0 0, .slice none 0 0, .slice none 0 0] 47)))
  have HE : Hid (Ext w ((w.alloc (.cells #[.int .i64 (K : Int), f1, .int .i64 fn, f3, f4, f5, f6, f7] 47)).alloc (.cells #[.int .i64 0, .slice none 0 0, .int .i64 0, .slice none 0 0, .slice none 0 0, .slice none 0 0, .slice none 0 0, .slice none 0 0] 47))) := Lib.hid (((Ext.refl w).alloc (.cells #[.int .i64 (K : Int), f1, .int .i64 fn, f3, f4, f5, f6, f7] 47)).alloc (.cells #[.int .i64 0, .slice none 0 0, .int .i64 0, .slice none 0 0, .slice none 0 0, .slice none 0 0, .slice none 0 0, .slice none 0 0] 47))
  obtain ⟨hc, hf⟩ := HX.out.cells
  clear h hk
  go_enter Try.func43, Try.ntmps43
  go_wp2_with fail
  refine (nkind_any _ K l _ (HV.out.ext HX.out)).mono ?_
  rintro e w' ⟨rfl, hx⟩
  replace HX := Lib.hid (HX.out.trans hx)
  clear hc hf hx
  obtain ⟨hc, hf⟩ := HX.out.cells
  go_wp2_with fail
  refine (nclass_any _ K l _ (HV.out.ext HX.out)).mono ?_
  rintro e w' ⟨rfl, hx⟩
  replace HX := Lib.hid (HX.out.trans hx)
  clear hc hf hx
  obtain ⟨hc, hf⟩ := HX.out.cells
  go_wp2_with fail
  refine (nkind_any _ K l _ (HV.out.ext HX.out)).mono ?_
  rintro e w' ⟨rfl, hx⟩
  replace HX := Lib.hid (HX.out.trans hx)
  clear hc hf hx
  obtain ⟨hc, hf⟩ := HX.out.cells
  go_wp2
  refine bodyPost_ret (v := .tuple #[.agg #[.int .i64 0, .slice none 0 0, .int .i64 0, .slice none 0 0, .slice none 0 0, .slice none 0 0, .slice none 0 0, .slice none 0 0], .bool false]) (by simp [results, Try.results43, go_sem, hc]) rfl ⟨zeroVec, rfl, (fun h => absurd h (by decide)), fun _ => rfl, ?_⟩
  repeat (first | refine Ext.setCell ?_ (by simp) _ | refine Ext.alloc ?_ _)
  exact HE.out.trans HX.out

/-- numbers brought into a store -/
theorem into_num (v : Value) (K : Nat) (l : List Nat) (kind : Int) (w : World) (h : IsNum w v K l) : Calls Try.prog 43 #[v, .int .i64 kind] w (IntoS (fitsL l kind) v K kind.toNat l w) := by
  have hr := h.rng
  have hle := h.least
  by_cases hk : 1 ≤ kind ∧ kind ≤ 4
  · obtain ⟨k, rfl⟩ := Int.eq_ofNat_of_zero_le (show 0 ≤ kind by omega)
    rw [Int.toNat_natCast, fits_leq (by omega)]
    by_cases hkK : K = k
    · subst hkK
      rw [decide_eq_true hle]
      exact into_same v K l w h
    · have hk' : k = 1 ∨ k = 2 ∨ k = 3 ∨ k = 4 := by omega
      rcases hk' with rfl | rfl | rfl | rfl
      · exact into_1 v K l w h hkK
      · exact into_2 v K l w h hkK
      · have e : decide (leastL l ≤ 3) = allW l := by rw [Bool.eq_iff_iff, decide_eq_true_eq]; exact leastL_le3
        rw [e]
        exact into_3 v K l w h hkK
      · rw [decide_eq_true (leastL_le l)]
        exact into_4 v K l w h hkK
  · have e : fitsL l kind = false := decide_eq_false (by have := leastL_ge l; omega)
    rw [e]
    exact into_other v K l kind w h hk
end Go.Proofs.Ytdkgiklbmbkdaaa
