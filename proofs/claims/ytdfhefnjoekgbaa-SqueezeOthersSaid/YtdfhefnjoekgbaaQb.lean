/- Numbers in whatever store: one word for them, and its contracts. -/
import Derived.Test.YtdfhefnjoekgbaaQa
namespace Go.Proofs.Ytdfhefnjoekgbaa
open Go.RowKit Bv Fl

theorem cell_ext {w w' : World} {p : Addr} {u : Value} (hx : Ext w w') (h : w.cell? p = some u) : w'.cell? p = some u := (Below.cell hx (World.block_lt_of_cell? _ _ h)).trans h
/-- a struct of eight cells lies there -/
def St (w : World) (B : Nat) (c0 c1 c2 c3 c4 c5 c6 c7 : Value) : Prop :=
  w.cell? ⟨B, 0, none⟩ = some c0 ∧ w.cell? ⟨B, 1, none⟩ = some c1 ∧ w.cell? ⟨B, 2, none⟩ = some c2 ∧ w.cell? ⟨B, 3, none⟩ = some c3 ∧ w.cell? ⟨B, 4, none⟩ = some c4 ∧ w.cell? ⟨B, 5, none⟩ = some c5 ∧ w.cell? ⟨B, 6, none⟩ = some c6 ∧ w.cell? ⟨B, 7, none⟩ = some c7
theorem St.new (w : World) (c0 c1 c2 c3 c4 c5 c6 c7 : Value) (t : TypeId) : St (w.alloc (.cells #[c0, c1, c2, c3, c4, c5, c6, c7] t)) w.heap.size c0 c1 c2 c3 c4 c5 c6 c7 := by
  simp [St, World.cell?_alloc_new]
theorem St.ext {w w' : World} {B : Nat} {c0 c1 c2 c3 c4 c5 c6 c7 : Value} (h : St w B c0 c1 c2 c3 c4 c5 c6 c7) (hx : Ext w w') : St w' B c0 c1 c2 c3 c4 c5 c6 c7 :=
  ⟨cell_ext hx h.1, cell_ext hx h.2.1, cell_ext hx h.2.2.1, cell_ext hx h.2.2.2.1, cell_ext hx h.2.2.2.2.1, cell_ext hx h.2.2.2.2.2.1, cell_ext hx h.2.2.2.2.2.2.1, cell_ext hx h.2.2.2.2.2.2.2⟩
theorem bitW_tidy (b : Bool) : tidy (bitW b) := by
  cases b
  · exact ⟨by decide, by decide, fun _ => rfl⟩
  · exact ⟨by decide, by decide, fun h => absurd h (by decide)⟩
theorem IsVec.num_tidy {w : World} {v : Value} {d : VD} (h : IsVec w v d) (hc : d.cls = 0) {k : Nat} (hk : k < d.len) : tidy (d.num k) := by
  rcases h with ⟨rfl, _⟩ | ⟨l, A, c, rfl, _⟩ | ⟨l, A, c, rfl, _, hb, _⟩ | ⟨l, A, c, rfl, _, hb, _⟩ | ⟨l, A, c, rfl, _, hb, _⟩ | ⟨l, A, c, rfl, _⟩ | ⟨n, cs, A, c, rfl, _⟩
  · exact absurd hk (Nat.not_lt_zero _)
  · exact bitW_tidy _
  · have hk : k < l.length := hk
    have h1 := hb _ (getD_mem hk)
    exact fi_tidy (n := l.getD k 0) (by omega) (by omega)
  · have hk : k < l.length := hk
    have := hb _ (getD_mem hk)
    exact fi_tidy this.1 this.2
  · have hk : k < l.length := hk
    exact hb _ (getD_memN hk)
  · exact absurd hc (by show ¬ (1 = 0); omega)
  · exact absurd hc (by show ¬ (2 = 0); omega)
theorem bitW_fi (b : Bool) : bitW b = fi (if b then 1 else 0) := by cases b <;> kernel_rfl
theorem VD.nums_get (d : VD) {k : Nat} (h : k < d.len) : d.nums.getD k 0 = d.num k := by simp [VD.nums, List.getD, h]
theorem VD.nums_length (d : VD) : d.nums.length = d.len := by simp [VD.nums]
theorem VD.whls_length (d : VD) : d.whls.length = d.len := by simp [VD.whls]

/-- numbers l, in store k -/
def IsNum (w : World) (v : Value) (k : Nat) (l : List Nat) : Prop := ∃ d, IsVec w v d ∧ d.kind = k ∧ 1 ≤ k ∧ k ≤ 4 ∧ d.nums = l
section
variable {w w' : World} {v : Value} {k : Nat} {l : List Nat}
theorem IsNum.ext (h : IsNum w v k l) (hx : Ext w w') : IsNum w' v k l := by
  obtain ⟨d, hv, h1⟩ := h
  exact ⟨d, hv.ext hx, h1⟩
theorem IsNum.rng (h : IsNum w v k l) : 1 ≤ k ∧ k ≤ 4 := by
  obtain ⟨d, _, _, h1, h2, _⟩ := h
  exact ⟨h1, h2⟩
theorem VD.cls_num {d : VD} (h : d.kind ≤ 4) : d.cls = 0 := by
  unfold VD.cls
  split
  · omega
  · omega
  · rfl
theorem VD.isWhl_num {d : VD} (h1 : 1 ≤ d.kind) (h : d.kind ≤ 3) : d.isWhl = true := by
  have e : d.kind = 1 ∨ d.kind = 2 ∨ d.kind = 3 := by omega
  unfold VD.isWhl
  rcases e with e | e | e <;> (rw [e]; rfl)
theorem VD.isWhl_not {d : VD} (h : d.kind = 4) : d.isWhl = false := by
  unfold VD.isWhl
  split
  · omega
  · omega
  · omega
  · rfl
theorem IsNum.lim (h : IsNum w v k l) : l.length ≤ 1048576 := by
  obtain ⟨d, hv, _, _, _, rfl⟩ := h
  rw [VD.nums_length]; exact hv.lim
theorem IsNum.tidy (h : IsNum w v k l) : ∀ x ∈ l, Fl.tidy x := by
  obtain ⟨d, hv, hk, _, h4, rfl⟩ := h
  intro x hx
  obtain ⟨i, hi, rfl⟩ := List.mem_map.1 hx
  exact hv.num_tidy (VD.cls_num (by omega)) (by simpa using hi)
theorem IsNum.shape (h : IsNum w v k l) : ∃ a1 n1 k1 bn a3 n3 k3 a4 n4 k4 a5 n5 k5 a6 n6 k6 a7 n7 k7, v = .agg #[.int .i64 (k : Int), .slice a1 n1 k1, .int .i64 bn, .slice a3 n3 k3, .slice a4 n4 k4, .slice a5 n5 k5, .slice a6 n6 k6, .slice a7 n7 k7] := by
  obtain ⟨d, hv, rfl, _⟩ := h
  exact hv.shape
theorem IsNum.form (h : IsNum w v k l) : ∃ c1 bn c3 c4 c5 c6 c7, v = .agg #[.int .i64 (k : Int), c1, .int .i64 bn, c3, c4, c5, c6, c7] := by
  obtain ⟨a1, n1, k1, bn, a3, n3, k3, a4, n4, k4, a5, n5, k5, a6, n6, k6, a7, n7, k7, rfl⟩ := h.shape
  exact ⟨_, _, _, _, _, _, _, rfl⟩
theorem VD.whl_num {w : World} {v : Value} {d : VD} (h : IsVec w v d) (hw : d.isWhl = true) {j : Nat} (hj : j < d.len) : G (d.whl j) ∧ d.num j = fi (d.whl j) := by
  rcases h with ⟨rfl, _⟩ | ⟨l, A, c, rfl, _⟩ | ⟨l, A, c, rfl, _, hb, _⟩ | ⟨l, A, c, rfl, _, hb, _⟩ | ⟨l, A, c, rfl, _, hb, _⟩ | ⟨l, A, c, rfl, _⟩ | ⟨n, cs, A, c, rfl, _⟩
  · exact absurd (show false = true from hw) (by decide)
  · refine ⟨?_, bitW_fi _⟩
    show G (if l.getD j false then 1 else 0)
    split <;> (unfold G; omega)
  · have hj : j < l.length := hj
    have h1 := hb _ (getD_mem hj)
    refine ⟨?_, rfl⟩
    show G (l.getD j 0)
    unfold G; omega
  · have hj : j < l.length := hj
    exact ⟨hb _ (getD_mem hj), rfl⟩
  · exact absurd (show false = true from hw) (by decide)
  · exact absurd (show false = true from hw) (by decide)
  · exact absurd (show false = true from hw) (by decide)
theorem IsNum.whole (h : IsNum w v k l) (hk : k ≤ 3) {j : Nat} (hj : j < l.length) : Fl.whole (l.getD j 0) := by
  obtain ⟨d, hv, rfl, h1, _, rfl⟩ := h
  rw [VD.nums_length] at hj
  have := VD.whl_num hv (VD.isWhl_num h1 hk) hj
  rw [VD.nums_get d hj, this.2]
  exact whole_fi this.1.1 this.1.2
theorem IsNum.least (h : IsNum w v k l) : leastL l ≤ k := by
  have ht := h.tidy
  by_cases h3 : k ≤ 3
  · have hw := fun {j} (hj : j < l.length) => h.whole h3 hj
    obtain ⟨d, hv, rfl, h1, _, rfl⟩ := h
    rcases hv with ⟨rfl, _⟩ | ⟨l, A, c, rfl, _⟩ | ⟨l, A, c, rfl, _, hb, _⟩ | ⟨l, A, c, rfl, _, hb, _⟩ | ⟨l, A, c, rfl, _, hb, _⟩ | ⟨l, A, c, rfl, _⟩ | ⟨n, cs, A, c, rfl, _⟩
    · exact absurd h1 (by decide)
    · rw [show (VD.bits l).kind = 1 from rfl, leastL_le1 ht]
      intro j hj
      rw [VD.nums_length] at hj
      rw [VD.nums_get _ hj]
      show bitW (l.getD j false) = 0 ∨ bitW (l.getD j false) = _
      cases l.getD j false
      · exact .inl rfl
      · exact .inr rfl
    · rw [show (VD.smalls l).kind = 2 from rfl, leastL_le2]
      intro j hj
      refine ⟨hw hj, ?_⟩
      have h9 := hw hj
      rw [VD.nums_length] at hj
      have hj' : j < l.length := hj
      have h2 := hb _ (getD_mem hj')
      rw [wn_whole h9, VD.nums_get _ hj]
      show -128 ≤ trn (fi (l.getD j 0)) ∧ trn (fi (l.getD j 0)) ≤ 127
      rw [trn_fi (by omega) (by omega)]
      exact h2
    · rw [show (VD.ints l).kind = 3 from rfl, leastL_le3, allW_iff]
      intro j hj
      exact hw hj
    · exact absurd h3 (by show ¬ (4 ≤ 3); omega)
    · exact absurd h3 (by show ¬ (5 ≤ 3); omega)
    · exact absurd h3 (by show ¬ (6 ≤ 3); omega)
  · have := leastL_le l
    omega

theorem IsNum.mk1 (h : IsVec w v (VD.bits (toB l))) (ht : ∀ x ∈ l, Fl.tidy x) (hf : leastL l ≤ 1) : IsNum w v 1 l := by
  refine ⟨_, h, rfl, by omega, by omega, ?_⟩
  refine ext_getD (by rw [VD.nums_length]; exact toB_length l) fun j hj => ?_
  rw [VD.nums_length] at hj
  have hj' : j < l.length := by rw [← toB_length]; exact hj
  rw [VD.nums_get _ hj]
  show bitW ((toB l).getD j false) = _
  rw [toB_get hj']
  rcases (leastL_le1 ht).1 hf j hj' with e | e <;> rw [e] <;> rfl
theorem IsNum.mk2 (h : IsVec w v (VD.smalls (toI l))) (ht : ∀ x ∈ l, Fl.tidy x) (hf : leastL l ≤ 2) : IsNum w v 2 l := by
  refine ⟨_, h, rfl, by omega, by omega, ?_⟩
  refine ext_getD (by rw [VD.nums_length]; exact toI_length l) fun j hj => ?_
  rw [VD.nums_length] at hj
  have hj' : j < l.length := by rw [← toI_length]; exact hj
  rw [VD.nums_get _ hj]
  show fi ((toI l).getD j 0) = _
  rw [toI_get hj', ← whole_tidy (leastL_le2.1 hf j hj').1 (ht _ (getD_memN hj'))]
theorem IsNum.mk3 (h : IsVec w v (VD.ints (toI l))) (ht : ∀ x ∈ l, Fl.tidy x) (hf : allW l = true) : IsNum w v 3 l := by
  refine ⟨_, h, rfl, by omega, by omega, ?_⟩
  refine ext_getD (by rw [VD.nums_length]; exact toI_length l) fun j hj => ?_
  rw [VD.nums_length] at hj
  have hj' : j < l.length := by rw [← toI_length]; exact hj
  rw [VD.nums_get _ hj]
  show fi ((toI l).getD j 0) = _
  rw [toI_get hj', ← whole_tidy (allW_iff.1 hf j hj') (ht _ (getD_memN hj'))]
theorem IsNum.mk4 (h : IsVec w v (VD.floats l)) : IsNum w v 4 l := by
  refine ⟨_, h, rfl, by omega, by omega, ?_⟩
  refine ext_getD (by rw [VD.nums_length]; rfl) fun j hj => ?_
  rw [VD.nums_length] at hj
  rw [VD.nums_get _ hj]
  rfl

/-- the number at a place, 0 where there is none -/
def numL (l : List Nat) (i : Int) : Nat := if 0 ≤ i ∧ i < (l.length : Int) then l.getD i.toNat 0 else 0
theorem nkind_any (v : Value) (k : Nat) (l : List Nat) (w : World) (h : IsNum w v k l) : Calls Try.prog 18 #[v] w fun e w' => e = .returned (.int .i64 (k : Int)) ∧ Ext w w' := by
  obtain ⟨d, hv, rfl, _⟩ := h
  exact vkind_any v d w hv
theorem nclass_any (v : Value) (k : Nat) (l : List Nat) (w : World) (h : IsNum w v k l) : Calls Try.prog 56 #[v] w fun e w' => e = .returned (.int .i64 0) ∧ Ext w w' := by
  obtain ⟨d, hv, rfl, _, h4, _⟩ := h
  have := vclass_any v d w hv
  rw [VD.cls_num h4] at this
  exact this
theorem nlen_any (v : Value) (k : Nat) (l : List Nat) (w : World) (h : IsNum w v k l) : Calls Try.prog 30 #[v] w fun e w' => e = .returned (.int .i64 (l.length : Int)) ∧ Ext w w' := by
  obtain ⟨d, hv, rfl, _, _, rfl⟩ := h
  rw [VD.nums_length]
  exact vlen_any v d w hv
theorem nnum_any (v : Value) (k : Nat) (l : List Nat) (i : Int) (w : World) (h : IsNum w v k l) : Calls Try.prog 62 #[v, .int .i64 i] w fun e w' => e = .returned (.float .f64 (numL l i)) ∧ Ext w w' := by
  obtain ⟨d, hv, rfl, _, _, rfl⟩ := h
  have := vnum_any v d i w hv
  unfold VD.numI at this
  unfold numL
  rw [VD.nums_length]
  by_cases hi : 0 ≤ i ∧ i < (d.len : Int)
  · rw [if_pos hi] at this ⊢
    rw [VD.nums_get d (by omega)]
    exact this
  · rw [if_neg hi] at this ⊢
    exact this
theorem nnum_in (v : Value) (k : Nat) (l : List Nat) (j : Nat) (w : World) (h : IsNum w v k l) (hj : j < l.length) : Calls Try.prog 62 #[v, .int .i64 (j : Int)] w fun e w' => e = .returned (.float .f64 (l.getD j 0)) ∧ Ext w w' := by
  have := nnum_any v k l (j : Int) w h
  unfold numL at this
  rwa [if_pos ⟨by omega, by omega⟩, Int.toNat_natCast] at this
theorem nwhole_in (v : Value) (k : Nat) (l : List Nat) (j : Nat) (w : World) (h : IsNum w v k l) (hj : j < l.length) (hk : k ≤ 3) : Calls Try.prog 64 #[v, .int .i64 (j : Int)] w fun e w' => e = .returned (.tuple #[.int .i64 (wn (l.getD j 0)), .bool true]) ∧ Ext w w' := by
  have hw := h.whole hk hj
  obtain ⟨d, hv, rfl, h1, _, rfl⟩ := h
  rw [VD.nums_length] at hj
  have := vwhole_in v d j w hv hj
  rw [VD.isWhl_num h1 hk] at this
  rw [wn_whole hw, VD.nums_get d hj]
  have h9 := VD.whl_num hv (VD.isWhl_num h1 hk) hj
  rw [h9.2, trn_fi h9.1.1 h9.1.2]
  exact this
theorem VD.whl_four {d : VD} (h : d.kind = 4) (j : Nat) : d.whl j = 0 := by
  unfold VD.whl
  split
  · omega
  · omega
  · omega
  · rfl
theorem nwhole_four (v : Value) (l : List Nat) (j : Nat) (w : World) (h : IsNum w v 4 l) (hj : j < l.length) : Calls Try.prog 64 #[v, .int .i64 (j : Int)] w fun e w' => e = .returned (.tuple #[.int .i64 0, .bool false]) ∧ Ext w w' := by
  obtain ⟨d, hv, h4, h1, _, rfl⟩ := h
  rw [VD.nums_length] at hj
  have := vwhole_in v d j w hv hj
  rw [VD.isWhl_not h4, VD.whl_four h4] at this
  exact this
theorem nnums_any (v : Value) (k : Nat) (l : List Nat) (w : World) (h : IsNum w v k l) : Calls Try.prog 21 #[v] w fun e w' => ∃ v', e = .returned v' ∧ w'.ownsRow w.heap.size 81 1 v' l.length (f64s l) ∧ Ext w w' := by
  obtain ⟨d, hv, rfl, _, h4, rfl⟩ := h
  rw [VD.nums_length]
  exact vnums_any v d w hv (VD.cls_num h4)
theorem whls_toI {w : World} {v : Value} {d : VD} (hv : IsVec w v d) (hw : d.isWhl = true) : d.whls = toI d.nums := by
  apply List.ext_getElem (by rw [VD.whls_length, toI_length, VD.nums_length])
  intro j h1 h2
  have hj : j < d.len := by rw [← VD.whls_length]; exact h1
  have := VD.whl_num hv hw hj
  simp only [VD.whls, toI, VD.nums, List.getElem_map, List.getElem_range]
  rw [this.2, trn_fi this.1.1 this.1.2]
theorem npacked_any (v : Value) (l : List Nat) (w : World) (h : IsNum w v 1 l) : Calls Try.prog 36 #[v] w fun e w' => ∃ v', e = .returned (.tuple #[v', .bool true]) ∧ IsB w' v' (toB l) ∧ Ext w w' := by
  obtain ⟨d, hv, hk, _, _, rfl⟩ := h
  have hd : ∃ b, d = VD.bits b := by
    rcases hv with ⟨rfl, _⟩ | ⟨l, A, c, rfl, _⟩ | ⟨l, A, c, rfl, _, hb, _⟩ | ⟨l, A, c, rfl, _, hb, _⟩ | ⟨l, A, c, rfl, _, hb, _⟩ | ⟨l, A, c, rfl, _⟩ | ⟨n, cs, A, c, rfl, _⟩
    · cases hk
    · exact ⟨l, rfl⟩
    all_goals cases hk
  obtain ⟨b, rfl⟩ := hd
  have e : toB (VD.bits b).nums = b := by
    apply List.ext_getElem (by rw [toB_length, VD.nums_length]; rfl)
    intro j h1 h2
    simp only [toB, VD.nums, List.getElem_map, List.getElem_range]
    show decide (bitW (b.getD j false) = _) = _
    rw [show b.getD j false = b[j] by simp [List.getD, h2]]
    cases b[j] <;> rfl
  rw [e]
  exact vpacked_any v b w hv
theorem npacked_none (v : Value) (k : Nat) (l : List Nat) (w : World) (h : IsNum w v k l) (hk : k ≠ 1) : Calls Try.prog 36 #[v] w fun e w' => e = .returned (.tuple #[.agg #[.slice none 0 0, .int .i64 0], .bool false]) ∧ Ext w w' := by
  obtain ⟨d, hv, rfl, _⟩ := h
  exact vpacked_none v d w hv hk
end
end Go.Proofs.Ytdfhefnjoekgbaa
