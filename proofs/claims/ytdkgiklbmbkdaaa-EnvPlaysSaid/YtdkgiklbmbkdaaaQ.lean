/- Plain facts: the least store of numbers.
   Numbers in whatever store: one word for them, and its contracts.
   Contracts of squeeze: rank, whole.
   Of which blocks a Vec reads: a Vec stays where other blocks are written. -/
import Derived.Test.YtdkgiklbmbkdaaaV
namespace Go.Proofs.Ytdkgiklbmbkdaaa
open Go.RowKit Bv Fl

/-- the least store of a whole number -/
def rankI (n : Int) : Nat := if n = 0 ∨ n = 1 then 1 else if -128 ≤ n ∧ n ≤ 127 then 2 else 3
theorem rankI_le (n : Int) : rankI n ≤ 3 := by unfold rankI; split <;> (try split) <;> omega
theorem rankI_le1 {n : Int} : rankI n ≤ 1 ↔ n = 0 ∨ n = 1 := by unfold rankI; split <;> (try split) <;> omega
theorem rankI_le2 {n : Int} : rankI n ≤ 2 ↔ -128 ≤ n ∧ n ≤ 127 := by unfold rankI; split <;> (try split) <;> omega
/-- the least store of the first k, where they are whole -/
def lm (l : List Nat) : Nat → Nat
  | 0 => 1
  | k + 1 => max (lm l k) (rankI (wn (l.getD k 0)))
theorem lm_ge (l : List Nat) (k : Nat) : 1 ≤ lm l k := by
  induction k with
  | zero => exact Nat.le_refl _
  | succ k ih => unfold lm; omega
theorem lm_le (l : List Nat) (k : Nat) : lm l k ≤ 3 := by
  induction k with
  | zero => show 1 ≤ 3; omega
  | succ k ih => unfold lm; have := rankI_le (wn (l.getD k 0)); omega
theorem lm_mono (l : List Nat) {j k : Nat} (h : j ≤ k) : lm l j ≤ lm l k := by
  induction h with
  | refl => exact Nat.le_refl _
  | step _ ih => exact Nat.le_trans ih (by show lm l _ ≤ max _ _; omega)
theorem lm_iff (l : List Nat) (r k : Nat) (hr : 1 ≤ r) : lm l k ≤ r ↔ ∀ j, j < k → rankI (wn (l.getD j 0)) ≤ r := by
  induction k with
  | zero => exact ⟨fun _ j hj => by omega, fun _ => hr⟩
  | succ k ih =>
    unfold lm
    constructor
    · intro h j hj
      by_cases e : j = k
      · subst e; omega
      · exact ih.1 (by omega) j (by omega)
    · intro h
      have h1 := ih.2 fun j hj => h j (by omega)
      have h2 := h k (by omega)
      omega
def allW (l : List Nat) : Bool := l.all fun x => decide (whole x)
theorem allW_iff {l : List Nat} : allW l = true ↔ ∀ j, j < l.length → whole (l.getD j 0) := by
  unfold allW
  rw [List.all_eq_true]
  constructor
  · intro h j hj
    exact of_decide_eq_true (h _ (getD_memN hj))
  · intro h x hx
    obtain ⟨j, hj, rfl⟩ := List.getElem_of_mem hx
    have := h j hj
    rw [show l.getD j 0 = l[j] by simp [List.getD, hj]] at this
    exact decide_eq_true this
def upW (l : List Nat) (k : Nat) : Prop := ∀ j, j < k → whole (l.getD j 0)
theorem upW_zero (l : List Nat) : upW l 0 := fun j hj => absurd hj (by omega)
theorem upW_step {l : List Nat} {k : Nat} (h : upW l k) (g : whole (l.getD k 0)) : upW l (k + 1) := by
  intro j hj
  by_cases e : j = k
  · subst e; exact g
  · exact h j (by omega)
theorem upW_all {l : List Nat} (h : upW l l.length) : allW l = true := allW_iff.2 h
theorem allW_false {l : List Nat} {k : Nat} (hk : k < l.length) (h : ¬ whole (l.getD k 0)) : allW l = false := by
  cases e : allW l
  · rfl
  · exact absurd (allW_iff.1 e k hk) h
/-- the least store of numbers -/
def leastL (l : List Nat) : Nat := if allW l then lm l l.length else 4
theorem leastL_ge (l : List Nat) : 1 ≤ leastL l := by unfold leastL; split; exact lm_ge _ _; omega
theorem leastL_le (l : List Nat) : leastL l ≤ 4 := by unfold leastL; split; (have := lm_le l l.length; omega); omega
theorem leastL_le3 {l : List Nat} : leastL l ≤ 3 ↔ allW l = true := by
  unfold leastL
  cases e : allW l
  · simp
  · simp [lm_le]
theorem leastL_le2 {l : List Nat} : leastL l ≤ 2 ↔ ∀ j, j < l.length → whole (l.getD j 0) ∧ -128 ≤ wn (l.getD j 0) ∧ wn (l.getD j 0) ≤ 127 := by
  unfold leastL
  cases e : allW l
  · simp only [Bool.false_eq_true, if_false]
    constructor
    · intro h; omega
    · intro h
      rw [allW_iff.2 fun j hj => (h j hj).1] at e
      cases e
  · simp only [if_true]
    rw [lm_iff l 2 _ (by omega)]
    have h := allW_iff.1 e
    constructor
    · intro g j hj; exact ⟨h j hj, rankI_le2.1 (g j hj)⟩
    · intro g j hj; exact rankI_le2.2 (g j hj).2
theorem wn_zero : wn 0 = 0 := by kernel_rfl
theorem wn_one : wn 4607182418800017408 = 1 := by kernel_rfl
theorem whole_zero : whole 0 := by exact (by kernel_rfl : decide (whole 0) = true) |> of_decide_eq_true
theorem whole_one : whole 4607182418800017408 := by exact (by kernel_rfl : decide (whole 4607182418800017408) = true) |> of_decide_eq_true
theorem wn_whole {b : Nat} (h : whole b) : wn b = trn b := by unfold wn; rw [if_pos h.1]
theorem fi_zero : fi 0 = 0 := by kernel_rfl
theorem fi_one : fi 1 = 4607182418800017408 := by kernel_rfl
/-- a tidy number is 0 or 1 just if it is whole and that -/
theorem truth_wn {b : Nat} (hb : tidy b) : (whole b ∧ (wn b = 0 ∨ wn b = 1)) ↔ (b = 0 ∨ b = 4607182418800017408) := by
  constructor
  · rintro ⟨h, h1⟩
    rw [wn_whole h] at h1
    have e := whole_tidy h hb
    rcases h1 with h1 | h1
    · left; rw [e, h1, fi_zero]
    · right; rw [e, h1, fi_one]
  · rintro (rfl | rfl)
    · exact ⟨whole_zero, .inl wn_zero⟩
    · exact ⟨whole_one, .inr wn_one⟩
theorem leastL_le1 {l : List Nat} (ht : ∀ x ∈ l, tidy x) : leastL l ≤ 1 ↔ ∀ j, j < l.length → l.getD j 0 = 0 ∨ l.getD j 0 = 4607182418800017408 := by
  unfold leastL
  cases e : allW l
  · simp only [Bool.false_eq_true, if_false]
    constructor
    · intro h; omega
    · intro h
      rw [allW_iff.2 fun j hj => ((truth_wn (ht _ (getD_memN hj))).2 (h j hj)).1] at e
      cases e
  · simp only [if_true]
    rw [lm_iff l 1 _ (by omega)]
    have h := allW_iff.1 e
    constructor
    · intro g j hj; exact (truth_wn (ht _ (getD_memN hj))).1 ⟨h j hj, rankI_le1.1 (g j hj)⟩
    · intro g j hj; exact rankI_le1.2 ((truth_wn (ht _ (getD_memN hj))).2 (g j hj)).2
/-- do numbers fit a store? -/
def fitsL (l : List Nat) (kind : Int) : Bool := decide ((leastL l : Int) ≤ kind ∧ kind ≤ 4)
/-- what is in a truth's word -/
def toB (l : List Nat) : List Bool := l.map fun x => decide (x = 4607182418800017408)
def toI (l : List Nat) : List Int := l.map trn
theorem toB_length (l : List Nat) : (toB l).length = l.length := by simp [toB]
theorem toI_length (l : List Nat) : (toI l).length = l.length := by simp [toI]
theorem toB_get {l : List Nat} {k : Nat} (h : k < l.length) : (toB l).getD k false = decide (l.getD k 0 = 4607182418800017408) := by simp [toB, List.getD, h]
theorem toI_get {l : List Nat} {k : Nat} (h : k < l.length) : (toI l).getD k 0 = trn (l.getD k 0) := by simp [toI, List.getD, h]
theorem ext_getD {l m : List Nat} (hl : l.length = m.length) (h : ∀ j, j < l.length → l.getD j 0 = m.getD j 0) : l = m := by
  apply List.ext_getElem hl
  intro j h1 h2
  have := h j h1
  simpa [List.getD, h1, h2] using this
end Go.Proofs.Ytdkgiklbmbkdaaa

namespace Go.Proofs.Ytdkgiklbmbkdaaa
open Go.RowKit Bv Fl

theorem cell_ext {w w' : World} {p : Addr} {u : Value} (hx : Ext w w') (h : w.cell? p = some u) : w'.cell? p = some u := (Below.cell hx (World.block_lt_of_cell? _ _ h)).trans h
/-- a struct of eight cells lies there -/
def St (w : World) (B : Nat) (c0 c1 c2 c3 c4 c5 c6 c7 : Value) : Prop :=
  w.cell? ⟨B, 0, none⟩ = some c0 ∧ w.cell? ⟨B, 1, none⟩ = some c1 ∧ w.cell? ⟨B, 2, none⟩ = some c2 ∧ w.cell? ⟨B, 3, none⟩ = some c3 ∧ w.cell? ⟨B, 4, none⟩ = some c4 ∧ w.cell? ⟨B, 5, none⟩ = some c5 ∧ w.cell? ⟨B, 6, none⟩ = some c6 ∧ w.cell? ⟨B, 7, none⟩ = some c7
theorem St.new (w : World) (c0 c1 c2 c3 c4 c5 c6 c7 : Value) (t : TypeId) : St (w.alloc (.cells #[c0, c1, c2, c3, c4, c5, c6, c7] t)) w.heap.size c0 c1 c2 c3 c4 c5 c6 c7 := by
  simp [St, World.cell?_alloc_new]
theorem St.ext {w w' : World} {B : Nat} {c0 c1 c2 c3 c4 c5 c6 c7 : Value} (h : St w B c0 c1 c2 c3 c4 c5 c6 c7) (hx : Ext w w') : St w' B c0 c1 c2 c3 c4 c5 c6 c7 :=
  ⟨cell_ext hx h.1, cell_ext hx h.2.1, cell_ext hx h.2.2.1, cell_ext hx h.2.2.2.1, cell_ext hx h.2.2.2.2.1, cell_ext hx h.2.2.2.2.2.1, cell_ext hx h.2.2.2.2.2.2.1, cell_ext hx h.2.2.2.2.2.2.2⟩
theorem bitW_tidy (b : Bool) : tidy (bitW b) := by
  cases b
  · exact ⟨by decide, by decide, fun _ => rfl⟩
  · exact ⟨by decide, by decide, fun h => absurd h (by decide)⟩
theorem IsVec.num_tidy {w : World} {v : Value} {d : VD} (h : IsVec w v d) (hc : d.cls = 0) {k : Nat} (hk : k < d.len) : tidy (d.num k) := by
  rcases h with ⟨rfl, _⟩ | ⟨l, A, c, rfl, _⟩ | ⟨l, A, c, rfl, _, hb, _⟩ | ⟨l, A, c, rfl, _, hb, _⟩ | ⟨l, A, c, rfl, _, hb, _⟩ | ⟨l, A, c, rfl, _⟩ | ⟨n, cs, A, c, rfl, _⟩
  · exact absurd hk (Nat.not_lt_zero _)
  · exact bitW_tidy _
  · have hk : k < l.length := hk
    have h1 := hb _ (getD_mem hk)
    exact fi_tidy (n := l.getD k 0) (by omega) (by omega)
  · have hk : k < l.length := hk
    have := hb _ (getD_mem hk)
    exact fi_tidy this.1 this.2
  · have hk : k < l.length := hk
    exact hb _ (getD_memN hk)
  · exact absurd hc (by show ¬ (1 = 0); omega)
  · exact absurd hc (by show ¬ (2 = 0); omega)
theorem bitW_fi (b : Bool) : bitW b = fi (if b then 1 else 0) := by cases b <;> kernel_rfl
theorem VD.nums_get (d : VD) {k : Nat} (h : k < d.len) : d.nums.getD k 0 = d.num k := by simp [VD.nums, List.getD, h]
theorem VD.nums_length (d : VD) : d.nums.length = d.len := by simp [VD.nums]
/-- numbers l, in store k -/
def IsNum (w : World) (v : Value) (k : Nat) (l : List Nat) : Prop := ∃ d, IsVec w v d ∧ d.kind = k ∧ 1 ≤ k ∧ k ≤ 4 ∧ d.nums = l
section
variable {w w' : World} {v : Value} {k : Nat} {l : List Nat}
theorem IsNum.ext (h : IsNum w v k l) (hx : Ext w w') : IsNum w' v k l := by
  obtain ⟨d, hv, h1⟩ := h
  exact ⟨d, hv.ext hx, h1⟩
theorem IsNum.rng (h : IsNum w v k l) : 1 ≤ k ∧ k ≤ 4 := by
  obtain ⟨d, _, _, h1, h2, _⟩ := h
  exact ⟨h1, h2⟩
theorem VD.cls_num {d : VD} (h : d.kind ≤ 4) : d.cls = 0 := by
  unfold VD.cls
  split
  · omega
  · omega
  · rfl
theorem VD.isWhl_num {d : VD} (h1 : 1 ≤ d.kind) (h : d.kind ≤ 3) : d.isWhl = true := by
  have e : d.kind = 1 ∨ d.kind = 2 ∨ d.kind = 3 := by omega
  unfold VD.isWhl
  rcases e with e | e | e <;> (rw [e]; rfl)
theorem VD.isWhl_not {d : VD} (h : d.kind = 4) : d.isWhl = false := by
  unfold VD.isWhl
  split
  · omega
  · omega
  · omega
  · rfl
theorem IsNum.lim (h : IsNum w v k l) : l.length ≤ 1048576 := by
  obtain ⟨d, hv, _, _, _, rfl⟩ := h
  rw [VD.nums_length]; exact hv.lim
theorem IsNum.tidy (h : IsNum w v k l) : ∀ x ∈ l, Fl.tidy x := by
  obtain ⟨d, hv, hk, _, h4, rfl⟩ := h
  intro x hx
  obtain ⟨i, hi, rfl⟩ := List.mem_map.1 hx
  exact hv.num_tidy (VD.cls_num (by omega)) (by simpa using hi)
theorem IsNum.shape (h : IsNum w v k l) : ∃ a1 n1 k1 bn a3 n3 k3 a4 n4 k4 a5 n5 k5 a6 n6 k6 a7 n7 k7, v = .agg #[.int .i64 (k : Int), .slice a1 n1 k1, .int .i64 bn, .slice a3 n3 k3, .slice a4 n4 k4, .slice a5 n5 k5, .slice a6 n6 k6, .slice a7 n7 k7] := by
  obtain ⟨d, hv, rfl, _⟩ := h
  exact hv.shape
theorem IsNum.form (h : IsNum w v k l) : ∃ c1 bn c3 c4 c5 c6 c7, v = .agg #[.int .i64 (k : Int), c1, .int .i64 bn, c3, c4, c5, c6, c7] := by
  obtain ⟨a1, n1, k1, bn, a3, n3, k3, a4, n4, k4, a5, n5, k5, a6, n6, k6, a7, n7, k7, rfl⟩ := h.shape
  exact ⟨_, _, _, _, _, _, _, rfl⟩
theorem VD.whl_num {w : World} {v : Value} {d : VD} (h : IsVec w v d) (hw : d.isWhl = true) {j : Nat} (hj : j < d.len) : G (d.whl j) ∧ d.num j = fi (d.whl j) := by
  rcases h with ⟨rfl, _⟩ | ⟨l, A, c, rfl, _⟩ | ⟨l, A, c, rfl, _, hb, _⟩ | ⟨l, A, c, rfl, _, hb, _⟩ | ⟨l, A, c, rfl, _, hb, _⟩ | ⟨l, A, c, rfl, _⟩ | ⟨n, cs, A, c, rfl, _⟩
  · exact absurd (show false = true from hw) (by decide)
  · refine ⟨?_, bitW_fi _⟩
    show G (if l.getD j false then 1 else 0)
    split <;> (unfold G; omega)
  · have hj : j < l.length := hj
    have h1 := hb _ (getD_mem hj)
    refine ⟨?_, rfl⟩
    show G (l.getD j 0)
    unfold G; omega
  · have hj : j < l.length := hj
    exact ⟨hb _ (getD_mem hj), rfl⟩
  · exact absurd (show false = true from hw) (by decide)
  · exact absurd (show false = true from hw) (by decide)
  · exact absurd (show false = true from hw) (by decide)
theorem IsNum.whole (h : IsNum w v k l) (hk : k ≤ 3) {j : Nat} (hj : j < l.length) : Fl.whole (l.getD j 0) := by
  obtain ⟨d, hv, rfl, h1, _, rfl⟩ := h
  rw [VD.nums_length] at hj
  have := VD.whl_num hv (VD.isWhl_num h1 hk) hj
  rw [VD.nums_get d hj, this.2]
  exact whole_fi this.1.1 this.1.2
theorem IsNum.least (h : IsNum w v k l) : leastL l ≤ k := by
  have ht := h.tidy
  by_cases h3 : k ≤ 3
  · have hw := fun {j} (hj : j < l.length) => h.whole h3 hj
    obtain ⟨d, hv, rfl, h1, _, rfl⟩ := h
    rcases hv with ⟨rfl, _⟩ | ⟨l, A, c, rfl, _⟩ | ⟨l, A, c, rfl, _, hb, _⟩ | ⟨l, A, c, rfl, _, hb, _⟩ | ⟨l, A, c, rfl, _, hb, _⟩ | ⟨l, A, c, rfl, _⟩ | ⟨n, cs, A, c, rfl, _⟩
    · exact absurd h1 (by decide)
    · rw [show (VD.bits l).kind = 1 from rfl, leastL_le1 ht]
      intro j hj
      rw [VD.nums_length] at hj
      rw [VD.nums_get _ hj]
      show bitW (l.getD j false) = 0 ∨ bitW (l.getD j false) = _
      cases l.getD j false
      · exact .inl rfl
      · exact .inr rfl
    · rw [show (VD.smalls l).kind = 2 from rfl, leastL_le2]
      intro j hj
      refine ⟨hw hj, ?_⟩
      have h9 := hw hj
      rw [VD.nums_length] at hj
      have hj' : j < l.length := hj
      have h2 := hb _ (getD_mem hj')
      rw [wn_whole h9, VD.nums_get _ hj]
      show -128 ≤ trn (fi (l.getD j 0)) ∧ trn (fi (l.getD j 0)) ≤ 127
      rw [trn_fi (by omega) (by omega)]
      exact h2
    · rw [show (VD.ints l).kind = 3 from rfl, leastL_le3, allW_iff]
      intro j hj
      exact hw hj
    · exact absurd h3 (by show ¬ (4 ≤ 3); omega)
    · exact absurd h3 (by show ¬ (5 ≤ 3); omega)
    · exact absurd h3 (by show ¬ (6 ≤ 3); omega)
  · have := leastL_le l
    omega

theorem IsNum.mk1 (h : IsVec w v (VD.bits (toB l))) (ht : ∀ x ∈ l, Fl.tidy x) (hf : leastL l ≤ 1) : IsNum w v 1 l := by
  refine ⟨_, h, rfl, by omega, by omega, ?_⟩
  refine ext_getD (by rw [VD.nums_length]; exact toB_length l) fun j hj => ?_
  rw [VD.nums_length] at hj
  have hj' : j < l.length := by rw [← toB_length]; exact hj
  rw [VD.nums_get _ hj]
  show bitW ((toB l).getD j false) = _
  rw [toB_get hj']
  rcases (leastL_le1 ht).1 hf j hj' with e | e <;> rw [e] <;> rfl
theorem IsNum.mk2 (h : IsVec w v (VD.smalls (toI l))) (ht : ∀ x ∈ l, Fl.tidy x) (hf : leastL l ≤ 2) : IsNum w v 2 l := by
  refine ⟨_, h, rfl, by omega, by omega, ?_⟩
  refine ext_getD (by rw [VD.nums_length]; exact toI_length l) fun j hj => ?_
  rw [VD.nums_length] at hj
  have hj' : j < l.length := by rw [← toI_length]; exact hj
  rw [VD.nums_get _ hj]
  show fi ((toI l).getD j 0) = _
  rw [toI_get hj', ← whole_tidy (leastL_le2.1 hf j hj').1 (ht _ (getD_memN hj'))]
theorem IsNum.mk3 (h : IsVec w v (VD.ints (toI l))) (ht : ∀ x ∈ l, Fl.tidy x) (hf : allW l = true) : IsNum w v 3 l := by
  refine ⟨_, h, rfl, by omega, by omega, ?_⟩
  refine ext_getD (by rw [VD.nums_length]; exact toI_length l) fun j hj => ?_
  rw [VD.nums_length] at hj
  have hj' : j < l.length := by rw [← toI_length]; exact hj
  rw [VD.nums_get _ hj]
  show fi ((toI l).getD j 0) = _
  rw [toI_get hj', ← whole_tidy (allW_iff.1 hf j hj') (ht _ (getD_memN hj'))]
theorem IsNum.mk4 (h : IsVec w v (VD.floats l)) : IsNum w v 4 l := by
  refine ⟨_, h, rfl, by omega, by omega, ?_⟩
  refine ext_getD (by rw [VD.nums_length]; rfl) fun j hj => ?_
  rw [VD.nums_length] at hj
  rw [VD.nums_get _ hj]
  rfl

/-- the number at a place, 0 where there is none -/
def numL (l : List Nat) (i : Int) : Nat := if 0 ≤ i ∧ i < (l.length : Int) then l.getD i.toNat 0 else 0
theorem nkind_any (v : Value) (k : Nat) (l : List Nat) (w : World) (h : IsNum w v k l) : Calls Try.prog 57 #[v] w fun e w' => e = .returned (.int .i64 (k : Int)) ∧ Ext w w' := by
  obtain ⟨d, hv, rfl, _⟩ := h
  exact vkind_any v d w hv
theorem nclass_any (v : Value) (k : Nat) (l : List Nat) (w : World) (h : IsNum w v k l) : Calls Try.prog 58 #[v] w fun e w' => e = .returned (.int .i64 0) ∧ Ext w w' := by
  obtain ⟨d, hv, rfl, _, h4, _⟩ := h
  have := vclass_any v d w hv
  rw [VD.cls_num h4] at this
  exact this
theorem nlen_any (v : Value) (k : Nat) (l : List Nat) (w : World) (h : IsNum w v k l) : Calls Try.prog 38 #[v] w fun e w' => e = .returned (.int .i64 (l.length : Int)) ∧ Ext w w' := by
  obtain ⟨d, hv, rfl, _, _, rfl⟩ := h
  rw [VD.nums_length]
  exact vlen_any v d w hv
theorem nnum_any (v : Value) (k : Nat) (l : List Nat) (i : Int) (w : World) (h : IsNum w v k l) : Calls Try.prog 22 #[v, .int .i64 i] w fun e w' => e = .returned (.float .f64 (numL l i)) ∧ Ext w w' := by
  obtain ⟨d, hv, rfl, _, _, rfl⟩ := h
  have := vnum_any v d i w hv
  unfold VD.numI at this
  unfold numL
  rw [VD.nums_length]
  by_cases hi : 0 ≤ i ∧ i < (d.len : Int)
  · rw [if_pos hi] at this ⊢
    rw [VD.nums_get d (by omega)]
    exact this
  · rw [if_neg hi] at this ⊢
    exact this
theorem nnum_in (v : Value) (k : Nat) (l : List Nat) (j : Nat) (w : World) (h : IsNum w v k l) (hj : j < l.length) : Calls Try.prog 22 #[v, .int .i64 (j : Int)] w fun e w' => e = .returned (.float .f64 (l.getD j 0)) ∧ Ext w w' := by
  have := nnum_any v k l (j : Int) w h
  unfold numL at this
  rwa [if_pos ⟨by omega, by omega⟩, Int.toNat_natCast] at this
theorem nwhole_in (v : Value) (k : Nat) (l : List Nat) (j : Nat) (w : World) (h : IsNum w v k l) (hj : j < l.length) (hk : k ≤ 3) : Calls Try.prog 64 #[v, .int .i64 (j : Int)] w fun e w' => e = .returned (.tuple #[.int .i64 (wn (l.getD j 0)), .bool true]) ∧ Ext w w' := by
  have hw := h.whole hk hj
  obtain ⟨d, hv, rfl, h1, _, rfl⟩ := h
  rw [VD.nums_length] at hj
  have := vwhole_in v d j w hv hj
  rw [VD.isWhl_num h1 hk] at this
  rw [wn_whole hw, VD.nums_get d hj]
  have h9 := VD.whl_num hv (VD.isWhl_num h1 hk) hj
  rw [h9.2, trn_fi h9.1.1 h9.1.2]
  exact this
theorem VD.whl_four {d : VD} (h : d.kind = 4) (j : Nat) : d.whl j = 0 := by
  unfold VD.whl
  split
  · omega
  · omega
  · omega
  · rfl
theorem nwhole_four (v : Value) (l : List Nat) (j : Nat) (w : World) (h : IsNum w v 4 l) (hj : j < l.length) : Calls Try.prog 64 #[v, .int .i64 (j : Int)] w fun e w' => e = .returned (.tuple #[.int .i64 0, .bool false]) ∧ Ext w w' := by
  obtain ⟨d, hv, h4, h1, _, rfl⟩ := h
  rw [VD.nums_length] at hj
  have := vwhole_in v d j w hv hj
  rw [VD.isWhl_not h4, VD.whl_four h4] at this
  exact this
theorem nnums_any (v : Value) (k : Nat) (l : List Nat) (w : World) (h : IsNum w v k l) : Calls Try.prog 63 #[v] w fun e w' => ∃ v', e = .returned v' ∧ w'.ownsRow w.heap.size 75 1 v' l.length (f64s l) ∧ Ext w w' := by
  obtain ⟨d, hv, rfl, _, h4, rfl⟩ := h
  rw [VD.nums_length]
  exact vnums_any v d w hv (VD.cls_num h4)
end
end Go.Proofs.Ytdkgiklbmbkdaaa

namespace Go.Proofs.Ytdkgiklbmbkdaaa
open Go.RowKit Bv Fl

set_option maxHeartbeats 1000000
theorem rank_any (n : Int) (w : World) : Calls Try.prog 66 #[.int .i64 n] w fun e w' => e = .returned (.int .i64 (rankI n : Int)) ∧ w = w' := by
  unfold rankI
  by_cases h1 : n = 0 ∨ n = 1
  · rw [if_pos h1]
    rcases h1 with rfl | rfl
    all_goals
      go_enter Try.func66, Try.ntmps66
      go_wp2
      go_ret
      exact ⟨rfl, rfl⟩
  · rw [if_neg h1]
    have e1 : (n == 0) = false := by simp; omega
    have e2 : (n == 1) = false := by simp; omega
    by_cases h2 : -128 ≤ n ∧ n ≤ 127
    · rw [if_pos h2]
      obtain ⟨h2, h3⟩ := h2
      clear h1
      go_enter Try.func66, Try.ntmps66
      go_wp2
      go_ret
      exact ⟨rfl, rfl⟩
    · rw [if_neg h2]
      clear h1
      by_cases h3 : -128 ≤ n
      · have h4 : 127 < n := by omega
        clear h2
        go_enter Try.func66, Try.ntmps66
        go_wp2
        go_ret
        exact ⟨rfl, rfl⟩
      · have h4 : n < -128 := by omega
        clear h2 h3
        go_enter Try.func66, Try.ntmps66
        go_wp2
        go_ret
        exact ⟨rfl, rfl⟩

theorem sqwhole_any (v : Value) (k : Nat) (l : List Nat) (j : Nat) (w : World) (h : IsNum w v k l) (hj : j < l.length) :
    Calls Try.prog 76 #[v, .int .i64 (j : Int)] w fun e w' => e = .returned (.tuple #[.int .i64 (wn (l.getD j 0)), .bool (decide (whole (l.getD j 0)))]) ∧ Ext w w' := by
  have hjl : (j : Int) < 1048576 := by have := h.lim; omega
  by_cases h3 : k ≤ 3
  · have c1 := fun w h => nwhole_in v k l j w h hj h3
    rw [decide_eq_true (h.whole h3 hj)]
    obtain ⟨f1, bn, f3, f4, f5, f6, f7, rfl⟩ := h.form
    have HV := Lib.hid h
    clear h h3 hj
    generalize (k : Int) = kk at *
    generalize wn (l.getD j 0) = x at *
    go_enter Try.func76, Try.ntmps76
    go_wp2_with fail
    refine (c1 _ (HV.out.ext ((Ext.refl w).alloc _))).mono ?_
    rintro e w1 ⟨rfl, hx⟩
    have HX := Lib.hid (((Ext.refl w).alloc _).trans hx)
    clear hx
    go_wp2
    go_ret2
    exact ⟨rfl, HX.out⟩
  · have h4 : k = 4 := by have := h.rng; omega
    subst h4
    have c1 := fun w h => nwhole_four v l j w h hj
    have c2 := fun w h => nnum_in v 4 l j w h hj
    have c3 := fun w => whole_any (l.getD j 0) w
    obtain ⟨f1, bn, f3, f4, f5, f6, f7, rfl⟩ := h.form
    have HV := Lib.hid h
    clear h h3 hj
    generalize l.getD j 0 = x at *
    go_enter Try.func76, Try.ntmps76
    go_wp2_with fail
    refine (c1 _ (HV.out.ext ((Ext.refl w).alloc _))).mono ?_
    rintro e w1 ⟨rfl, hx⟩
    obtain ⟨hc, hf⟩ := hx.cells
    have HX := Lib.hid (((Ext.refl w).alloc _).trans hx)
    clear hx
    go_wp2_with fail
    refine (c2 _ (HV.out.ext HX.out)).mono ?_
    rintro e w2 ⟨rfl, hx⟩
    replace HX := Lib.hid (HX.out.trans hx)
    clear hx hc hf
    go_wp2_with fail
    refine (c3 _).mono ?_
    rintro e w2 ⟨rfl, rfl⟩
    go_wp2
    go_ret2
    exact ⟨rfl, HX.out⟩
end Go.Proofs.Ytdkgiklbmbkdaaa

namespace Go.Proofs.Ytdkgiklbmbkdaaa
open Go.RowKit Bv Fl

/-- of the blocks that there are, those of S alone are read for v to be d -/
def VecS (w : World) (v : Value) (d : VD) (S : Nat → Prop) : Prop := ∀ w' : World, w.heap.size ≤ w'.heap.size → (∀ i, i < w.heap.size → S i → w'.heap[i]? = w.heap[i]?) → IsVec w' v d
/-- the slices of the struct v lie in blocks of S -/
def In (S : Nat → Prop) (v : Value) : Prop := ∀ cs, v = .agg cs → ∀ A n c, Value.slice A n c ∈ cs.toList → ∀ a, A = some a → S a.block
theorem Sl.reach {w w' : World} {s n : Nat} {A : Option Addr} {xs : List Value} {S : Nat → Prop} (h : Sl w s A n xs) (hs : w.heap.size ≤ w'.heap.size) (hk : ∀ i, i < w.heap.size → S i → w'.heap[i]? = w.heap[i]?) (hA : ∀ a, A = some a → a.block < w.heap.size → S a.block) : Sl w' s A n xs :=
  ⟨h.1, fun hn => by
    obtain ⟨a, e, hb, hc⟩ := h.2 hn
    refine ⟨a, e, Nat.lt_of_lt_of_le hb hs, fun j u hu => ?_⟩
    exact (World.cell?_of_block (by rw [addr_block]; exact hk _ hb (hA a e hb))).trans (hc j u hu)⟩
theorem IsVec.reach {w w' : World} {v : Value} {d : VD} {S : Nat → Prop} (h : IsVec w v d) (hs : w.heap.size ≤ w'.heap.size) (hk : ∀ i, i < w.heap.size → S i → w'.heap[i]? = w.heap[i]?) (hA : ∀ cs, v = .agg cs → ∀ A n c, Value.slice A n c ∈ cs.toList → ∀ a, A = some a → a.block < w.heap.size → S a.block) : IsVec w' v d := by
  rcases h with h | ⟨l, A, c, h1, h2, h3, h4⟩ | ⟨l, A, c, h1, h2, h3, h4, h5⟩ | ⟨l, A, c, h1, h2, h3, h4, h5⟩ | ⟨l, A, c, h1, h2, h3, h4, h5⟩ | ⟨l, A, c, h1, h2, h3, h4⟩ | ⟨n, cs, A, c, h1, h2, h3, h4, h5, h6⟩
  · exact .inl h
  · exact .inr (.inl ⟨l, A, c, h1, h2, h3, h4.reach hs hk (hA _ h3 A (wc l.length) c (by simp))⟩)
  · exact .inr (.inr (.inl ⟨l, A, c, h1, h2, h3, h4, h5.reach hs hk (hA _ h4 A l.length c (by simp))⟩))
  · exact .inr (.inr (.inr (.inl ⟨l, A, c, h1, h2, h3, h4, h5.reach hs hk (hA _ h4 A l.length c (by simp))⟩)))
  · exact .inr (.inr (.inr (.inr (.inl ⟨l, A, c, h1, h2, h3, h4, h5.reach hs hk (hA _ h4 A l.length c (by simp))⟩))))
  · exact .inr (.inr (.inr (.inr (.inr (.inl ⟨l, A, c, h1, h2, h3, h4.reach hs hk (hA _ h3 A l.length c (by simp))⟩)))))
  · exact .inr (.inr (.inr (.inr (.inr (.inr ⟨n, cs, A, c, h1, h2, h3, h4, h5, h6.reach hs hk (hA _ h5 A n c (by simp))⟩)))))
section
variable {w w' : World} {v : Value} {d : VD} {S S' : Nat → Prop}
theorem VecS.mk (h : IsVec w v d) (hf : In S v) : VecS w v d S := fun _ hs hk => h.reach hs hk fun cs hv A n c hm a ha _ => hf cs hv A n c hm a ha
theorem VecS.all (h : IsVec w v d) : VecS w v d (fun i => i < w.heap.size) := fun _ hs hk => h.reach hs hk fun _ _ _ _ _ _ _ _ hb => hb
theorem VecS.is (h : VecS w v d S) : IsVec w v d := h w (Nat.le_refl _) fun _ _ _ => rfl
theorem VecS.ext (h : VecS w v d S) (hx : Ext w w') : VecS w' v d S := fun w2 hs hk => h w2 (Nat.le_trans hx.size hs) fun i hi hS => (hk i (Nat.lt_of_lt_of_le hi hx.size) hS).trans (hx.block i hi)
theorem VecS.mono (h : VecS w v d S) (hS : ∀ i, i < w.heap.size → S i → S' i) : VecS w v d S' := fun w2 hs hk => h w2 hs fun i hi hs => hk i hi (hS i hi hs)
theorem VecS.set (h : VecS w v d S) {p : Addr} (hp : ¬ S p.block) (u : Value) : VecS (w.setCell p u) v d S := fun w2 hs hk => h w2 (by simpa [World.setCell] using hs) fun i hi hS => by
  have e : i ≠ p.block := fun e => hp (e ▸ hS)
  rw [hk i (by simpa [World.setCell] using hi) hS]
  exact Below.heap_setCell w p u i e
end

/-- numbers l, in store k; for that, blocks of S alone are read -/
def NumS (w : World) (v : Value) (k : Nat) (l : List Nat) (S : Nat → Prop) : Prop := ∃ d, VecS w v d S ∧ d.kind = k ∧ 1 ≤ k ∧ k ≤ 4 ∧ d.nums = l
section
variable {w w' : World} {v : Value} {k : Nat} {l : List Nat} {S S' : Nat → Prop}
theorem NumS.is (h : NumS w v k l S) : IsNum w v k l := by
  obtain ⟨d, hv, h1⟩ := h
  exact ⟨d, hv.is, h1⟩
theorem NumS.all (h : IsNum w v k l) : NumS w v k l (fun i => i < w.heap.size) := by
  obtain ⟨d, hv, h1⟩ := h
  exact ⟨d, VecS.all hv, h1⟩
theorem NumS.mk (h : IsNum w v k l) (hf : In S v) : NumS w v k l S := by
  obtain ⟨d, hv, h1⟩ := h
  exact ⟨d, VecS.mk hv hf, h1⟩
theorem NumS.ext (h : NumS w v k l S) (hx : Ext w w') : NumS w' v k l S := by
  obtain ⟨d, hv, h1⟩ := h
  exact ⟨d, hv.ext hx, h1⟩
theorem NumS.mono (h : NumS w v k l S) (hS : ∀ i, i < w.heap.size → S i → S' i) : NumS w v k l S' := by
  obtain ⟨d, hv, h1⟩ := h
  exact ⟨d, hv.mono hS, h1⟩
theorem NumS.set (h : NumS w v k l S) {p : Addr} (hp : ¬ S p.block) (u : Value) : NumS (w.setCell p u) v k l S := by
  obtain ⟨d, hv, h1⟩ := h
  exact ⟨d, hv.set hp u, h1⟩
end
/-- new in w' since there were B blocks -/
abbrev New (B : Nat) (i : Nat) : Prop := B ≤ i
theorem In.one {S : Nat → Prop} {k : Int} {A : Option Addr} {n c : Nat} {x1 x2 x3 x4 x5 x6 x7 : Value} (hA : ∀ a, A = some a → S a.block)
    (h1 : x1 = .slice A n c ∨ x1 = .slice none 0 0) (h2 : ∃ m, x2 = .int .i64 m) (h3 : x3 = .slice A n c ∨ x3 = .slice none 0 0) (h4 : x4 = .slice A n c ∨ x4 = .slice none 0 0) (h5 : x5 = .slice A n c ∨ x5 = .slice none 0 0) (h6 : x6 = .slice A n c ∨ x6 = .slice none 0 0) (h7 : x7 = .slice A n c ∨ x7 = .slice none 0 0) :
    In S (.agg #[.int .i64 k, x1, x2, x3, x4, x5, x6, x7]) := by
  intro cs hcs A' n' c' hm a ha
  cases hcs
  obtain ⟨m, rfl⟩ := h2
  simp only [List.mem_cons, List.not_mem_nil, or_false] at hm
  have key : ∀ x, (x = Value.slice A n c ∨ x = Value.slice none 0 0) → Value.slice A' n' c' = x → S a.block := by
    intro x hx e
    rcases hx with rfl | rfl
    · cases e; exact hA a ha
    · cases e; cases ha
  rcases hm with e | e | e | e | e | e | e | e
  · cases e
  · exact key _ h1 e
  · cases e
  · exact key _ h3 e
  · exact key _ h4 e
  · exact key _ h5 e
  · exact key _ h6 e
  · exact key _ h7 e
end Go.Proofs.Ytdkgiklbmbkdaaa
