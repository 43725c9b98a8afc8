/- Plain facts: the least store of numbers. -/
import Derived.Test.YtdfhefnjoekgbaaVj
namespace Go.Proofs.Ytdfhefnjoekgbaa
open Go.RowKit Bv Fl

/-- the least store of a whole number -/
def rankI (n : Int) : Nat := if n = 0 ∨ n = 1 then 1 else if -128 ≤ n ∧ n ≤ 127 then 2 else 3
theorem rankI_ge (n : Int) : 1 ≤ rankI n := by unfold rankI; split <;> (try split) <;> omega
theorem rankI_le (n : Int) : rankI n ≤ 3 := by unfold rankI; split <;> (try split) <;> omega
theorem rankI_le1 {n : Int} : rankI n ≤ 1 ↔ n = 0 ∨ n = 1 := by unfold rankI; split <;> (try split) <;> omega
theorem rankI_le2 {n : Int} : rankI n ≤ 2 ↔ -128 ≤ n ∧ n ≤ 127 := by unfold rankI; split <;> (try split) <;> omega
/-- the least store of the first k, where they are whole -/
def lm (l : List Nat) : Nat → Nat
  | 0 => 1
  | k + 1 => max (lm l k) (rankI (wn (l.getD k 0)))
theorem lm_ge (l : List Nat) (k : Nat) : 1 ≤ lm l k := by
  induction k with
  | zero => exact Nat.le_refl _
  | succ k ih => unfold lm; omega
theorem lm_le (l : List Nat) (k : Nat) : lm l k ≤ 3 := by
  induction k with
  | zero => show 1 ≤ 3; omega
  | succ k ih => unfold lm; have := rankI_le (wn (l.getD k 0)); omega
theorem lm_mono (l : List Nat) {j k : Nat} (h : j ≤ k) : lm l j ≤ lm l k := by
  induction h with
  | refl => exact Nat.le_refl _
  | step _ ih => exact Nat.le_trans ih (by show lm l _ ≤ max _ _; omega)
theorem lm_iff (l : List Nat) (r k : Nat) (hr : 1 ≤ r) : lm l k ≤ r ↔ ∀ j, j < k → rankI (wn (l.getD j 0)) ≤ r := by
  induction k with
  | zero => exact ⟨fun _ j hj => by omega, fun _ => hr⟩
  | succ k ih =>
    unfold lm
    constructor
    · intro h j hj
      by_cases e : j = k
      · subst e; omega
      · exact ih.1 (by omega) j (by omega)
    · intro h
      have h1 := ih.2 fun j hj => h j (by omega)
      have h2 := h k (by omega)
      omega
def allW (l : List Nat) : Bool := l.all fun x => decide (whole x)
theorem allW_iff {l : List Nat} : allW l = true ↔ ∀ j, j < l.length → whole (l.getD j 0) := by
  unfold allW
  rw [List.all_eq_true]
  constructor
  · intro h j hj
    exact of_decide_eq_true (h _ (getD_memN hj))
  · intro h x hx
    obtain ⟨j, hj, rfl⟩ := List.getElem_of_mem hx
    have := h j hj
    rw [show l.getD j 0 = l[j] by simp [List.getD, hj]] at this
    exact decide_eq_true this
def upW (l : List Nat) (k : Nat) : Prop := ∀ j, j < k → whole (l.getD j 0)
theorem upW_zero (l : List Nat) : upW l 0 := fun j hj => absurd hj (by omega)
theorem upW_step {l : List Nat} {k : Nat} (h : upW l k) (g : whole (l.getD k 0)) : upW l (k + 1) := by
  intro j hj
  by_cases e : j = k
  · subst e; exact g
  · exact h j (by omega)
theorem upW_all {l : List Nat} (h : upW l l.length) : allW l = true := allW_iff.2 h
theorem allW_false {l : List Nat} {k : Nat} (hk : k < l.length) (h : ¬ whole (l.getD k 0)) : allW l = false := by
  cases e : allW l
  · rfl
  · exact absurd (allW_iff.1 e k hk) h
/-- the least store of numbers -/
def leastL (l : List Nat) : Nat := if allW l then lm l l.length else 4
theorem leastL_ge (l : List Nat) : 1 ≤ leastL l := by unfold leastL; split; exact lm_ge _ _; omega
theorem leastL_le (l : List Nat) : leastL l ≤ 4 := by unfold leastL; split; (have := lm_le l l.length; omega); omega
theorem leastL_le3 {l : List Nat} : leastL l ≤ 3 ↔ allW l = true := by
  unfold leastL
  cases e : allW l
  · simp
  · simp [lm_le]
theorem leastL_le2 {l : List Nat} : leastL l ≤ 2 ↔ ∀ j, j < l.length → whole (l.getD j 0) ∧ -128 ≤ wn (l.getD j 0) ∧ wn (l.getD j 0) ≤ 127 := by
  unfold leastL
  cases e : allW l
  · simp only [Bool.false_eq_true, if_false]
    constructor
    · intro h; omega
    · intro h
      rw [allW_iff.2 fun j hj => (h j hj).1] at e
      cases e
  · simp only [if_true]
    rw [lm_iff l 2 _ (by omega)]
    have h := allW_iff.1 e
    constructor
    · intro g j hj; exact ⟨h j hj, rankI_le2.1 (g j hj)⟩
    · intro g j hj; exact rankI_le2.2 (g j hj).2
theorem wn_zero : wn 0 = 0 := by kernel_rfl
theorem wn_one : wn 4607182418800017408 = 1 := by kernel_rfl
theorem whole_zero : whole 0 := by exact (by kernel_rfl : decide (whole 0) = true) |> of_decide_eq_true
theorem whole_one : whole 4607182418800017408 := by exact (by kernel_rfl : decide (whole 4607182418800017408) = true) |> of_decide_eq_true
theorem wn_whole {b : Nat} (h : whole b) : wn b = trn b := by unfold wn; rw [if_pos h.1]
theorem fi_zero : fi 0 = 0 := by kernel_rfl
theorem fi_one : fi 1 = 4607182418800017408 := by kernel_rfl
/-- a tidy number is 0 or 1 just if it is whole and that -/
theorem truth_wn {b : Nat} (hb : tidy b) : (whole b ∧ (wn b = 0 ∨ wn b = 1)) ↔ (b = 0 ∨ b = 4607182418800017408) := by
  constructor
  · rintro ⟨h, h1⟩
    rw [wn_whole h] at h1
    have e := whole_tidy h hb
    rcases h1 with h1 | h1
    · left; rw [e, h1, fi_zero]
    · right; rw [e, h1, fi_one]
  · rintro (rfl | rfl)
    · exact ⟨whole_zero, .inl wn_zero⟩
    · exact ⟨whole_one, .inr wn_one⟩
theorem leastL_le1 {l : List Nat} (ht : ∀ x ∈ l, tidy x) : leastL l ≤ 1 ↔ ∀ j, j < l.length → l.getD j 0 = 0 ∨ l.getD j 0 = 4607182418800017408 := by
  unfold leastL
  cases e : allW l
  · simp only [Bool.false_eq_true, if_false]
    constructor
    · intro h; omega
    · intro h
      rw [allW_iff.2 fun j hj => ((truth_wn (ht _ (getD_memN hj))).2 (h j hj)).1] at e
      cases e
  · simp only [if_true]
    rw [lm_iff l 1 _ (by omega)]
    have h := allW_iff.1 e
    constructor
    · intro g j hj; exact (truth_wn (ht _ (getD_memN hj))).1 ⟨h j hj, rankI_le1.1 (g j hj)⟩
    · intro g j hj; exact rankI_le1.2 ((truth_wn (ht _ (getD_memN hj))).2 (g j hj)).2
theorem wcmp {b : Nat} (hb : whole b) {n : Int} (h1 : -9007199254740992 ≤ n) (h2 : n ≤ 9007199254740992) : (key b < key (fi n) ↔ trn b < n) ∧ (key (fi n) < key b ↔ n < trn b) ∧ (key b = key (fi n) ↔ trn b = n) := by
  have h := trn_le hb.1
  rw [← (whole_key hb.1).2 hb]
  exact ⟨fi_lt h.1 h.2 h1 h2, fi_lt h1 h2 h.1 h.2, fi_inj h.1 h.2 h1 h2⟩
theorem fi_m128 : 13862079653046386688 = fi (-128) := by kernel_rfl
theorem fi_127 : 4638637247447433216 = fi 127 := by kernel_rfl
theorem t_m128 {b : Nat} (hb : whole b) : (FloatKind.f64.format.order b 13862079653046386688 == some .lt) = decide (trn b < -128) := by
  rw [c_lt hb.1.fin.nn (by decide), fi_m128]; exact decide_eq_decide.2 (wcmp hb (by omega) (by omega)).1
theorem t_127 {b : Nat} (hb : whole b) : (FloatKind.f64.format.order b 4638637247447433216 == some .gt) = decide (127 < trn b) := by
  rw [c_gt hb.1.fin.nn (by decide), fi_127]; exact decide_eq_decide.2 (wcmp hb (by omega) (by omega)).2.1
theorem t_ne0 {b : Nat} (hb : whole b) : (FloatKind.f64.format.order b 0 != some .eq) = !decide (trn b = 0) := by
  rw [c_ne hb.1.fin.nn nn_zero]
  have h := (@wcmp b hb 0 (by omega) (by omega)).2.2
  rw [fi_zero] at h
  rw [decide_eq_decide.2 h]
theorem t_ne1 {b : Nat} (hb : whole b) : (FloatKind.f64.format.order b 4607182418800017408 != some .eq) = !decide (trn b = 1) := by
  rw [c_ne hb.1.fin.nn nn_one]
  have h := (@wcmp b hb 1 (by omega) (by omega)).2.2
  rw [fi_one] at h
  rw [decide_eq_decide.2 h]
/-- do numbers fit a store? -/
def fitsL (l : List Nat) (kind : Int) : Bool := decide ((leastL l : Int) ≤ kind ∧ kind ≤ 4)
/-- what is in a truth's word -/
def toB (l : List Nat) : List Bool := l.map fun x => decide (x = 4607182418800017408)
def toI (l : List Nat) : List Int := l.map trn
theorem toB_length (l : List Nat) : (toB l).length = l.length := by simp [toB]
theorem toI_length (l : List Nat) : (toI l).length = l.length := by simp [toI]
theorem toB_get {l : List Nat} {k : Nat} (h : k < l.length) : (toB l).getD k false = decide (l.getD k 0 = 4607182418800017408) := by simp [toB, List.getD, h]
theorem toI_get {l : List Nat} {k : Nat} (h : k < l.length) : (toI l).getD k 0 = trn (l.getD k 0) := by simp [toI, List.getD, h]
theorem ext_getD {l m : List Nat} (hl : l.length = m.length) (h : ∀ j, j < l.length → l.getD j 0 = m.getD j 0) : l = m := by
  apply List.ext_getElem hl
  intro j h1 h2
  have := h j h1
  simpa [List.getD, h1, h2] using this
end Go.Proofs.Ytdfhefnjoekgbaa
