/- Plain facts: where each of some places stands. -/
import Derived.Test.YtidnikndjhfgaaaHp
namespace Go.Proofs.Ytidnikndjhfgaaa
/-- where p stands among the first; below 0: nowhere -/
def posI (a : List Int) : Nat → Int → Int
  | 0, _ => -1
  | j + 1, p => if a.getD j 0 = p then j else posI a j p
/-- how often p stands among the first -/
def cntI (a : List Int) : Nat → Int → Nat
  | 0, _ => 0
  | j + 1, p => cntI a j p + (if a.getD j 0 = p then 1 else 0)
/-- the first are places, each once -/
def okI (a : List Int) : Nat → Bool
  | 0 => true
  | j + 1 => okI a j && (decide (0 ≤ a.getD j 0 ∧ a.getD j 0 < (a.length : Int)) && decide (posI a j (a.getD j 0) < 0))
theorem posI_lt (a : List Int) (j : Nat) (p : Int) : -1 ≤ posI a j p ∧ posI a j p < (j : Int) := by
  induction j with
  | zero => show -1 ≤ (-1 : Int) ∧ (-1 : Int) < 0; omega
  | succ j ih =>
    unfold posI
    split <;> omega
theorem posI_at (a : List Int) (j : Nat) (p : Int) (h : 0 ≤ posI a j p) : a.getD (posI a j p).toNat 0 = p := by
  induction j with
  | zero => exact absurd h (by show ¬ (0 : Int) ≤ -1; omega)
  | succ j ih =>
    unfold posI at h ⊢
    by_cases e : a.getD j 0 = p
    · rw [if_pos e, Int.toNat_natCast]; exact e
    · rw [if_neg e] at h ⊢; exact ih h
theorem posI_cnt (a : List Int) (j : Nat) (p : Int) : posI a j p < 0 ↔ cntI a j p = 0 := by
  induction j with
  | zero => constructor <;> intro _ <;> (first | rfl | (show (-1 : Int) < 0; omega))
  | succ j ih =>
    unfold posI cntI
    by_cases e : a.getD j 0 = p
    · rw [if_pos e, if_pos e]; constructor <;> intro h <;> omega
    · rw [if_neg e, if_neg e]; exact ih
theorem cntI_mono (a : List Int) (p : Int) {i j : Nat} (h : i ≤ j) : cntI a i p ≤ cntI a j p := by
  induction h with
  | refl => exact Nat.le_refl _
  | step _ ih => exact Nat.le_trans ih (by show _ ≤ cntI a _ p + _; omega)
theorem cntI_none (a : List Int) (p : Int) (j : Nat) (h : ∀ i, i < j → a.getD i 0 ≠ p) : cntI a j p = 0 := by
  induction j with
  | zero => rfl
  | succ j ih => unfold cntI; rw [ih fun i hi => h i (by omega), if_neg (h j (by omega))]
theorem okI_iff (a : List Int) (j : Nat) : okI a j = true ↔ (∀ i, i < j → 0 ≤ a.getD i 0 ∧ a.getD i 0 < (a.length : Int)) ∧ ∀ p, cntI a j p ≤ 1 := by
  induction j with
  | zero => exact ⟨fun _ => ⟨fun i hi => by omega, fun p => Nat.zero_le _⟩, fun _ => rfl⟩
  | succ j ih =>
    unfold okI
    simp only [Bool.and_eq_true, decide_eq_true_eq]
    rw [ih]
    constructor
    · rintro ⟨⟨h1, h2⟩, h3, h4⟩
      refine ⟨fun i hi => ?_, fun p => ?_⟩
      · by_cases e : i = j
        · subst e; exact h3
        · exact h1 i (by omega)
      · unfold cntI
        by_cases e : a.getD j 0 = p
        · rw [if_pos e]
          subst e
          have := (posI_cnt a j _).1 h4
          omega
        · rw [if_neg e]; exact h2 p
    · rintro ⟨h1, h2⟩
      refine ⟨⟨fun i hi => h1 i (by omega), fun p => Nat.le_trans (cntI_mono a p (Nat.le_succ j)) (h2 p)⟩, h1 j (by omega), ?_⟩
      have h := h2 (a.getD j 0)
      unfold cntI at h
      rw [if_pos rfl] at h
      exact (posI_cnt a j _).2 (by omega)
def sumC (a : List Int) (j : Nat) : Nat → Nat
  | 0 => 0
  | m + 1 => sumC a j m + cntI a j (m : Int)
def inR (a : List Int) (m : Nat) : Nat → Nat
  | 0 => 0
  | j + 1 => inR a m j + (if 0 ≤ a.getD j 0 ∧ a.getD j 0 < (m : Int) then 1 else 0)
theorem sumC_step (a : List Int) (j m : Nat) : sumC a (j + 1) m = sumC a j m + (if 0 ≤ a.getD j 0 ∧ a.getD j 0 < (m : Int) then 1 else 0) := by
  induction m with
  | zero => rw [if_neg (by omega)]; rfl
  | succ m ih =>
    show sumC a (j + 1) m + cntI a (j + 1) (m : Int) = sumC a j m + cntI a j (m : Int) + _
    rw [ih]
    show sumC a j m + _ + (cntI a j (m : Int) + _) = _
    by_cases e : a.getD j 0 = (m : Int)
    · rw [if_pos e, if_neg (by omega), if_pos (by omega)]; omega
    · rw [if_neg e]
      by_cases h : 0 ≤ a.getD j 0 ∧ a.getD j 0 < (m : Int)
      · rw [if_pos h, if_pos (by omega)]; omega
      · rw [if_neg h, if_neg (by omega)]; omega
theorem sumC_in (a : List Int) (m j : Nat) : sumC a j m = inR a m j := by
  induction j with
  | zero =>
    induction m with
    | zero => rfl
    | succ m ih => show sumC a 0 m + 0 = _; rw [ih]; rfl
  | succ j ih => rw [sumC_step, ih]; rfl
theorem inR_le (a : List Int) (m j : Nat) : inR a m j ≤ j := by
  induction j with
  | zero => exact Nat.le_refl _
  | succ j ih => unfold inR; split <;> omega
theorem inR_all (a : List Int) (m j : Nat) : inR a m j = j ↔ ∀ i, i < j → 0 ≤ a.getD i 0 ∧ a.getD i 0 < (m : Int) := by
  induction j with
  | zero => exact ⟨fun _ i hi => by omega, fun _ => rfl⟩
  | succ j ih =>
    have hl := inR_le a m j
    unfold inR
    by_cases h : 0 ≤ a.getD j 0 ∧ a.getD j 0 < (m : Int)
    · rw [if_pos h]
      constructor
      · intro e i hi
        by_cases e1 : i = j
        · subst e1; exact h
        · exact ih.1 (by omega) i (by omega)
      · intro g; rw [ih.2 fun i hi => g i (by omega)]
    · rw [if_neg h]
      exact ⟨fun e => by omega, fun g => absurd (g j (by omega)) h⟩
theorem sumC_one (a : List Int) (j m : Nat) (h : ∀ p, cntI a j p ≤ 1) : sumC a j m ≤ m ∧ (sumC a j m = m → ∀ p : Nat, p < m → cntI a j (p : Int) = 1) := by
  induction m with
  | zero => exact ⟨Nat.le_refl _, fun _ p hp => by omega⟩
  | succ m ih =>
    have h1 := h (m : Int)
    show sumC a j m + cntI a j (m : Int) ≤ m + 1 ∧ (sumC a j m + cntI a j (m : Int) = m + 1 → _)
    refine ⟨by omega, fun e p hp => ?_⟩
    by_cases e1 : p = m
    · subst e1; omega
    · exact ih.2 (by omega) p (by omega)
theorem sumC_ones (a : List Int) (j m : Nat) (h : ∀ p : Nat, p < m → cntI a j (p : Int) = 1) : sumC a j m = m := by
  induction m with
  | zero => rfl
  | succ m ih => show sumC a j m + cntI a j (m : Int) = m + 1; rw [ih fun p hp => h p (by omega), h m (by omega)]
/-- they are places, each once, just if each place stands there once -/
theorem ok_once (a : List Int) : okI a a.length = decide (∀ p, p < a.length → cntI a a.length (p : Int) = 1) := by
  rw [Bool.eq_iff_iff, okI_iff, decide_eq_true_eq]
  constructor
  · rintro ⟨h1, h2⟩ p hp
    have e := (inR_all a a.length a.length).2 h1
    rw [← sumC_in] at e
    exact (sumC_one a a.length a.length h2).2 e p hp
  · intro h
    have e := sumC_ones a a.length a.length h
    rw [sumC_in] at e
    have h1 := (inR_all a a.length a.length).1 e
    refine ⟨h1, fun p => ?_⟩
    by_cases hp : 0 ≤ p ∧ p < (a.length : Int)
    · have := h p.toNat (by omega)
      rw [Int.toNat_of_nonneg hp.1] at this
      omega
    · rw [cntI_none a p a.length fun i hi e => hp (e ▸ h1 i hi)]; omega
/-- where each stands, if each stands there -/
theorem pos_in (a : List Int) (h : okI a a.length = true) (p : Nat) (hp : p < a.length) : 0 ≤ posI a a.length (p : Int) ∧ posI a a.length (p : Int) < (a.length : Int) ∧ a.getD (posI a a.length (p : Int)).toNat 0 = (p : Int) := by
  rw [ok_once, decide_eq_true_eq] at h
  have h1 := h p hp
  have h2 : 0 ≤ posI a a.length (p : Int) := by
    refine Int.not_lt.1 fun hl => ?_
    have := (posI_cnt a a.length (p : Int)).1 hl
    omega
  exact ⟨h2, (posI_lt a a.length (p : Int)).2, posI_at a a.length (p : Int) h2⟩
/-- what is written down at each round -/
def posL (a : List Int) (j : Nat) : List Int := (List.range a.length).map fun (p : Nat) => posI a j (p : Int)
theorem posL_length (a : List Int) (j : Nat) : (posL a j).length = a.length := by simp [posL]
theorem posL_get (a : List Int) (j : Nat) {p : Nat} (hp : p < a.length) : (posL a j).getD p 0 = posI a j (p : Int) := by simp [posL, List.getD, hp]
theorem posL_set (a : List Int) (j : Nat) (h : 0 ≤ a.getD j 0 ∧ a.getD j 0 < (a.length : Int)) : (posL a j).set (a.getD j 0).toNat (j : Int) = posL a (j + 1) := by
  apply List.ext_getElem (by simp [posL_length])
  intro i h1 h2
  have hi : i < a.length := by rw [posL_length] at h2; exact h2
  rw [List.getElem_set]
  by_cases e : (a.getD j 0).toNat = i
  · rw [if_pos e]
    simp only [posL, List.getElem_map, List.getElem_range]
    show (j : Int) = if a.getD j 0 = (i : Int) then (j : Int) else _
    rw [if_pos (by omega)]
  · rw [if_neg e]
    simp only [posL, List.getElem_map, List.getElem_range]
    show posI a j (i : Int) = if a.getD j 0 = (i : Int) then (j : Int) else _
    rw [if_neg (by omega)]
theorem posL_zero (a : List Int) : posL a 0 = List.replicate a.length (-1) := by
  apply List.ext_getElem (by simp [posL_length])
  intro i h1 h2
  simp [posL, posI]
end Go.Proofs.Ytidnikndjhfgaaa
