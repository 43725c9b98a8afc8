/- rebusref16.Grade; order.Sorted of another number of places; the plain law of an order. -/
import Derived.Test.YtidnikndjhfgaaaTk
import Derived.Test.YtidnikndjhfgaaaTe
namespace Go.Proofs.Ytidnikndjhfgaaa
open Go.ChangeShapes Go.WideShapes Go.RowKit Bv Fl
set_option maxHeartbeats 2000000
set_option maxRecDepth 100000
/-- how many of the first k come ahead of i -/
def aheadN (L : Nat → Nat → Bool) (i : Nat) : Nat → Nat
  | 0 => 0
  | k + 1 => aheadN L i k + if k ≠ i ∧ L k i = true then 1 else 0
theorem aheadN_le (L : Nat → Nat → Bool) (i k : Nat) : aheadN L i k ≤ k := by
  induction k with
  | zero => exact Nat.le_refl _
  | succ k ih => show aheadN L i k + (if _ then 1 else 0) ≤ k + 1; split <;> omega
theorem aheadN_lt (L : Nat → Nat → Bool) (i k : Nat) (h : i < k) : aheadN L i k < k := by
  induction k with
  | zero => omega
  | succ k ih =>
    show aheadN L i k + (if _ then 1 else 0) < k + 1
    by_cases e : i = k
    · subst e
      rw [if_neg (by simp)]
      have := aheadN_le L i i
      omega
    · have := ih (by omega)
      split <;> omega
theorem aheadN_yes (L : Nat → Nat → Bool) (i k : Nat) (h1 : k ≠ i) (h2 : L k i = true) : aheadN L i (k + 1) = aheadN L i k + 1 := by show aheadN L i k + (if _ then 1 else 0) = _; rw [if_pos ⟨h1, h2⟩]
theorem aheadN_no (L : Nat → Nat → Bool) (i k : Nat) (h : ¬ (k ≠ i ∧ L k i = true)) : aheadN L i (k + 1) = aheadN L i k := by show aheadN L i k + (if _ then 1 else 0) = _; rw [if_neg h]; rfl
def rankL (L : Nat → Nat → Bool) (n : Nat) : List Int := (List.range n).map fun i => (aheadN L i n : Int)
theorem rankL_length (L : Nat → Nat → Bool) (n : Nat) : (rankL L n).length = n := by simp [rankL]
theorem rankL_get (L : Nat → Nat → Bool) (n : Nat) {i : Nat} (h : i < n) : (rankL L n).getD i 0 = (aheadN L i n : Int) := by simp [rankL, List.getD, h]
/-- what Grade has written of the first j -/
def gradeL (L : Nat → Nat → Bool) (n j : Nat) : List Int := (List.range n).map fun (p : Nat) => if posI (rankL L n) j (p : Int) < 0 then 0 else posI (rankL L n) j (p : Int)
theorem gradeL_length (L : Nat → Nat → Bool) (n j : Nat) : (gradeL L n j).length = n := by simp [gradeL]
theorem gradeL_get (L : Nat → Nat → Bool) (n j : Nat) {p : Nat} (h : p < n) : (gradeL L n j).getD p 0 = if posI (rankL L n) j (p : Int) < 0 then 0 else posI (rankL L n) j (p : Int) := by simp [gradeL, List.getD, h]
theorem gradeL_zero (L : Nat → Nat → Bool) (n : Nat) : gradeL L n 0 = List.replicate n 0 := by
  apply List.ext_getElem (by simp [gradeL_length])
  intro i h1 h2
  simp [gradeL, posI]
theorem gradeL_set (L : Nat → Nat → Bool) (n j : Nat) (hj : j < n) : (gradeL L n j).set (aheadN L j n) (j : Int) = gradeL L n (j + 1) := by
  apply List.ext_getElem (by simp [gradeL_length])
  intro i h1 h2
  have hi : i < n := by rw [gradeL_length] at h2; exact h2
  rw [List.getElem_set]
  simp only [gradeL, List.getElem_map, List.getElem_range]
  have hp : posI (rankL L n) (j + 1) (i : Int) = if (rankL L n).getD j 0 = (i : Int) then (j : Int) else posI (rankL L n) j (i : Int) := rfl
  rw [rankL_get L n hj] at hp
  by_cases e : aheadN L j n = i
  · rw [if_pos (by omega)] at hp
    rw [if_pos e, hp, if_neg (by omega)]
  · rw [if_neg (by omega)] at hp
    rw [if_neg e, hp]
/-- an order of the first n: total, and of three -/
structure TotL (L : Nat → Nat → Bool) (n : Nat) : Prop where
  irr : ∀ i, i < n → L i i = false
  tot : ∀ i j, i < n → j < n → i ≠ j → L i j = false → L j i = true
  tr : ∀ i j k, i < n → j < n → k < n → L i j = true → L j k = true → L i k = true
section
variable {L : Nat → Nat → Bool} {n : Nat}
theorem aheadN_mono (h : TotL L n) {i j : Nat} (hi : i < n) (hj : j < n) (hij : L i j = true) (k : Nat) (hk : k ≤ n) : aheadN L i k + (if i < k then 1 else 0) ≤ aheadN L j k := by
  induction k with
  | zero => simp [aheadN]
  | succ k ih =>
    have ih := ih (by omega)
    have hne : i ≠ j := fun e => by rw [e, h.irr j hj] at hij; cases hij
    by_cases e : k = i
    · subst e
      rw [aheadN_no L k k (by simp), aheadN_yes L j k hne hij, if_pos (by omega)]
      rw [if_neg (by omega)] at ih
      omega
    · have hs : (if i < k + 1 then 1 else 0) = (if i < k then 1 else 0) := by
        by_cases h' : i < k
        · rw [if_pos h', if_pos (by omega)]
        · rw [if_neg h', if_neg (by omega)]
      rw [hs]
      by_cases hL : L k i = true
      · have hkj : L k j = true := h.tr k i j (by omega) hi hj hL hij
        have hk2 : k ≠ j := fun e => by rw [e, h.irr j hj] at hkj; cases hkj
        rw [aheadN_yes L i k e hL, aheadN_yes L j k hk2 hkj]
        omega
      · rw [aheadN_no L i k (fun h => hL h.2)]
        have : aheadN L j k ≤ aheadN L j (k + 1) := Nat.le_add_right _ _
        omega
theorem rank_lt (h : TotL L n) {i j : Nat} (hi : i < n) (hj : j < n) (hij : L i j = true) : aheadN L i n < aheadN L j n := by
  have := aheadN_mono h hi hj hij n (Nat.le_refl _)
  rw [if_pos hi] at this
  omega
theorem rank_iff (h : TotL L n) {i j : Nat} (hi : i < n) (hj : j < n) (hr : aheadN L i n < aheadN L j n) : L i j = true := by
  cases e : L i j with
  | true => rfl
  | false =>
    have hne : i ≠ j := fun e => by rw [e] at hr; omega
    have := rank_lt h hj hi (h.tot i j hi hj hne e)
    omega
theorem rank_inj (h : TotL L n) {i j : Nat} (hi : i < n) (hj : j < n) (hr : aheadN L i n = aheadN L j n) : i = j := by
  by_cases e : i = j
  · exact e
  · cases e2 : L i j with
    | true => have := rank_lt h hi hj e2; omega
    | false => have := rank_lt h hj hi (h.tot i j hi hj e e2); omega
theorem cntI_two {a : List Int} {j : Nat} {p : Int} (h : 2 ≤ cntI a j p) : ∃ x y, x < y ∧ y < j ∧ a.getD x 0 = p ∧ a.getD y 0 = p := by
  induction j with
  | zero => simp [cntI] at h
  | succ j ih =>
    have e : cntI a (j + 1) p = cntI a j p + if a.getD j 0 = p then 1 else 0 := rfl
    rw [e] at h
    by_cases hp : a.getD j 0 = p
    · rw [if_pos hp] at h
      have h1 : cntI a j p ≠ 0 := by omega
      have h2 : ¬ ∀ i, i < j → a.getD i 0 ≠ p := fun hn => h1 (cntI_none a p j hn)
      obtain ⟨x, hx⟩ := Classical.not_forall.1 h2
      obtain ⟨hx1, hx2⟩ := Classical.not_imp.1 hx
      exact ⟨x, j, hx1, by omega, Classical.not_not.1 hx2, hp⟩
    · rw [if_neg hp] at h
      obtain ⟨x, y, h1, h2, h3, h4⟩ := ih (by omega)
      exact ⟨x, y, h1, by omega, h3, h4⟩
theorem rank_ok (h : TotL L n) : okI (rankL L n) (rankL L n).length = true := by
  rw [okI_iff, rankL_length]
  refine ⟨fun i hi => ?_, fun p => ?_⟩
  · rw [rankL_get L n hi]
    have := aheadN_lt L i n hi
    omega
  · refine Nat.not_lt.1 fun hlt => ?_
    obtain ⟨x, y, h1, h2, h3, h4⟩ := cntI_two hlt
    rw [rankL_get L n (by omega)] at h3
    rw [rankL_get L n h2] at h4
    have := rank_inj h (by omega) h2 (by omega : aheadN L x n = aheadN L y n)
    omega
/-- the place that the one of that rank has -/
theorem grade_at (h : TotL L n) {p : Nat} (hp : p < n) : ∃ g : Nat, g < n ∧ (gradeL L n n).getD p 0 = (g : Int) ∧ aheadN L g n = p := by
  obtain ⟨h1, h2, h3⟩ := pos_in (rankL L n) (rank_ok h) p (by rw [rankL_length]; exact hp)
  rw [rankL_length] at h1 h2 h3
  have hlt : (posI (rankL L n) n (p : Int)).toNat < n := by omega
  refine ⟨(posI (rankL L n) n (p : Int)).toNat, hlt, ?_, ?_⟩
  · rw [gradeL_get L n n hp, if_neg (by omega)]
    omega
  · rw [rankL_get L n hlt] at h3
    omega
theorem grade_rank (h : TotL L n) {i : Nat} (hi : i < n) : (gradeL L n n).getD (aheadN L i n) 0 = (i : Int) := by
  obtain ⟨g, h1, h2, h3⟩ := grade_at h (aheadN_lt L i n hi)
  rw [h2, rank_inj h h1 hi h3]
theorem okI_of {a : List Int} (h1 : ∀ i, i < a.length → 0 ≤ a.getD i 0 ∧ a.getD i 0 < (a.length : Int)) (h2 : ∀ x y, x < y → y < a.length → a.getD x 0 ≠ a.getD y 0) : okI a a.length = true := by
  rw [okI_iff]
  refine ⟨h1, fun p => Nat.not_lt.1 fun hlt => ?_⟩
  obtain ⟨x, y, e1, e2, e3, e4⟩ := cntI_two hlt
  exact h2 x y e1 e2 (by rw [e3, e4])
end
section
variable (X : List Int) (size : Nat) (down : Bool) (n : Nat) (h : TotL (fun x y => lessZ X size x y down) n)
theorem ahead_all {a : List Int} {k : Nat} (hs : ahead X size down a k = true) : ∀ j, 0 < j → j < k → lessZ X size (a.getD (j - 1) 0).toNat (a.getD j 0).toNat down = true := by
  induction k with
  | zero => intro j _ h; omega
  | succ k ih =>
    have e : ahead X size down a (k + 1) = (ahead X size down a k && (decide (k = 0) || lessZ X size (a.getD (k - 1) 0).toNat (a.getD k 0).toNat down)) := rfl
    rw [e] at hs
    simp only [Bool.and_eq_true, Bool.or_eq_true, decide_eq_true_eq] at hs
    intro j h0 hj
    by_cases e2 : j = k
    · subst e2
      rcases hs.2 with h | h
      · omega
      · exact h
    · exact ih hs.1 j h0 (by omega)
theorem ahead_of {a : List Int} {k : Nat} (hs : ∀ j, 0 < j → j < k → lessZ X size (a.getD (j - 1) 0).toNat (a.getD j 0).toNat down = true) : ahead X size down a k = true := by
  induction k with
  | zero => rfl
  | succ k ih =>
    show (ahead X size down a k && (decide (k = 0) || lessZ X size (a.getD (k - 1) 0).toNat (a.getD k 0).toNat down)) = true
    rw [ih (fun j h0 hj => hs j h0 (by omega))]
    by_cases e : k = 0
    · subst e; rfl
    · rw [hs k (by omega) (by omega)]; simp
include h
theorem srt_grade : srtZ X size down (gradeL (fun x y => lessZ X size x y down) n n) n = true := by
  have hg := fun p (hp : p < n) => grade_at h hp
  generalize hG : gradeL (fun x y => lessZ X size x y down) n n = G at hg ⊢
  have hl : G.length = n := by rw [← hG]; exact gradeL_length _ _ _
  unfold srtZ
  rw [Bool.and_eq_true]
  constructor
  · have := okI_of (a := G) (fun i hi => by
      obtain ⟨g, h1, h2, _⟩ := hg i (by omega)
      rw [h2, hl]
      omega) (fun x y hxy hy e => by
      obtain ⟨g, h1, h2, h3⟩ := hg x (by omega)
      obtain ⟨g', h1', h2', h3'⟩ := hg y (by omega)
      rw [h2, h2'] at e
      have : g = g' := by omega
      subst this
      omega)
    rwa [hl] at this
  · refine ahead_of X size down fun j h0 hj => ?_
    obtain ⟨g, h1, h2, h3⟩ := hg (j - 1) (by omega)
    obtain ⟨g', h1', h2', h3'⟩ := hg j hj
    rw [h2, h2', Int.toNat_natCast, Int.toNat_natCast]
    exact rank_iff h h1 h1' (by omega)
theorem srt_only {a : List Int} (hl : a.length = n) (hs : srtZ X size down a n = true) : a = gradeL (fun x y => lessZ X size x y down) n n := by
  unfold srtZ at hs
  rw [Bool.and_eq_true] at hs
  obtain ⟨hok, hah⟩ := hs
  have hin := ((okI_iff a n).1 hok).1
  have hal := ahead_all X size down hah
  have hr : ∀ j, j < n → j ≤ aheadN (fun x y => lessZ X size x y down) (a.getD j 0).toNat n := by
    intro j
    induction j with
    | zero => intro _; exact Nat.zero_le _
    | succ j ih =>
      intro hj
      have h1 := ih (by omega)
      have i1 := hin j (by omega)
      have i2 := hin (j + 1) hj
      have := rank_lt h (i := (a.getD j 0).toNat) (j := (a.getD (j + 1) 0).toNat) (by omega) (by omega) (hal (j + 1) (by omega) hj)
      omega
  have hr2 : ∀ d j, j + d + 1 = n → aheadN (fun x y => lessZ X size x y down) (a.getD j 0).toNat n ≤ j := by
    intro d
    induction d with
    | zero =>
      intro j hj
      have i1 := hin j (by omega)
      have := aheadN_lt (fun x y => lessZ X size x y down) (a.getD j 0).toNat n (by omega)
      omega
    | succ d ih =>
      intro j hj
      have h1 := ih (j + 1) (by omega)
      have i1 := hin j (by omega)
      have i2 := hin (j + 1) (by omega)
      have := rank_lt h (i := (a.getD j 0).toNat) (j := (a.getD (j + 1) 0).toNat) (by omega) (by omega) (hal (j + 1) (by omega) (by omega))
      omega
  apply List.ext_getElem (by rw [hl, gradeL_length])
  intro j h1 h2
  have hj : j < n := by omega
  have i1 := hin j hj
  have e : aheadN (fun x y => lessZ X size x y down) (a.getD j 0).toNat n = j := by
    have := hr j hj
    have := hr2 (n - j - 1) j (by omega)
    omega
  have hk := grade_rank h (i := (a.getD j 0).toNat) (by omega)
  rw [e] at hk
  have e1 : a[j] = a.getD j 0 := by simp [List.getD, h1]
  have e2 : (gradeL (fun x y => lessZ X size x y down) n n)[j] = (gradeL (fun x y => lessZ X size x y down) n n).getD j 0 := by simp [List.getD, h2]
  rw [e1, e2, hk]
  omega
theorem srt_iff {a : List Int} (hl : a.length = n) : srtZ X size down a n = decide (a = gradeL (fun x y => lessZ X size x y down) n n) := by
  cases e : srtZ X size down a n with
  | true => exact (decide_eq_true (srt_only X size down n h hl e)).symm
  | false => exact (decide_eq_false fun e2 => by rw [e2, srt_grade X size down n h] at e; cases e).symm
end
end Go.Proofs.Ytidnikndjhfgaaa
