/- logic.Truths, logic.Apply, Packed and the document's Apply: one contract each. -/
import Derived.Test.YtdfhefnjoekgbaaDoorRc
import Derived.Test.YtdfhefnjoekgbaaDoorRe
namespace Go.Proofs.YtdfhefnjoekgbaaDoor
open Go.ChangeShapes Go.WideShapes Go.RowKit Bv Fl
/-- of the blocks that there are, those of S alone are read for the slice to show xs -/
def SlS (w : World) (s : Nat) (A : Option Addr) (n : Nat) (xs : List Value) (S : Nat → Prop) : Prop := ∀ w' : World, w.heap.size ≤ w'.heap.size → (∀ i, i < w.heap.size → S i → w'.heap[i]? = w.heap[i]?) → Sl w' s A n xs
section
variable {w w' : World} {s n g : Nat} {A : Option Addr} {xs : List Value} {S : Nat → Prop}
theorem SlS.all (h : Sl w s A n xs) : SlS w s A n xs (fun i => i < w.heap.size) := fun _ hs hk => h.reach hs hk fun _ _ hb => hb
theorem SlS.is (h : SlS w s A n xs S) : Sl w s A n xs := h w (Nat.le_refl _) fun _ _ _ => rfl
theorem SlS.ext (h : SlS w s A n xs S) (hx : Ext w w') : SlS w' s A n xs S := fun w2 hs hk => h w2 (Nat.le_trans hx.size hs) fun i hi hS => (hk i (Nat.lt_of_lt_of_le hi hx.size) hS).trans (hx.block i hi)
theorem SlS.grown (h : SlS w s A n xs S) (hg : w.grownBy w' (some g)) (hS : ¬ S g) : SlS w' s A n xs S := fun w2 hs hk => h w2 (Nat.le_trans hg.size hs) fun i hi hi' => by
  have e : i ≠ g := fun e => hS (e ▸ hi')
  rw [hk i (Nat.lt_of_lt_of_le hi hg.size) hi']
  exact hg.block i hi (by simpa using e)
end
def bitsOf (D : VD) : List Bool := if D.kind = 1 then toB D.nums else []
theorem bitsOf_bits (b : List Bool) : bitsOf (VD.bits b) = b := by
  unfold bitsOf
  rw [if_pos (by rfl)]
  apply List.ext_getElem (by rw [toB_length, VD.nums_length]; rfl)
  intro j h1 h2
  simp only [toB, VD.nums, List.getElem_map, List.getElem_range]
  show decide (bitW (b.getD j false) = _) = _
  rw [show b.getD j false = b[j] by simp [List.getD, h2]]
  cases b[j] <;> rfl
theorem bitsOf_none : bitsOf VD.none = [] := by unfold bitsOf; rw [if_neg (by decide)]
theorem zeroBits_is (w : World) : IsB w zeroBits [] := ⟨by simp, none, 0, rfl, ⟨rfl, fun h => absurd h (by decide)⟩⟩
theorem BitS.nil {w : World} {S : Nat → Prop} : BitS w zeroBits [] S := fun w' _ _ => zeroBits_is w'
theorem VecS.zero {w : World} {S : Nat → Prop} : VecS w zeroVec VD.none S := fun w' _ _ => IsVec.zero w'
/-- numbers, as truths if they are such -/
def TruthsU (v0 : Value) (K : Nat) (l : List Nat) (w : World) (e : Ending) (w' : World) : Prop :=
  ∃ v, e = .returned (.tuple #[v, .bool (decide (leastL l ≤ 1))]) ∧ (∀ S, NumS w v0 K l S → BitS w' v (if decide (leastL l ≤ 1) then toB l else []) (fun i => S i ∨ New w.heap.size i)) ∧ Ext w w'
theorem truths_u (v : Value) (K : Nat) (l : List Nat) (w : World) (h : IsNum w v K l) : Calls Tryd.prog 22 #[v] w (TruthsU v K l w) := by
  unfold TruthsU
  by_cases hf : leastL l ≤ 1
  · rw [decide_eq_true hf]
    exact truths_yes v K l hf w h
  · rw [decide_eq_false hf]
    refine (truths_no v K l (by omega) w h).mono ?_
    rintro e w' ⟨rfl, hx⟩
    exact ⟨_, rfl, fun S _ => BitS.nil, hx⟩
def PackedU (p0 : Value) (D : VD) (w : World) (e : Ending) (w' : World) : Prop :=
  ∃ v, e = .returned (.tuple #[v, .bool (D.kind == 1)]) ∧ (∀ S, VecS w p0 D S → BitS w' v (bitsOf D) S) ∧ Ext w w'
theorem packed_u (v : Value) (D : VD) (hD : D = VD.none ∨ ∃ b, D = VD.bits b) (w : World) (h : IsVec w v D) : Calls Tryd.prog 9 #[v] w (PackedU v D w) := by
  rcases hD with rfl | ⟨b, rfl⟩
  · refine (vpacked_none v VD.none w h (by decide)).mono ?_
    rintro e w' ⟨rfl, hx⟩
    refine ⟨_, rfl, fun S _ => ?_, hx⟩
    rw [bitsOf_none]
    exact BitS.nil
  · unfold PackedU
    rw [bitsOf_bits]
    exact VecS.packed v b w h
/-- what comes of two lists of numbers: the error -/
def appE (f : Int) (x y : List Nat) : Int :=
  if okL f = false then 1 else if lenOk (x.length : Int) (y.length : Int) = false then 23 else if lenV (x.length : Int) (y.length : Int) = 0 then 0 else if (decide (leastL x ≤ 1) && decide (leastL y ≤ 1)) = false then 24 else 0
def appL (f : Int) (x y : List Nat) : List Bool := if appE f x y = 0 then appB f (toB x) (toB y) (lenV (x.length : Int) (y.length : Int)).toNat else []
def appD (f : Int) (x y : List Nat) : VD := if appE f x y = 0 then VD.bits (appL f x y) else VD.none
theorem appD_cases (f : Int) (x y : List Nat) : appD f x y = VD.none ∨ ∃ b, appD f x y = VD.bits b := by
  unfold appD; split
  · exact .inr ⟨_, rfl⟩
  · exact .inl rfl
theorem appD_kind (f : Int) (x y : List Nat) : ((appD f x y).kind == 1) = (appE f x y == 0) := by
  unfold appD; split
  · rename_i h; rw [h]; rfl
  · rename_i h
    rw [show (appE f x y == 0) = false by simpa using h]; rfl
theorem appD_bits (f : Int) (x y : List Nat) : bitsOf (appD f x y) = appL f x y := by
  unfold appD; split
  · exact bitsOf_bits _
  · rename_i h; unfold appL; rw [if_neg h]; exact bitsOf_none
theorem lenV_pos {m n : Nat} (hl : lenOk (m : Int) (n : Int) = true) : ∃ N : Nat, lenV (m : Int) (n : Int) = (N : Int) ∧ (N = m ∨ m = 1) ∧ (N = n ∨ n = 1) ∧ (N = m ∨ N = n) := by
  simp only [lenOk, Bool.or_eq_true, beq_iff_eq] at hl
  unfold lenV
  by_cases h1 : (m : Int) = n
  · rw [if_pos h1]; exact ⟨m, rfl, by omega, by omega, by omega⟩
  · rw [if_neg h1]
    by_cases h2 : (m : Int) = 1
    · rw [if_pos h2]; exact ⟨n, rfl, by omega, by omega, by omega⟩
    · rw [if_neg h2, if_pos (by omega)]; exact ⟨m, rfl, by omega, by omega, by omega⟩
def AppU (E : Int) (D : VD) (w : World) (e : Ending) (w' : World) : Prop :=
  ∃ p, e = .returned (.tuple #[p, .int .i64 E]) ∧ VecS w' p D (New w.heap.size) ∧ Ext w w'
theorem apply_u (f : Int) (v u : Value) (K J : Nat) (x y : List Nat) (hx1 : x.length ≤ 1048576) (hy1 : y.length ≤ 1048576) (w : World) (hv : IsNum w v K x) (hu : IsNum w u J y) : Calls Tryd.prog 6 #[.int .i64 f, v, u] w (AppU (appE f x y) (appD f x y) w) := by
  have hF := hv.flat
  have hG := hu.flat
  have ca : ∀ w', Ext w w' → Calls Tryd.prog 20 #[v] w' fun e w2 => e = .returned (.int .i64 (x.length : Int)) ∧ Ext w' w2 := fun w' h => nlen_any v K x w' (hv.ext h)
  have cb : ∀ w', Ext w w' → Calls Tryd.prog 20 #[u] w' fun e w2 => e = .returned (.int .i64 (y.length : Int)) ∧ Ext w' w2 := fun w' h => nlen_any u J y w' (hu.ext h)
  have err : ∀ k : Int, k ≠ 0 → appE f x y = k → Calls Tryd.prog 6 #[.int .i64 f, v, u] w (fun e w' => e = .returned (.tuple #[zeroVec, .int .i64 k]) ∧ Ext w w') → Calls Tryd.prog 6 #[.int .i64 f, v, u] w (AppU (appE f x y) (appD f x y) w) := by
    intro k hk hE h
    refine h.mono ?_
    rintro e w' ⟨rfl, hx⟩
    refine ⟨_, by rw [hE], ?_, hx⟩
    unfold appD
    rw [if_neg (by rw [hE]; exact hk)]
    exact VecS.zero
  cases hok : okL f
  · exact err 1 (by decide) (by unfold appE; rw [if_pos hok]) (apply_bad f v u w hok hF hG)
  cases hle : lenOk (x.length : Int) (y.length : Int)
  · exact err 23 (by decide) (by unfold appE; rw [if_neg (by rw [hok]; decide), if_pos hle]) (apply_len f v u w hok _ _ ca cb hle hF hG)
  obtain ⟨N, hN, hNm, hNn, hNo⟩ := lenV_pos hle
  by_cases h0 : N = 0
  · subst h0
    have hE : appE f x y = 0 := by unfold appE; rw [if_neg (by rw [hok]; decide), if_neg (by rw [hle]; decide), if_pos (by rw [hN]; rfl)]
    have hD : appD f x y = VD.bits [] := by
      unfold appD appL; rw [if_pos hE, if_pos hE, hN]; rfl
    rw [hE, hD]
    exact apply_zero f v u w hok _ _ ca cb hle (by rw [hN]; rfl) (fun w' h => lnone_yes v u w' hF hG (fun w2 h2 => nclass_any v K x w2 (hv.ext (h.trans h2))) (fun w2 h2 => nclass_any u J y w2 (hu.ext (h.trans h2)))) hF hG
  have hNi : (lenV (x.length : Int) (y.length : Int) == 0) = false := by rw [hN]; simp; omega
  have hN0 : ¬ lenV (x.length : Int) (y.length : Int) = 0 := by rw [hN]; omega
  have tp : ∀ w', Ext w w' → Calls Tryd.prog 22 #[v] w' fun e w2 => ∃ p, e = .returned (.tuple #[p, .bool (decide (leastL x ≤ 1))]) ∧ BitS w2 p (if decide (leastL x ≤ 1) then toB x else []) (fun i => i < w.heap.size ∨ New w'.heap.size i) ∧ Ext w' w2 := fun w' h => (truths_u v K x w' (hv.ext h)).mono fun e w2 => by
    rintro ⟨p, rfl, hq, hx⟩
    exact ⟨p, rfl, hq _ ((NumS.all hv).ext h), hx⟩
  have tq : ∀ w', Ext w w' → Calls Tryd.prog 22 #[u] w' fun e w2 => ∃ p, e = .returned (.tuple #[p, .bool (decide (leastL y ≤ 1))]) ∧ BitS w2 p (if decide (leastL y ≤ 1) then toB y else []) (fun i => i < w.heap.size ∨ New w'.heap.size i) ∧ Ext w' w2 := fun w' h => (truths_u u J y w' (hu.ext h)).mono fun e w2 => by
    rintro ⟨p, rfl, hq, hx⟩
    exact ⟨p, rfl, hq _ ((NumS.all hu).ext h), hx⟩
  by_cases tx : leastL x ≤ 1
  · rw [decide_eq_true tx] at tp
    by_cases ty : leastL y ≤ 1
    · rw [decide_eq_true ty] at tq
      have hE : appE f x y = 0 := by unfold appE; rw [if_neg (by rw [hok]; decide), if_neg (by rw [hle]; decide), if_neg hN0, decide_eq_true tx, decide_eq_true ty, if_neg (by decide)]
      have lx : (toB x).length = x.length := toB_length x
      have ly : (toB y).length = y.length := toB_length y
      have hD : appD f x y = VD.bits (ttL (tblN f) (sprL (toB x) N) (sprL (toB y) N)) := by
        unfold appD appL; rw [if_pos hE, if_pos hE, hN, ttL_app f hok _ _ _ (by omega) (by omega), Int.toNat_natCast]
      rw [hE, hD]
      by_cases e1 : x.length = N
      · by_cases e2 : y.length = N
        · exact apply_ff f v u w hok _ _ N hle hN (by omega) (by omega) ca cb _ _ (by omega) (by omega) tp tq hF hG
        · exact apply_ft f v u w hok _ _ N hle hN (by omega) (by omega) ca cb _ _ (by omega) (by omega) tp tq hF hG
      · exact apply_tf f v u w hok _ _ N hle hN (by omega) (by omega) ca cb _ _ (by omega) (by omega) tp tq hF hG
    · have hty := decide_eq_false ty
      rw [hty] at tq
      refine err 24 (by decide) (by unfold appE; rw [if_neg (by rw [hok]; decide), if_neg (by rw [hle]; decide), if_neg hN0, hty, Bool.and_false, if_pos rfl]) (apply_dom2 f v u w hok _ _ ca cb hle hNi _ tp (fun w' h => (truths_no u J y (by omega) w' (hu.ext h))) hF hG)
  · have htx := decide_eq_false tx
    refine err 24 (by decide) (by unfold appE; rw [if_neg (by rw [hok]; decide), if_neg (by rw [hle]; decide), if_neg hN0, htx, Bool.false_and, if_pos rfl]) (apply_dom1 f v u w hok _ _ ca cb hle hNi (fun w' h => (truths_no v K x (by omega) w' (hv.ext h))) _ (fun w' h => (tq w' h).mono fun e w2 => by
      rintro ⟨p, rfl, hq, hx⟩
      exact ⟨p, rfl, hq.is.flat, hx⟩) hF hG)
end Go.Proofs.YtdfhefnjoekgbaaDoor
