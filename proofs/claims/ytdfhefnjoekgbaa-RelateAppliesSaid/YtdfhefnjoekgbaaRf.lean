/- logic.Truths, logic.Apply, Packed and the document's Apply: one contract each. -/
import Derived.Test.YtdfhefnjoekgbaaRc
import Derived.Test.YtdfhefnjoekgbaaRe
import Derived.Test.YtdfhefnjoekgbaaSl
namespace Go.Proofs.Ytdfhefnjoekgbaa
open Go.ChangeShapes Go.WideShapes Go.RowKit Bv Fl
def bitsOf (D : VD) : List Bool := if D.kind = 1 then toB D.nums else []
theorem bitsOf_bits (b : List Bool) : bitsOf (VD.bits b) = b := by
  unfold bitsOf
  rw [if_pos (by rfl)]
  apply List.ext_getElem (by rw [toB_length, VD.nums_length]; rfl)
  intro j h1 h2
  simp only [toB, VD.nums, List.getElem_map, List.getElem_range]
  show decide (bitW (b.getD j false) = _) = _
  rw [show b.getD j false = b[j] by simp [List.getD, h2]]
  cases b[j] <;> rfl
theorem bitsOf_none : bitsOf VD.none = [] := by unfold bitsOf; rw [if_neg (by decide)]
theorem zeroBits_is (w : World) : IsB w zeroBits [] := ⟨by simp, none, 0, rfl, ⟨rfl, fun h => absurd h (by decide)⟩⟩
theorem BitS.nil {w : World} {S : Nat → Prop} : BitS w zeroBits [] S := fun w' _ _ => zeroBits_is w'
theorem VecS.zero {w : World} {S : Nat → Prop} : VecS w zeroVec VD.none S := fun w' _ _ => IsVec.zero w'
/-- numbers, as truths if they are such -/
def TruthsU (v0 : Value) (K : Nat) (l : List Nat) (w : World) (e : Ending) (w' : World) : Prop :=
  ∃ v, e = .returned (.tuple #[v, .bool (decide (leastL l ≤ 1))]) ∧ (∀ S, NumS w v0 K l S → BitS w' v (if decide (leastL l ≤ 1) then toB l else []) (fun i => S i ∨ New w.heap.size i)) ∧ Ext w w'
def PackedU (p0 : Value) (D : VD) (w : World) (e : Ending) (w' : World) : Prop :=
  ∃ v, e = .returned (.tuple #[v, .bool (D.kind == 1)]) ∧ (∀ S, VecS w p0 D S → BitS w' v (bitsOf D) S) ∧ Ext w w'
theorem packed_u (v : Value) (D : VD) (hD : D = VD.none ∨ ∃ b, D = VD.bits b) (w : World) (h : IsVec w v D) : Calls Try.prog 36 #[v] w (PackedU v D w) := by
  rcases hD with rfl | ⟨b, rfl⟩
  · refine (vpacked_none v VD.none w h (by decide)).mono ?_
    rintro e w' ⟨rfl, hx⟩
    refine ⟨_, rfl, fun S _ => ?_, hx⟩
    rw [bitsOf_none]
    exact BitS.nil
  · unfold PackedU
    rw [bitsOf_bits]
    exact VecS.packed v b w h
/-- what comes of two lists of numbers: the error -/
def appE (f : Int) (x y : List Nat) : Int :=
  if okL f = false then 1 else if lenOk (x.length : Int) (y.length : Int) = false then 23 else if lenV (x.length : Int) (y.length : Int) = 0 then 0 else if (decide (leastL x ≤ 1) && decide (leastL y ≤ 1)) = false then 24 else 0
def appL (f : Int) (x y : List Nat) : List Bool := if appE f x y = 0 then appB f (toB x) (toB y) (lenV (x.length : Int) (y.length : Int)).toNat else []
def appD (f : Int) (x y : List Nat) : VD := if appE f x y = 0 then VD.bits (appL f x y) else VD.none
theorem lenV_pos {m n : Nat} (hl : lenOk (m : Int) (n : Int) = true) : ∃ N : Nat, lenV (m : Int) (n : Int) = (N : Int) ∧ (N = m ∨ m = 1) ∧ (N = n ∨ n = 1) ∧ (N = m ∨ N = n) := by
  simp only [lenOk, Bool.or_eq_true, beq_iff_eq] at hl
  unfold lenV
  by_cases h1 : (m : Int) = n
  · rw [if_pos h1]; exact ⟨m, rfl, by omega, by omega, by omega⟩
  · rw [if_neg h1]
    by_cases h2 : (m : Int) = 1
    · rw [if_pos h2]; exact ⟨n, rfl, by omega, by omega, by omega⟩
    · rw [if_neg h2, if_pos (by omega)]; exact ⟨m, rfl, by omega, by omega, by omega⟩
def AppU (E : Int) (D : VD) (w : World) (e : Ending) (w' : World) : Prop :=
  ∃ p, e = .returned (.tuple #[p, .int .i64 E]) ∧ VecS w' p D (New w.heap.size) ∧ Ext w w'
end Go.Proofs.Ytdfhefnjoekgbaa
