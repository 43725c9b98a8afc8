/- logic.none, logic.Apply. -/
import Derived.Test.YtdfhefnjoekgbaaRb
import Derived.Test.YtdfhefnjoekgbaaRa
namespace Go.Proofs.Ytdfhefnjoekgbaa
open Go.ChangeShapes Go.WideShapes Go.RowKit Bv Fl
/-- truths as wanted: so many -/
def sprL (x : List Bool) (N : Nat) : List Bool := if x.length = N then x else List.replicate N (x.getD 0 false)
theorem sprL_length (x : List Bool) (N : Nat) : (sprL x N).length = N := by unfold sprL; split; assumption; simp
/-- the truth that goes with a place -/
def pkB (x : List Bool) (i : Nat) : Bool := if 1 < x.length then x.getD i false else x.getD 0 false
theorem sprL_get (x : List Bool) (N i : Nat) (hx : x.length = N ∨ x.length = 1) (hi : i < N) : (sprL x N).getD i false = pkB x i := by
  unfold sprL pkB
  by_cases h : x.length = N
  · rw [if_pos h]
    by_cases h1 : 1 < x.length
    · rw [if_pos h1]
    · rw [if_neg h1, show i = 0 by omega]
  · rw [if_neg h, if_neg (by omega)]
    simp [List.getD, hi]
/-- what a function makes of two lists of truths -/
def appB (f : Int) (x y : List Bool) (N : Nat) : List Bool := tabL N fun i => oneL f (pkB x i) (pkB y i)
def MakeP (N : Nat) (b : Bool) (w : World) (e : Ending) (w' : World) : Prop := ∃ v, e = .returned v ∧ OwnB w' w.heap.size v (List.replicate N b) ∧ Ext w w'
theorem make_bool (N : Nat) (b : Bool) (hN : N ≤ 1048576) (w : World) : Calls Try.prog 42 #[.int .i64 (N : Int), .bool b] w (MakeP N b w) := by
  cases b
  · have := make_false (N : Int) w
    rw [nclamp_nat hN] at this
    exact this
  · have := make_true (N : Int) w
    rw [nclamp_nat hN] at this
    exact this
set_option maxHeartbeats 1000000
set_option maxRecDepth 100000
section
variable (f : Int) (v u : Value) (w : World)
/-- what comes of no numbers -/
def NoneV (w : World) (e : Ending) (w' : World) : Prop := ∃ p, e = .returned (.tuple #[p, .int .i64 0]) ∧ VecS w' p (VD.bits []) (New w.heap.size) ∧ Ext w w'
end
end Go.Proofs.Ytdfhefnjoekgbaa
