/- SqueezeInto, for every input: the walk. -/
import Derived.Test.YtidnikndjhfgaaaQp
namespace Go.Proofs.Ytidnikndjhfgaaa
open Go.ChangeShapes Go.WideShapes Go.RowKit Bv Fl

/-- Into, where the numbers fit -/
def IntoY (v0 : Value) (K k : Nat) (l : List Nat) (w : World) (e : Ending) (w' : World) : Prop :=
  ∃ v, e = .returned (.tuple #[v, .bool true]) ∧ (∀ S, NumS w v0 K l S → NumS w' v k l (fun i => S i ∨ New w.heap.size i)) ∧ Ext w w'
theorem into_yes (v : Value) (K : Nat) (l : List Nat) (k : Nat) (hf : fitsL l (k : Int) = true) (w : World) (h : IsNum w v K l) : Calls Try.prog 68 #[v, .int .i64 (k : Int)] w (IntoY v K k l w) := by
  have hh := into_num v K l (k : Int) w h
  rw [hf, Int.toNat_natCast] at hh
  refine hh.mono ?_
  rintro e w' ⟨v2, rfl, hq, -, hx⟩
  exact ⟨v2, rfl, hq rfl, hx⟩
theorem into_no (v : Value) (K : Nat) (l : List Nat) (kind : Int) (hf : fitsL l kind = false) (w : World) (h : IsNum w v K l) : Calls Try.prog 68 #[v, .int .i64 kind] w fun e w' => e = .returned (.tuple #[zeroVec, .bool false]) ∧ Ext w w' := by
  have hh := into_num v K l kind w h
  rw [hf] at hh
  refine hh.mono ?_
  rintro e w' ⟨v2, rfl, -, hz, hx⟩
  rw [hz rfl]
  exact ⟨rfl, hx⟩
theorem fits_nat {l : List Nat} {kind : Int} (h : fitsL l kind = true) : ∃ k : Nat, kind = k := by
  have := of_decide_eq_true h
  exact Int.eq_ofNat_of_zero_le (by omega)

set_option maxHeartbeats 1000000
end Go.Proofs.Ytidnikndjhfgaaa
