/- Contracts of squeeze: Tight, Numbers, Common. -/
import Derived.Test.YtdfhefnjoekgbaaDoorQj
namespace Go.Proofs.YtdfhefnjoekgbaaDoor
open Go.RowKit Bv Fl
attribute [local go_sem ↓] Go.wp_at_zero Go.wp_at_succ
set_option maxHeartbeats 1000000
/-- Floats, at numbers all of them -/
def NewNum (k : Nat) (l : List Nat) (w : World) (e : Ending) (w' : World) : Prop := ∃ v, e = .returned (.tuple #[v, .bool true]) ∧ NumS w' v k l (New w.heap.size) ∧ Ext w w'
theorem floats_yes (A : Option Addr) (l : List Nat) (n : Nat) (hn : n = l.length) (hw : ∀ x ∈ l, x < 18446744073709551616) (hf : allF l = true) (c : Nat) (w : World) (hl : n ≤ 1048576) (hs : Sl w 1 A n (f64s l)) : Calls Tryd.prog 30 #[.slice A n c] w (NewNum 4 (dnL l) w) := by
  refine (vfloats_own A l n hn c w hl hs).mono ?_
  rintro e w' ⟨B, cb, rfl, ho, hx⟩
  rw [hf] at ho ⊢
  refine ⟨_, rfl, ?_, hx⟩
  have hh := ho rfl
  refine NumS.mk (IsNum.mk4 ?_) (In.one (A := B) (n := n) (c := cb) (fun a ha => ?_) (.inr rfl) ⟨_, rfl⟩ (.inr rfl) (.inr rfl) (.inl rfl) (.inr rfl) (.inr rfl))
  · exact isvec_floats (by rw [dnL_length]; exact hn) hl (dnL_tidy hw) (Sl.own hh)
  · obtain ⟨A', c', e', _, hA⟩ := own_form hh
    cases e'
    exact (hA a ha).1
theorem floats_no (A : Option Addr) (l : List Nat) (n : Nat) (hn : n = l.length) (hf : allF l = false) (c : Nat) (w : World) (hl : n ≤ 1048576) (hs : Sl w 1 A n (f64s l)) : Calls Tryd.prog 30 #[.slice A n c] w fun e w' => e = .returned (.tuple #[zeroVec, .bool false]) ∧ Ext w w' := by
  refine (vfloats_own A l n hn c w hl hs).mono ?_
  rintro e w' ⟨B, cb, rfl, ho, hx⟩
  rw [hf]
  exact ⟨rfl, hx⟩
end Go.Proofs.YtdfhefnjoekgbaaDoor
