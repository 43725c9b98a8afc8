/- SqueezeLeast, for every input: the walk. -/
import Derived.Test.YtidnikndjhfgaaaQm
import Derived.Test.YtidnikndjhfgaaaVl
namespace Go.Proofs.Ytidnikndjhfgaaa
open Go.ChangeShapes Go.WideShapes Go.RowKit Bv Fl
attribute [local go_sem ↓] Go.wp_at_zero Go.wp_at_succ

theorem same_yes (A A' : Option Addr) (l : List Nat) (n c c' : Nat) (hn : n = l.length) (w : World) (hl : n ≤ 1048576) (ht : ∀ x ∈ l, tidy x) (hs : Sl w 1 A n (f64s l)) (hs' : Sl w 1 A' n (f64s l)) : Calls Try.prog 41 #[.slice A n c, .slice A' n c'] w fun e w' => e = .returned (.bool true) ∧ Ext w w' := by
  refine (same_any A A' l l n n c c' hn hn w hl (fun x hx => ⟨(ht x hx).1.nn, (ht x hx).2.1⟩) (fun x hx => ⟨(ht x hx).1.nn, (ht x hx).2.1⟩) hs hs').mono ?_
  rintro e w' ⟨rfl, h⟩
  exact ⟨by simp, Ext.of_drewN h⟩
theorem rtidyL_yes (A : Option Addr) (l : List Nat) (n : Nat) (hn : n = l.length) (c : Nat) (w : World) (hl : n ≤ 1048576) (hf : allF l = true) (hs : Sl w 1 A n (f64s l)) : Calls Try.prog 37 #[.slice A n c] w fun e w' => ∃ B cb, e = .returned (.tuple #[.slice B n cb, .bool true]) ∧ Sl w' 1 B n (f64s (dnL l)) ∧ Ext w w' := by
  refine (rtidyL_any A l n hn c w hl hs).mono ?_
  rintro e w' ⟨v, rfl, ho, hx⟩
  rw [hf] at ho ⊢
  have hh := ho rfl
  obtain ⟨B, cb, rfl, -, -⟩ := own_form hh
  exact ⟨B, cb, rfl, Sl.own hh, hx⟩
theorem rtidyL_no (A : Option Addr) (l : List Nat) (n : Nat) (hn : n = l.length) (c : Nat) (w : World) (hl : n ≤ 1048576) (hf : allF l = false) (hs : Sl w 1 A n (f64s l)) : Calls Try.prog 37 #[.slice A n c] w fun e w' => ∃ v, e = .returned (.tuple #[v, .bool false]) ∧ Ext w w' := by
  refine (rtidyL_any A l n hn c w hl hs).mono ?_
  rintro e w' ⟨v, rfl, ho, hx⟩
  rw [hf]
  exact ⟨v, rfl, hx⟩
theorem nnums_sl (v : Value) (k : Nat) (l : List Nat) (n : Nat) (hn : n = l.length) (w : World) (h : IsNum w v k l) : Calls Try.prog 42 #[v] w fun e w' => ∃ B cb, e = .returned (.slice B n cb) ∧ Sl w' 1 B n (f64s l) ∧ Ext w w' := by
  refine (nnums_any v k l w h).mono ?_
  rintro e w' ⟨v', rfl, ho, hx⟩
  obtain ⟨B, cb, rfl, -, -⟩ := own_form ho
  subst hn
  exact ⟨B, cb, rfl, Sl.own ho, hx⟩
theorem kind_zero (z : Value) (hz : zeroVec = z) (w : World) : Calls Try.prog 40 #[z] w fun e w' => e = .returned (.int .i64 0) ∧ Ext w w' := by
  subst hz
  exact vkind_any zeroVec VD.none w (IsVec.zero w)

set_option maxHeartbeats 4000000
end Go.Proofs.Ytidnikndjhfgaaa
