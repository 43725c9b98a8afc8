/- Contracts: comparisons of lists; bitvec's Tidy, Words, Equal. -/
import Derived.Test.YtidnikndjhfgaaaDoorP
import Derived.Deep.QuietTactic
import Derived.BigQuiet
namespace Go.Proofs.YtidnikndjhfgaaaDoor
open Go.RowKit Bv

theorem cell_ext'' {w w' : World} {p : Addr} {u : Value} (hx : Ext w w') (h : w.cell? p = some u) : w'.cell? p = some u := (Below.cell hx (World.block_lt_of_cell? _ _ h)).trans h
theorem drewN_refl' (w : World) : ∃ m, w = w.drewN m := ⟨0, rfl⟩
theorem Ext.of_drewN' {w w' : World} (h : ∃ m, w' = w.drewN m) : Ext w w' := by
  obtain ⟨m, rfl⟩ := h
  exact (Ext.refl w).drewN m
namespace Bv
def nats (l : List Nat) : List Value := l.map fun (x : Nat) => Value.int .i64 (x : Int)
theorem nats_length (l : List Nat) : (nats l).length = l.length := by simp [nats]
theorem nats_get {l : List Nat} {k : Nat} (h : k < l.length) : (nats l)[k]? = some (.int .i64 ((l.getD k 0 : Nat) : Int)) := by simp [nats, List.getD, h]
theorem nats_one (l : List Nat) : ∀ u ∈ nats l, u.oneCell' = true := by
  intro u hu
  simp only [nats, List.mem_map] at hu
  obtain ⟨x, _, rfl⟩ := hu
  rfl
theorem u64s_at {l : List Nat} {k : Nat} (h : k < l.length) : (u64s l)[k]? = some (.int .u64 ((l.getD k 0 : Nat) : Int)) := by simp [u64s, List.getD, h]
/-- the same up to a place -/
def sameL {α : Type} (d : α) (a b : List α) (k : Nat) : Prop := ∀ j, j < k → a.getD j d = b.getD j d
theorem sameL_all {α : Type} [DecidableEq α] {d : α} {a b : List α} (hl : a.length = b.length) (h : sameL d a b a.length) : decide (a = b) = true := by
  apply decide_eq_true
  apply List.ext_getElem hl
  intro i h1 h2
  have := h i h1
  simpa [List.getD, h1, h2] using this
theorem sameL_step {α : Type} {d : α} {a b : List α} {k : Nat} (h : sameL d a b k) (g : a.getD k d = b.getD k d) : sameL d a b (k + 1) := by
  intro j hj
  by_cases e : j = k
  · subst e; exact g
  · exact h j (by omega)
theorem sameL_not {α : Type} [DecidableEq α] {d : α} {a b : List α} {k : Nat} (h : a.getD k d ≠ b.getD k d) : decide (a = b) = false := by
  apply decide_eq_false
  intro e
  exact h (by rw [e])
theorem sameL_len {α : Type} [DecidableEq α] {a b : List α} (h : a.length ≠ b.length) : decide (a = b) = false := by
  apply decide_eq_false
  intro e
  exact h (by rw [e])
end Bv

set_option maxHeartbeats 1000000
namespace Bv
theorem wd_tail (l : List Bool) (h : l.length % 64 ≠ 0) : wd l (wc l.length - 1) / 2 ^ (l.length % 64) = 0 := by
  apply Nat.eq_of_testBit_eq
  intro j
  rw [Nat.testBit_div_two_pow, wd_testBit, Nat.zero_testBit, getD_past _ _ (by unfold wc; omega), Bool.and_false]
end Bv
end Go.Proofs.YtidnikndjhfgaaaDoor
