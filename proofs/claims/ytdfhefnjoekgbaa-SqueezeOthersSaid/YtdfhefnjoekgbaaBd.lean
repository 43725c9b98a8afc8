/- Plain facts on packed booleans: words as numbers whose binary digits are the booleans. -/
import Derived.Test.YtdfhefnjoekgbaaHp
import Derived.Laws.BitsAllLaws
namespace Go.Proofs.Ytdfhefnjoekgbaa
open Go.RowKit

namespace Bv
/-- the number with the binary digits f 0, .., f (k - 1) -/
def ofB (f : Nat → Bool) : Nat → Nat
  | 0 => 0
  | k + 1 => ofB f k + (if f k then 2 ^ k else 0)
theorem ofB_lt (f : Nat → Bool) (k : Nat) : ofB f k < 2 ^ k := by
  induction k with
  | zero => simp [ofB]
  | succ k ih =>
    unfold ofB
    rw [Nat.pow_succ]
    split <;> omega
theorem ofB_testBit (f : Nat → Bool) (k j : Nat) : (ofB f k).testBit j = (decide (j < k) && f j) := by
  induction k with
  | zero => simp [ofB]
  | succ k ih =>
    unfold ofB
    have hl := ofB_lt f k
    by_cases hf : f k = true
    · rw [if_pos hf]
      have h3 := Nat.two_pow_add_eq_or_of_lt hl 1
      rw [Nat.mul_one] at h3
      rw [Nat.add_comm, h3, Nat.testBit_or, ih, Nat.testBit_two_pow]
      by_cases hj : k = j
      · subst hj; simp [hf]
      · rw [decide_eq_false hj, Bool.false_or]
        by_cases h : j < k
        · rw [decide_eq_true h, decide_eq_true (by omega)]
        · rw [decide_eq_false h, decide_eq_false (by omega)]
    · rw [if_neg hf, Nat.add_zero, ih]
      by_cases hj : k = j
      · subst hj; simp at hf; simp [hf]
      · by_cases h : j < k
        · rw [decide_eq_true h, decide_eq_true (by omega)]
        · rw [decide_eq_false h, decide_eq_false (by omega)]
/-- the i-th word of some booleans -/
def wd (l : List Bool) (i : Nat) : Nat := ofB (fun j => l.getD (64 * i + j) false) 64
theorem wd_lt (l : List Bool) (i : Nat) : wd l i < 18446744073709551616 := ofB_lt _ 64
theorem wd_testBit (l : List Bool) (i j : Nat) : (wd l i).testBit j = (decide (j < 64) && l.getD (64 * i + j) false) := ofB_testBit _ _ _
/-- how many words are needed -/
def wc (n : Nat) : Nat := (n + 63) / 64
def words (l : List Bool) : List Nat := (List.range (wc l.length)).map (wd l)
theorem words_length (l : List Bool) : (words l).length = wc l.length := by simp [words]
theorem words_get (l : List Bool) {i : Nat} (h : i < wc l.length) : (words l)[i]? = some (wd l i) := by
  simp [words, h]
/-- a word with the right digits is the word -/
theorem wd_of {l : List Bool} {i x : Nat} (hx : x < 18446744073709551616) (h : ∀ j, j < 64 → x.testBit j = l.getD (64 * i + j) false) : x = wd l i := by
  apply Nat.eq_of_testBit_eq
  intro j
  rw [wd_testBit]
  by_cases hj : j < 64
  · rw [decide_eq_true hj, Bool.true_and]; exact h j hj
  · rw [decide_eq_false hj, Bool.false_and]
    exact Nat.testBit_lt_two_pow (Nat.lt_of_lt_of_le hx (Nat.pow_le_pow_right (n := 2) (by decide) (by omega : 64 ≤ j)))
def u64s (l : List Nat) : List Value := l.map fun (x : Nat) => Value.int .u64 (x : Int)
theorem u64s_length (l : List Nat) : (u64s l).length = l.length := by simp [u64s]
theorem u64s_get {l : List Nat} {i x : Nat} (h : l[i]? = some x) : (u64s l)[i]? = some (.int .u64 (x : Int)) := by
  simp [u64s, h]
theorem u64s_one (l : List Nat) : ∀ u ∈ u64s l, u.oneCell' = true := by
  intro u hu
  simp only [u64s, List.mem_map] at hu
  obtain ⟨x, _, rfl⟩ := hu
  rfl
/-- the value (slice A m c, n) reads as the booleans l, tidy -/
def IsB (w : World) (v : Value) (l : List Bool) : Prop :=
  l.length ≤ 1048576 ∧ ∃ A c, v = .agg #[.slice A (wc l.length) c, .int .i64 (l.length : Int)] ∧ Sl w 1 A (wc l.length) (u64s (words l))
theorem IsB.ext {w w' : World} {v : Value} {l : List Bool} (h : IsB w v l) (he : Ext w w') : IsB w' v l := by
  obtain ⟨h1, A, c, h2, h3⟩ := h
  exact ⟨h1, A, c, h2, h3.ext he⟩
theorem IsB.nil (w : World) : IsB w (.agg #[.slice none 0 0, .int .i64 0]) [] := ⟨by simp, none, 0, rfl, ⟨by simp [u64s, words, wc], fun h => by simp [wc] at h⟩⟩
theorem IsB.word {w : World} {A : Option Addr} {l : List Bool} (h : Sl w 1 A (wc l.length) (u64s (words l))) {i : Nat} (hi : i < wc l.length) : ∃ a, A = some a ∧ a.block < w.heap.size ∧ w.cell? (a.add i) = some (.int .u64 (wd l i : Int)) := by
  obtain ⟨a, u, e, hb, hu, hc⟩ := h.at1 hi
  rw [u64s_get (words_get l hi)] at hu
  cases hu
  exact ⟨a, e, hb, hc⟩
end Bv
end Go.Proofs.Ytdfhefnjoekgbaa
