/- Contracts of rebusref02: Words, Ones, Scan, Into, Truth. -/
import Derived.Test.YtidnikndjhfgaaaDoorPr
namespace Go.Proofs.YtidnikndjhfgaaaDoor
open Go.RowKit Bv

theorem infoN : (Tryd.prog.info? 3).map (fun i => (i.zero, i.size, i.bytes)) = some (some (.int .i64 0), 1, 8) := by kernel_rfl
theorem sl_built (w : World) (us : Array Value) (t : TypeId) : Sl (w.alloc (.cells us t)) us.size (some ⟨w.heap.size, 0, none⟩) 1 us.toList := by
  refine ⟨by simp, fun _ => ⟨_, rfl, by simp, fun j u hu => ?_⟩⟩
  rw [show (Addr.add ⟨w.heap.size, 0, none⟩ j) = ⟨w.heap.size, j, none⟩ by unfold Addr.add; split <;> simp_all]
  rw [World.cell?_alloc_new]
  simpa using hu
theorem own_pos {w : World} {base : Nat} {e : TypeId} {s n : Nat} {v : Value} {xs : List Value} (h : w.ownsRow base e s v n xs) (hn : 0 < n) : ∃ g c, v = .slice (some ⟨g, 0, none⟩) n c ∧ base ≤ g ∧ g < w.heap.size ∧ n ≤ c := by
  rcases h.2 with ⟨_, h0⟩ | ⟨g, cap, cur, hv, hb, hg, hc, _⟩
  · omega
  · subst hv
    exact ⟨g, cap, rfl, hb, (h.lt g rfl).2, hc⟩
theorem own_nil (w : World) (base : Nat) (e : TypeId) (s : Nat) : w.ownsRow base e s (.slice none 0 0) 0 [] := World.ownsRow_nil _ _ _ _

namespace Bv
/-- the words of the first k, with room for one more -/
def wordsX (l : List Bool) (k : Nat) : List Nat := (List.range (wc (k + 1))).map (wd (l.take k))
def wordsT (l : List Bool) (k : Nat) : List Nat := (List.range (wc k)).map (wd (l.take k))
theorem wordsT_length (l : List Bool) (k : Nat) : (wordsT l k).length = wc k := by simp [wordsT]
theorem wordsX_length (l : List Bool) (k : Nat) : (wordsX l k).length = wc (k + 1) := by simp [wordsX]
theorem wordsT_full (l : List Bool) : wordsT l l.length = words l := by unfold wordsT words; rw [List.take_length]
theorem wordsX_same (l : List Bool) (k : Nat) (h : k % 64 ≠ 0) : wordsT l k = wordsX l k ∧ wc k = wc (k + 1) := by
  have e : wc k = wc (k + 1) := by unfold wc; omega
  exact ⟨by unfold wordsT wordsX; rw [e], e⟩
theorem wordsX_more (l : List Bool) (k : Nat) (h : k % 64 = 0) : wordsT l k ++ [0] = wordsX l k ∧ wc k + 1 = wc (k + 1) := by
  have e : wc (k + 1) = wc k + 1 := by unfold wc; omega
  refine ⟨?_, e.symm⟩
  unfold wordsT wordsX
  rw [e, List.range_succ, List.map_append]
  congr 1
  simp only [List.map_cons, List.map_nil]
  congr 1
  refine wd_of (by omega) fun j _ => ?_
  rw [Nat.zero_testBit, getD_past _ _ (by simp; unfold wc; omega)]
theorem take_getD (l : List Bool) (k j : Nat) : (l.take k).getD j false = (decide (j < k) && l.getD j false) := by
  by_cases h : j < k
  · rw [decide_eq_true h, Bool.true_and]; simp [List.getD, h]
  · rw [decide_eq_false h, Bool.false_and, getD_past _ _ (by simp; omega)]
theorem wordsX_at (l : List Bool) (k : Nat) : (wordsX l k)[k / 64]? = some (wd (l.take k) (k / 64)) := by
  unfold wordsX
  have : k / 64 < wc (k + 1) := by unfold wc; omega
  simp [this]
theorem wordsX_false (l : List Bool) (k : Nat) (h : l.getD k false = false) : wordsX l k = wordsT l (k + 1) := by
  unfold wordsX wordsT
  refine List.map_congr_left fun i _ => wd_of (wd_lt _ _) fun j hj => ?_
  rw [wd_testBit, decide_eq_true hj, Bool.true_and, take_getD, take_getD]
  by_cases e : 64 * i + j = k
  · rw [e, h]; simp
  · congr 1; rw [decide_eq_decide]; omega
theorem wordsX_true (l : List Bool) (k : Nat) (h : l.getD k false = true) : (wordsX l k).set (k / 64) (wd (l.take k) (k / 64) ||| 2 ^ (k % 64)) = wordsT l (k + 1) := by
  apply List.ext_getElem?
  intro i
  rw [List.getElem?_set, wordsX_length]
  by_cases hi : i < wc (k + 1)
  · have e2 : (wordsT l (k + 1))[i]? = some (wd (l.take (k + 1)) i) := by unfold wordsT; simp [hi]
    rw [e2]
    by_cases hk : k / 64 = i
    · subst hk
      rw [if_pos rfl, if_pos hi]
      congr 1
      refine wd_of (Nat.or_lt_two_pow (n := 64) (wd_lt _ _) (Nat.pow_lt_pow_right (by decide) (show k % 64 < 64 by omega))) fun j hj => ?_
      rw [Nat.testBit_or, wd_testBit, Nat.testBit_two_pow, decide_eq_true hj, Bool.true_and, take_getD, take_getD]
      by_cases e : k % 64 = j
      · have e2 : 64 * (k / 64) + j = k := by omega
        rw [e2, h, decide_eq_true e]; simp
      · rw [decide_eq_false e, Bool.or_false]
        congr 1
        rw [decide_eq_decide]; omega
    · rw [if_neg hk]
      have e3 : (wordsX l k)[i]? = some (wd (l.take k) i) := by unfold wordsX; simp [hi]
      rw [e3]
      congr 1
      refine wd_of (wd_lt _ _) fun j hj => ?_
      rw [wd_testBit, decide_eq_true hj, Bool.true_and, take_getD, take_getD]
      congr 1
      rw [decide_eq_decide]; omega
  · rw [if_neg (by unfold wc at *; omega), List.getElem?_eq_none (by rw [wordsX_length]; omega), List.getElem?_eq_none (by rw [wordsT_length]; omega)]
def intoI (n a b : Int) : Int := if n < a then a else if n > b then b else n
theorem tabL_succ (k : Nat) (f : Nat → Bool) : bools (tabL k f) ++ [.bool (f k)] = bools (tabL (k + 1) f) := by
  unfold tabL bools; rw [List.range_succ]; simp
theorem px_next (l : List Bool) (k : Nat) : px (fun j => l.getD j false) (k + 1 + 1) = (l.getD (k + 1) false != px (fun j => l.getD j false) (k + 1)) := by
  rw [px]; cases px (fun j => l.getD j false) (k + 1) <;> cases l.getD (k + 1) false <;> rfl
theorem px_first (l : List Bool) : px (fun j => l.getD j false) (0 + 1) = l.getD 0 false := by simp [px]
theorem any_next (l : List Bool) (k : Nat) (h : k + 1 < l.length) : decide (fst1 l ≤ k + 1) = (l.getD (k + 1) false || decide (fst1 l ≤ k)) := by
  by_cases h1 : fst1 l ≤ k
  · rw [decide_eq_true h1, decide_eq_true (by omega)]; simp
  · rw [decide_eq_false h1, Bool.or_false]
    by_cases h2 : fst1 l = k + 1
    · rw [decide_eq_true (by omega), ← h2, fst1_at l (by omega)]
    · rw [decide_eq_false (by omega), fst1_below l (by omega)]
theorem any_first (l : List Bool) (h : 0 < l.length) : decide (fst1 l ≤ 0) = l.getD 0 false := by
  by_cases h2 : fst1 l = 0
  · have := fst1_at l (by omega); rw [h2] at this; rw [this, h2]; rfl
  · rw [decide_eq_false (by omega), fst1_below l (by omega)]
end Bv

set_option maxHeartbeats 1000000
end Go.Proofs.YtidnikndjhfgaaaDoor
