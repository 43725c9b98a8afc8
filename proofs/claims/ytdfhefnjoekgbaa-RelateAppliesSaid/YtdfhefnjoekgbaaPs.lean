/- A region that makes a row and a struct in either order; words filled one by one; bitvec's Not. -/
import Derived.Test.YtdfhefnjoekgbaaPr
import Derived.Deep.RegionHeld3
import Derived.Deep.DeepCutAuto
namespace Go.Proofs.Ytdfhefnjoekgbaa
open Go.RowKit Bv

/-- a make of so many zeros, as a function on worlds: for a region that draws its order -/
def Makes (m : Nat) (mk : World → World) : Prop :=
  ∀ w, (Instr.makeSlice 26 (.int .i64 (m : Int)) (.int .i64 (m : Int))).run Try.prog w = .ok (.slice (some ⟨w.heap.size, 0, none⟩) m m) (mk w)
    ∧ (mk w).ownsRow w.heap.size 116 1 (.slice (some ⟨w.heap.size, 0, none⟩) m m) m (u64s (List.replicate m 0)) ∧ Ext w (mk w)
theorem makes_u64 (m : Nat) (hm : m ≤ 16384) : ∃ mk, Makes m mk := by
  obtain ⟨i0, hi0, hz0, hz1, hz2⟩ := info_parts infoW
  have hsz : i0.bytes * m ≤ 281474976710656 := by rw [hz2]; omega
  have h : ∀ w : World, ∃ w' : World, (Instr.makeSlice 26 (.int .i64 (m : Int)) (.int .i64 (m : Int))).run Try.prog w = .ok (.slice (some ⟨w.heap.size, 0, none⟩) m m) w' ∧ w'.ownsRow w.heap.size 116 1 (.slice (some ⟨w.heap.size, 0, none⟩) m m) m (u64s (List.replicate m 0)) ∧ Ext w w' := fun w => by
    obtain ⟨w', hrun, r1, r2⟩ := run_make_full (P := Try.prog) w w.heap.size 26 116 i0 (.int .u64 0) 1 Try.underlying26 hi0 hz0 hz1 .i64 .i64 m hsz (by simp only [maxLen]; omega) (Nat.le_refl _)
    refine ⟨w', hrun, ?_, ext_none r2⟩
    have e : (madeCells #[Value.int .u64 0] m).toList = u64s (List.replicate m 0) := (toList_madeCells_one _ _).trans (by simp [u64s])
    rw [← e]
    rw [Nat.mul_one] at r1
    exact r1
  exact ⟨fun w => Classical.choose (h w), fun w => Classical.choose_spec (h w)⟩
theorem alloc_at {w : World} {us : Array Value} {t : TypeId} {B : Nat} (hB : B = w.heap.size) (j : Nat) : ((w.alloc (.cells us t)).drew).cell? ⟨B, j, none⟩ = us[j]? := by
  subst hB
  exact World.cell?_alloc_new w us t j
theorem alloc_fr {w : World} {us : Array Value} {t : TypeId} {B : Nat} (hB : B = w.heap.size) (j : Nat) : ((w.alloc (.cells us t)).drew).frozen? ⟨B, j, none⟩ = false := by
  subst hB
  show (w.alloc (.cells us t)).frozen? _ = false
  simp
theorem cell_ext' {w w' : World} {p : Addr} {u : Value} (hx : Ext w w') (h : w.cell? p = some u) : w'.cell? p = some u := (Below.cell hx (World.block_lt_of_cell? _ _ h)).trans h
/-- a struct of packed booleans at B, its row of zeros at g -/
def OutAt (W0 : World) (m : Nat) (n : Int) (B g : Nat) (wx : World) : Prop :=
  B ≠ g ∧ W0.heap.size ≤ B ∧ W0.heap.size ≤ g ∧ B < wx.heap.size ∧ g < wx.heap.size ∧ wx.cell? ⟨B, 0, none⟩ = some (.slice (some ⟨g, 0, none⟩) m m) ∧ wx.cell? ⟨B, 1, none⟩ = some (.int .i64 n)
    ∧ wx.ownsRow W0.heap.size 116 1 (.slice (some ⟨g, 0, none⟩) m m) m (u64s (List.replicate m 0)) ∧ Ext W0 wx
theorem outAt1 {m : Nat} {mk : World → World} (hk : Makes m mk) (W0 : World) (n : Int) (t : TypeId) (S : Nat) (hS : S = W0.heap.size) : OutAt W0 m n (mk W0.drew).heap.size S ((mk W0.drew).alloc (.cells #[.slice (some ⟨S, 0, none⟩) m m, .int .i64 n] t)) := by
  subst hS
  obtain ⟨_, ho, hx⟩ := hk W0.drew
  have hl : W0.heap.size < (mk W0.drew).heap.size := (ho.lt _ rfl).2
  refine ⟨by omega, by omega, Nat.le_refl _, by simp, by simp; omega, by simp, by simp, ho.alloc _, ((Ext.refl W0).drew.trans hx).alloc _⟩
theorem outAt2 {m : Nat} {mk : World → World} (hk : Makes m mk) (W0 : World) (n : Int) (t : TypeId) (S : Nat) (hS : S = W0.heap.size) : OutAt W0 m n S (S + 1) (((mk (W0.alloc (.cells #[.slice none 0 0, .int .i64 0] t)).drew).setCell ⟨S, 0, none⟩ (.slice (some ⟨S + 1, 0, none⟩) m m)).setCell ⟨S, 1, none⟩ (.int .i64 n)) := by
  subst hS
  obtain ⟨_, ho, hx⟩ := hk (W0.alloc (.cells #[.slice none 0 0, .int .i64 0] t)).drew
  have e : (W0.alloc (.cells #[.slice none 0 0, .int .i64 0] t)).drew.heap.size = W0.heap.size + 1 := by simp
  rw [e] at ho
  have hl : W0.heap.size + 1 < (mk (W0.alloc (.cells #[.slice none 0 0, .int .i64 0] t)).drew).heap.size := (ho.lt _ rfl).2
  have c0 : (mk (W0.alloc (.cells #[.slice none 0 0, .int .i64 0] t)).drew).cell? ⟨W0.heap.size, 0, none⟩ = some (.slice none 0 0) := (hx.cells.1 _ _ (by simp)).trans (alloc_at rfl _)
  have c1 : (mk (W0.alloc (.cells #[.slice none 0 0, .int .i64 0] t)).drew).cell? ⟨W0.heap.size, 1, none⟩ = some (.int .i64 0) := (hx.cells.1 _ _ (by simp)).trans (alloc_at rfl _)
  have hX : Ext W0 (mk (W0.alloc (.cells #[.slice none 0 0, .int .i64 0] t)).drew) := (((Ext.refl W0).alloc _).drew).trans hx
  generalize mk (W0.alloc (.cells #[.slice none 0 0, .int .i64 0] t)).drew = X at *
  refine ⟨by omega, Nat.le_refl _, by omega, by simp; omega, by simp; omega, ?_, ?_, ?_, (hX.setCell (Nat.le_refl _) _).setCell (Nat.le_refl _) _⟩
  · rw [World.cell?_setCell_other _ _ _ _ (by simp)]
    exact World.cell?_setCell_same _ _ _ c0
  · exact World.cell?_setCell_same _ _ _ (by rw [World.cell?_setCell_other _ _ _ _ (by simp)]; exact c1)
  · exact own_base (ownsRow_setCell_below (ownsRow_setCell_below ho (by simp) _) (by simp) _) (Nat.le_succ _)
theorem keep2 {a b : World} {p q : Addr} {u v : Value} (h : Ext a b) (h1 : a.cell? p = some u) (h2 : a.cell? q = some v) : Ext a b ∧ b.cell? p = some u ∧ b.cell? q = some v := ⟨h, cell_ext' h h1, cell_ext' h h2⟩

namespace Bv
/-- the words f 0, .., f (k - 1), the rest still 0 -/
def fillN (f : Nat → Nat) (m k : Nat) : List Nat := (List.range k).map f ++ List.replicate (m - k) 0
theorem fillN_length (f : Nat → Nat) {m k : Nat} (h : k ≤ m) : (fillN f m k).length = m := by simp [fillN]; omega
theorem fillN_zero (f : Nat → Nat) (m : Nat) : fillN f m 0 = List.replicate m 0 := by simp [fillN]
theorem fillN_full (f : Nat → Nat) (m : Nat) : fillN f m m = (List.range m).map f := by simp [fillN]
theorem fillN_get (f : Nat → Nat) {m k : Nat} (h : k < m) : (u64s (fillN f m k))[k]? = some (.int .u64 ((0 : Nat) : Int)) := by
  refine u64s_get ?_
  unfold fillN
  rw [List.getElem?_append_right (by simp)]
  simp only [List.length_map, List.length_range, Nat.sub_self, List.getElem?_replicate]
  rw [if_pos (by omega)]
theorem fillN_set (f : Nat → Nat) {m k : Nat} (h : k < m) : (u64s (fillN f m k)).set k (.int .u64 ((f k : Nat) : Int)) = u64s (fillN f m (k + 1)) := by
  have e : (u64s (fillN f m k)).set k (.int .u64 ((f k : Nat) : Int)) = u64s ((fillN f m k).set k (f k)) := by simp [u64s]
  rw [e]
  congr 1
  apply List.ext_getElem?
  intro j
  rw [List.getElem?_set, fillN_length f (Nat.le_of_lt h)]
  unfold fillN
  by_cases hj : k = j
  · subst hj
    rw [if_pos rfl, if_pos h, List.getElem?_append_left (by simp)]
    simp
  · rw [if_neg hj]
    by_cases hjk : j < k
    · rw [List.getElem?_append_left (by simp; omega), List.getElem?_append_left (by simp; omega)]
      simp [hjk, Nat.lt_succ_of_lt hjk]
    · rw [List.getElem?_append_right (by simp; omega), List.getElem?_append_right (by simp; omega)]
      simp only [List.length_map, List.length_range, List.getElem?_replicate]
      by_cases hjl : j < m
      · rw [if_pos (by omega), if_pos (by omega)]
      · rw [if_neg (by omega), if_neg (by omega)]
theorem fillN_at (f : Nat → Nat) {m i : Nat} (h : i < m) : (fillN f m m).getD i 0 = f i := by
  rw [fillN_full]; simp [List.getD, h]
theorem fillN_lt (f : Nat → Nat) (m : Nat) (h : ∀ i, i < m → f i < 18446744073709551616) : ∀ x ∈ fillN f m m, x < 18446744073709551616 := by
  intro x hx
  rw [fillN_full] at hx
  simp only [List.mem_map, List.mem_range] at hx
  obtain ⟨i, hi, rfl⟩ := hx
  exact h i hi
theorem fillN_trim (f : Nat → Nat) (l : List Bool) (hf : ∀ i, i < wc l.length → f i < 18446744073709551616) (h : ∀ i j, i < wc l.length → j < 64 → 64 * i + j < l.length → (f i).testBit j = l.getD (64 * i + j) false) : trimW (fillN f (wc l.length) (wc l.length)) l.length = words l :=
  trimW_words (fillN_length f (Nat.le_refl _)) (fillN_lt f _ hf) fun i j hi hj hl => by rw [fillN_at f hi]; exact h i j hi hj hl
/-- every one turned -/
def notL (l : List Bool) : List Bool := l.map (!·)
end Bv

set_option maxHeartbeats 1000000
end Go.Proofs.Ytdfhefnjoekgbaa
