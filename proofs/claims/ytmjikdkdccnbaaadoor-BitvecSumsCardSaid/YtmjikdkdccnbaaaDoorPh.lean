/- BitvecSums: plain facts on the two cuts; blocks that stay. -/
import Derived.Test.YtmjikdkdccnbaaaDoorPe
namespace Go.Proofs.YtmjikdkdccnbaaaDoor
open Go.ChangeShapes Go.WideShapes Go.RowKit Bv

theorem cut_cnt (l : List Bool) (a n : Nat) : cnt l a + cnt (cutL l a n) n = cnt l (a + n) := cnt_sub l a n n (Nat.le_refl _)
theorem cut_first_lo (l : List Bool) (k : Nat) (hk : k ≤ l.length) (h : 0 < cnt l k) : fst1 (cutL l 0 k) = fst1 l := by
  have hlt : fst1 l < k := by
    rcases Nat.lt_or_ge (fst1 l) k with h' | h'
    · exact h'
    · have := onesL_first l k h'
      rw [← onesL_length, this] at h
      simp at h
  have hl : (cutL l 0 k).length = k := cutL_length l 0 k (by omega)
  refine fst1_is _ _ (fun j hj => ?_) (fun _ => ?_) (by omega)
  · rw [cutL_getD l 0 k j (by omega), Nat.zero_add]; exact fst1_below l hj
  · rw [cutL_getD l 0 k _ hlt, Nat.zero_add]; exact fst1_at l (by omega)
theorem cut_first_hi (l : List Bool) (k : Nat) (hk : k ≤ l.length) (h : cnt l k = 0) : fst1 (cutL l k (l.length - k)) + k = fst1 l := by
  have hge : k ≤ fst1 l := by
    rcases Nat.lt_or_ge (fst1 l) k with h' | h'
    · have h1 := fst1_at l (by omega)
      have h2 : cnt l (fst1 l + 1) = cnt l (fst1 l) + 1 := by rw [cnt, h1]; rfl
      have h3 := cnt_mono l (show fst1 l + 1 ≤ k by omega)
      omega
    · exact h'
  have hf := fst1_le l
  have hl : (cutL l k (l.length - k)).length = l.length - k := cutL_length l k _ (by omega)
  have := fst1_is (cutL l k (l.length - k)) (fst1 l - k) (fun j hj => by
    rw [cutL_getD l k _ j (by omega)]; exact fst1_below l (by omega)) (fun hlt => by
    rw [hl] at hlt
    rw [cutL_getD l k _ _ hlt, show k + (fst1 l - k) = fst1 l by omega]; exact fst1_at l (by omega)) (by omega)
  omega
theorem blk_alloc {w : World} {g : Nat} (o : Obj) (h : g < w.heap.size) : (w.alloc o).heap[g]? = w.heap[g]? := Below.heap_alloc w o g h
theorem blk_set {w : World} {g : Nat} {p : Addr} (u : Value) (h : g ≠ p.block) : (w.setCell p u).heap[g]? = w.heap[g]? := Below.heap_setCell w p u g h
theorem blk_ext {w w' : World} {g : Nat} (hx : Ext w w') (h : g < w.heap.size) : w'.heap[g]? = w.heap[g]? := hx.block g h
theorem IsB.blk {w w' : World} {g c : Nat} {l : List Bool} {m : Nat} (hm : m = wc l.length) {n : Int} (hn : n = (l.length : Int)) (h : IsB w (.agg #[.slice (some ⟨g, 0, none⟩) m c, .int .i64 n]) l) (hs : g < w'.heap.size) (hb : w'.heap[g]? = w.heap[g]?) : IsB w' (.agg #[.slice (some ⟨g, 0, none⟩) m c, .int .i64 n]) l := by
  subst hm hn
  obtain ⟨h1, A, c', e, hsl⟩ := h
  refine ⟨h1, A, c', e, hsl.1, fun h0 => ?_⟩
  have eA : A = some ⟨g, 0, none⟩ := by
    simp at e
    exact e.1.symm
  obtain ⟨a, ea, hab, hcl⟩ := hsl.2 h0
  rw [eA] at ea
  cases ea
  refine ⟨_, eA, hs, fun j u hj => ?_⟩
  refine (World.cell?_of_block ?_).trans (hcl j u hj)
  rw [addr_block]
  exact hb
end Go.Proofs.YtmjikdkdccnbaaaDoor
