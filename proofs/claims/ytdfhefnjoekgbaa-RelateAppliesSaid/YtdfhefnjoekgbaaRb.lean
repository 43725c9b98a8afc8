/- Bits, with what they read; the Vec of truths. -/
import Derived.Test.YtdfhefnjoekgbaaQo
import Derived.Test.YtdfhefnjoekgbaaQq
import Derived.Test.YtdfhefnjoekgbaaPy
import Derived.Test.YtdfhefnjoekgbaaPv
namespace Go.Proofs.Ytdfhefnjoekgbaa
open Go.ChangeShapes Go.WideShapes Go.RowKit Bv Fl

/-- of the blocks that there are, those of S alone are read for v to be l -/
def BitS (w : World) (v : Value) (l : List Bool) (S : Nat → Prop) : Prop := ∀ w' : World, w.heap.size ≤ w'.heap.size → (∀ i, i < w.heap.size → S i → w'.heap[i]? = w.heap[i]?) → IsB w' v l
section
variable {w w' : World} {v : Value} {l : List Bool} {S S' : Nat → Prop} {g : Nat}
theorem Bv.IsB.reach (h : IsB w v l) (hs : w.heap.size ≤ w'.heap.size) (hk : ∀ i, i < w.heap.size → S i → w'.heap[i]? = w.heap[i]?) (hA : ∀ A n c m, v = .agg #[.slice A n c, .int .i64 m] → ∀ a, A = some a → a.block < w.heap.size → S a.block) : IsB w' v l := by
  obtain ⟨h1, A, c, rfl, h2⟩ := h
  exact ⟨h1, A, c, rfl, h2.reach hs hk (hA _ _ _ _ rfl)⟩
theorem Bv.IsB.flat (h : IsB w v l) : Flat 2 v := by
  obtain ⟨_, A, c, rfl, _⟩ := h
  exact ⟨_, rfl, rfl, by simp [Value.oneCell']⟩
theorem BitS.mk (h : IsB w v l) (hA : ∀ A n c m, v = .agg #[.slice A n c, .int .i64 m] → ∀ a, A = some a → S a.block) : BitS w v l S := fun _ hs hk => h.reach hs hk fun A n c m e a ha _ => hA A n c m e a ha
theorem BitS.all (h : IsB w v l) : BitS w v l (fun i => i < w.heap.size) := fun _ hs hk => h.reach hs hk fun _ _ _ _ _ _ _ hb => hb
theorem BitS.is (h : BitS w v l S) : IsB w v l := h w (Nat.le_refl _) fun _ _ _ => rfl
theorem BitS.ext (h : BitS w v l S) (hx : Ext w w') : BitS w' v l S := fun w2 hs hk => h w2 (Nat.le_trans hx.size hs) fun i hi hS => (hk i (Nat.lt_of_lt_of_le hi hx.size) hS).trans (hx.block i hi)
theorem BitS.mono (h : BitS w v l S) (hS : ∀ i, i < w.heap.size → S i → S' i) : BitS w v l S' := fun w2 hs hk => h w2 hs fun i hi hs => hk i hi (hS i hi hs)
theorem BitS.now (h : BitS w v l S) : BitS w v l (fun i => S i ∧ i < w.heap.size) := h.mono fun _ hi h => ⟨h, hi⟩
theorem BitS.grown (h : BitS w v l S) (hg : w.grownBy w' (some g)) (hS : ¬ S g) : BitS w' v l S := fun w2 hs hk => h w2 (Nat.le_trans hg.size hs) fun i hi hi' => by
  have e : i ≠ g := fun e => hS (e ▸ hi')
  rw [hk i (Nat.lt_of_lt_of_le hi hg.size) hi']
  exact hg.block i hi (by simpa using e)
theorem Bv.OwnB.bs {base : Nat} (h : OwnB w base v l) : BitS w v l (New base) := by
  refine BitS.mk h.is fun A n c m e a ha => ?_
  obtain ⟨_, g, c', rfl, hg, _⟩ := h
  cases e
  cases ha
  exact hg
end
theorem packed_val (A : Option Addr) (m c : Nat) (n : Int) (c3 c4 c5 c6 c7 : Value) (w : World) : Calls Try.prog 36 #[.agg #[.int .i64 1, .slice A m c, .int .i64 n, c3, c4, c5, c6, c7]] w fun e w' => e = .returned (.tuple #[.agg #[.slice A m c, .int .i64 n], .bool true]) ∧ Ext w w' := by
  go_enter Try.func36, Try.ntmps36
  go_wp2
  refine bodyPost_ret (v := .tuple #[.agg #[.slice A m c, .int .i64 n], .bool true]) (by simp [results, Try.results36, go_sem]) rfl ⟨rfl, ?_⟩
  exact ((Ext.refl w).alloc _).alloc _
/-- a Vec of truths is truths -/
theorem isvec_isb {w : World} {A : Option Addr} {m c : Nat} {n : Int} {c3 c4 c5 c6 c7 : Value} {b : List Bool} (h : IsVec w (.agg #[.int .i64 1, .slice A m c, .int .i64 n, c3, c4, c5, c6, c7]) (VD.bits b)) : IsB w (.agg #[.slice A m c, .int .i64 n]) b := by
  rcases h with ⟨h, _⟩ | ⟨l', A', c', h, hl, hv, hs⟩ | ⟨l, A, c, h, _⟩ | ⟨l, A, c, h, _⟩ | ⟨l, A, c, h, _⟩ | ⟨l, A, c, h, _⟩ | ⟨n, cs, A, c, h, _⟩
  · cases h
  · obtain rfl : b = l' := by cases h; rfl
    cases hv
    exact ⟨hl, A, c, rfl, hs⟩
  all_goals cases h
theorem VecS.packed (v : Value) (b : List Bool) (w : World) (h : IsVec w v (VD.bits b)) : Calls Try.prog 36 #[v] w fun e w' => ∃ v', e = .returned (.tuple #[v', .bool true]) ∧ (∀ S, VecS w v (VD.bits b) S → BitS w' v' b S) ∧ Ext w w' := by
  obtain ⟨a1, n1, k1, bn, a3, n3, k3, a4, n4, k4, a5, n5, k5, a6, n6, k6, a7, n7, k7, rfl⟩ := h.shape
  refine (packed_val a1 n1 k1 bn _ _ _ _ _ w).mono ?_
  rintro e w' ⟨rfl, hx⟩
  refine ⟨_, rfl, fun S hS => BitS.ext (fun w2 hs hk => isvec_isb (hS w2 hs hk)) hx, hx⟩
theorem VecS.bits_of (v : Value) (b : List Bool) (w : World) (h : IsB w v b) : Calls Try.prog 41 #[v] w fun e w' => ∃ v', e = .returned v' ∧ (∀ S, BitS w v b S → VecS w' v' (VD.bits b) S) ∧ Ext w w' := by
  obtain ⟨hl, A, c, rfl, _⟩ := h
  refine (vbits_val A _ c _ w).mono ?_
  rintro e w' ⟨rfl, hx⟩
  refine ⟨_, rfl, fun S hS => VecS.ext (fun w2 hs hk => ?_) hx, hx⟩
  obtain ⟨hl, A', c', hv, hs'⟩ := hS w2 hs hk
  cases hv
  exact isvec_bits hl hs'
theorem NumS.bits {w : World} {v : Value} {l : List Nat} {S : Nat → Prop} (h : NumS w v 1 l S) : VecS w v (VD.bits (toB l)) S := by
  obtain ⟨d, hv, hk, _, _, rfl⟩ := h
  have hd : ∃ b, d = VD.bits b := by
    rcases hv.is with ⟨rfl, _⟩ | ⟨l, A, c, rfl, _⟩ | ⟨l, A, c, rfl, _, hb, _⟩ | ⟨l, A, c, rfl, _, hb, _⟩ | ⟨l, A, c, rfl, _, hb, _⟩ | ⟨l, A, c, rfl, _⟩ | ⟨n, cs, A, c, rfl, _⟩
    · cases hk
    · exact ⟨l, rfl⟩
    all_goals cases hk
  obtain ⟨b, rfl⟩ := hd
  have e : toB (VD.bits b).nums = b := by
    apply List.ext_getElem (by rw [toB_length, VD.nums_length]; rfl)
    intro j h1 h2
    simp only [toB, VD.nums, List.getElem_map, List.getElem_range]
    show decide (bitW (b.getD j false) = _) = _
    rw [show b.getD j false = b[j] by simp [List.getD, h2]]
    cases b[j] <;> rfl
  rw [e]
  exact hv
/-- p, the truths b, reads only what v0 read in w0, and blocks of T -/
def OnlyB (w0 : World) (v0 : Value) (K : Nat) (l : List Nat) (w : World) (p : Value) (b : List Bool) (T : Nat → Prop) : Prop := ∀ S, NumS w0 v0 K l S → BitS w p b (fun i => (S i ∧ i < w0.heap.size) ∨ T i)
section
variable {w0 w w' : World} {v0 p : Value} {K : Nat} {l : List Nat} {b : List Bool} {T T' : Nat → Prop}
theorem OnlyB.ext (h : OnlyB w0 v0 K l w p b T) (hx : Ext w w') : OnlyB w0 v0 K l w' p b T := fun S hS => (h S hS).ext hx
theorem OnlyB.grown {g : Nat} (h : OnlyB w0 v0 K l w p b T) (hg : w.grownBy w' (some g)) (hT : ¬ T g) (h0 : w0.heap.size ≤ g) : OnlyB w0 v0 K l w' p b T := fun S hS => (h S hS).grown hg (fun h => h.elim (fun h => absurd h.2 (by omega)) hT)
theorem OnlyB.bits (h : OnlyB w0 v0 K l w p b T) (h0 : IsNum w0 v0 K l) : BitS w p b (fun i => i < w0.heap.size ∨ T i) := (h _ (NumS.all h0)).mono fun _ _ h => h.imp (fun h => h.2) id
theorem OnlyB.post (h : OnlyB w0 v0 K l w p b T) (hT : ∀ i, i < w.heap.size → T i → w0.heap.size ≤ i) : ∀ S, NumS w0 v0 K l S → BitS w p b (fun i => S i ∨ New w0.heap.size i) := fun S hS => (h S hS).mono fun i hi h => h.elim (fun h => .inl h.1) fun h => .inr (hT i hi h)
end
end Go.Proofs.Ytdfhefnjoekgbaa
