/- Of which blocks a Vec reads: a Vec stays where other blocks are written. -/
import Derived.Test.YtdfhefnjoekgbaaQb
namespace Go.Proofs.Ytdfhefnjoekgbaa
open Go.RowKit Bv Fl

/-- of the blocks that there are, those of S alone are read for v to be d -/
def VecS (w : World) (v : Value) (d : VD) (S : Nat → Prop) : Prop := ∀ w' : World, w.heap.size ≤ w'.heap.size → (∀ i, i < w.heap.size → S i → w'.heap[i]? = w.heap[i]?) → IsVec w' v d
/-- the slices of the struct v lie in blocks of S -/
def In (S : Nat → Prop) (v : Value) : Prop := ∀ cs, v = .agg cs → ∀ A n c, Value.slice A n c ∈ cs.toList → ∀ a, A = some a → S a.block
theorem Sl.reach {w w' : World} {s n : Nat} {A : Option Addr} {xs : List Value} {S : Nat → Prop} (h : Sl w s A n xs) (hs : w.heap.size ≤ w'.heap.size) (hk : ∀ i, i < w.heap.size → S i → w'.heap[i]? = w.heap[i]?) (hA : ∀ a, A = some a → a.block < w.heap.size → S a.block) : Sl w' s A n xs :=
  ⟨h.1, fun hn => by
    obtain ⟨a, e, hb, hc⟩ := h.2 hn
    refine ⟨a, e, Nat.lt_of_lt_of_le hb hs, fun j u hu => ?_⟩
    exact (World.cell?_of_block (by rw [addr_block]; exact hk _ hb (hA a e hb))).trans (hc j u hu)⟩
theorem IsVec.reach {w w' : World} {v : Value} {d : VD} {S : Nat → Prop} (h : IsVec w v d) (hs : w.heap.size ≤ w'.heap.size) (hk : ∀ i, i < w.heap.size → S i → w'.heap[i]? = w.heap[i]?) (hA : ∀ cs, v = .agg cs → ∀ A n c, Value.slice A n c ∈ cs.toList → ∀ a, A = some a → a.block < w.heap.size → S a.block) : IsVec w' v d := by
  rcases h with h | ⟨l, A, c, h1, h2, h3, h4⟩ | ⟨l, A, c, h1, h2, h3, h4, h5⟩ | ⟨l, A, c, h1, h2, h3, h4, h5⟩ | ⟨l, A, c, h1, h2, h3, h4, h5⟩ | ⟨l, A, c, h1, h2, h3, h4⟩ | ⟨n, cs, A, c, h1, h2, h3, h4, h5, h6⟩
  · exact .inl h
  · exact .inr (.inl ⟨l, A, c, h1, h2, h3, h4.reach hs hk (hA _ h3 A (wc l.length) c (by simp))⟩)
  · exact .inr (.inr (.inl ⟨l, A, c, h1, h2, h3, h4, h5.reach hs hk (hA _ h4 A l.length c (by simp))⟩))
  · exact .inr (.inr (.inr (.inl ⟨l, A, c, h1, h2, h3, h4, h5.reach hs hk (hA _ h4 A l.length c (by simp))⟩)))
  · exact .inr (.inr (.inr (.inr (.inl ⟨l, A, c, h1, h2, h3, h4, h5.reach hs hk (hA _ h4 A l.length c (by simp))⟩))))
  · exact .inr (.inr (.inr (.inr (.inr (.inl ⟨l, A, c, h1, h2, h3, h4.reach hs hk (hA _ h3 A l.length c (by simp))⟩)))))
  · exact .inr (.inr (.inr (.inr (.inr (.inr ⟨n, cs, A, c, h1, h2, h3, h4, h5, h6.reach hs hk (hA _ h5 A n c (by simp))⟩)))))
section
variable {w w' : World} {v : Value} {d : VD} {S S' : Nat → Prop}
theorem VecS.mk (h : IsVec w v d) (hf : In S v) : VecS w v d S := fun _ hs hk => h.reach hs hk fun cs hv A n c hm a ha _ => hf cs hv A n c hm a ha
theorem VecS.all (h : IsVec w v d) : VecS w v d (fun i => i < w.heap.size) := fun _ hs hk => h.reach hs hk fun _ _ _ _ _ _ _ _ hb => hb
theorem VecS.is (h : VecS w v d S) : IsVec w v d := h w (Nat.le_refl _) fun _ _ _ => rfl
theorem VecS.ext (h : VecS w v d S) (hx : Ext w w') : VecS w' v d S := fun w2 hs hk => h w2 (Nat.le_trans hx.size hs) fun i hi hS => (hk i (Nat.lt_of_lt_of_le hi hx.size) hS).trans (hx.block i hi)
theorem VecS.mono (h : VecS w v d S) (hS : ∀ i, i < w.heap.size → S i → S' i) : VecS w v d S' := fun w2 hs hk => h w2 hs fun i hi hs => hk i hi (hS i hi hs)
theorem VecS.set (h : VecS w v d S) {p : Addr} (hp : ¬ S p.block) (u : Value) : VecS (w.setCell p u) v d S := fun w2 hs hk => h w2 (by simpa [World.setCell] using hs) fun i hi hS => by
  have e : i ≠ p.block := fun e => hp (e ▸ hS)
  rw [hk i (by simpa [World.setCell] using hi) hS]
  exact Below.heap_setCell w p u i e
end

/-- numbers l, in store k; for that, blocks of S alone are read -/
def NumS (w : World) (v : Value) (k : Nat) (l : List Nat) (S : Nat → Prop) : Prop := ∃ d, VecS w v d S ∧ d.kind = k ∧ 1 ≤ k ∧ k ≤ 4 ∧ d.nums = l
section
variable {w w' : World} {v : Value} {k : Nat} {l : List Nat} {S S' : Nat → Prop}
theorem NumS.is (h : NumS w v k l S) : IsNum w v k l := by
  obtain ⟨d, hv, h1⟩ := h
  exact ⟨d, hv.is, h1⟩
theorem NumS.all (h : IsNum w v k l) : NumS w v k l (fun i => i < w.heap.size) := by
  obtain ⟨d, hv, h1⟩ := h
  exact ⟨d, VecS.all hv, h1⟩
theorem NumS.mk (h : IsNum w v k l) (hf : In S v) : NumS w v k l S := by
  obtain ⟨d, hv, h1⟩ := h
  exact ⟨d, VecS.mk hv hf, h1⟩
theorem NumS.ext (h : NumS w v k l S) (hx : Ext w w') : NumS w' v k l S := by
  obtain ⟨d, hv, h1⟩ := h
  exact ⟨d, hv.ext hx, h1⟩
theorem NumS.mono (h : NumS w v k l S) (hS : ∀ i, i < w.heap.size → S i → S' i) : NumS w v k l S' := by
  obtain ⟨d, hv, h1⟩ := h
  exact ⟨d, hv.mono hS, h1⟩
theorem NumS.set (h : NumS w v k l S) {p : Addr} (hp : ¬ S p.block) (u : Value) : NumS (w.setCell p u) v k l S := by
  obtain ⟨d, hv, h1⟩ := h
  exact ⟨d, hv.set hp u, h1⟩
end
/-- new in w' since there were B blocks -/
abbrev New (B : Nat) (i : Nat) : Prop := B ≤ i
theorem In.one {S : Nat → Prop} {k : Int} {A : Option Addr} {n c : Nat} {x1 x2 x3 x4 x5 x6 x7 : Value} (hA : ∀ a, A = some a → S a.block)
    (h1 : x1 = .slice A n c ∨ x1 = .slice none 0 0) (h2 : ∃ m, x2 = .int .i64 m) (h3 : x3 = .slice A n c ∨ x3 = .slice none 0 0) (h4 : x4 = .slice A n c ∨ x4 = .slice none 0 0) (h5 : x5 = .slice A n c ∨ x5 = .slice none 0 0) (h6 : x6 = .slice A n c ∨ x6 = .slice none 0 0) (h7 : x7 = .slice A n c ∨ x7 = .slice none 0 0) :
    In S (.agg #[.int .i64 k, x1, x2, x3, x4, x5, x6, x7]) := by
  intro cs hcs A' n' c' hm a ha
  cases hcs
  obtain ⟨m, rfl⟩ := h2
  simp only [List.mem_cons, List.not_mem_nil, or_false] at hm
  have key : ∀ x, (x = Value.slice A n c ∨ x = Value.slice none 0 0) → Value.slice A' n' c' = x → S a.block := by
    intro x hx e
    rcases hx with rfl | rfl
    · cases e; exact hA a ha
    · cases e; cases ha
  rcases hm with e | e | e | e | e | e | e | e
  · cases e
  · exact key _ h1 e
  · cases e
  · exact key _ h3 e
  · exact key _ h4 e
  · exact key _ h5 e
  · exact key _ h6 e
  · exact key _ h7 e
end Go.Proofs.Ytdfhefnjoekgbaa
