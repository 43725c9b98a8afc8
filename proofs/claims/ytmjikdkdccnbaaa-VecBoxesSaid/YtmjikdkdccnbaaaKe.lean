/- Whole structs in variables, what a Vec or a slice reads, rows of one's own (vec seat; like Qk, Q's end, Sl, Rr, Ub). -/
import Derived.Test.YtmjikdkdccnbaaaVp
import Derived.Deep.MidRow
import Derived.Deep.DrawnRows
import Derived.Deep.Onto
import Derived.Maps.AppendAt
namespace Go.Proofs.Ytmjikdkdccnbaaa
open Go.RowKit Bv Fl
/-- of the blocks that there are, those of S alone are read for v to be d -/
def VecS (w : World) (v : Value) (d : VD) (S : Nat → Prop) : Prop := ∀ w' : World, w.heap.size ≤ w'.heap.size → (∀ i, i < w.heap.size → S i → w'.heap[i]? = w.heap[i]?) → IsVec w' v d
/-- the slices of the struct v lie in blocks of S -/
def In (S : Nat → Prop) (v : Value) : Prop := ∀ cs, v = .agg cs → ∀ A n c, Value.slice A n c ∈ cs.toList → ∀ a, A = some a → S a.block
theorem Sl.reach {w w' : World} {s n : Nat} {A : Option Addr} {xs : List Value} {S : Nat → Prop} (h : Sl w s A n xs) (hs : w.heap.size ≤ w'.heap.size) (hk : ∀ i, i < w.heap.size → S i → w'.heap[i]? = w.heap[i]?) (hA : ∀ a, A = some a → a.block < w.heap.size → S a.block) : Sl w' s A n xs :=
  ⟨h.1, fun hn => by
    obtain ⟨a, e, hb, hc⟩ := h.2 hn
    refine ⟨a, e, Nat.lt_of_lt_of_le hb hs, fun j u hu => ?_⟩
    exact (World.cell?_of_block (by rw [addr_block]; exact hk _ hb (hA a e hb))).trans (hc j u hu)⟩
theorem IsVec.reach {w w' : World} {v : Value} {d : VD} {S : Nat → Prop} (h : IsVec w v d) (hs : w.heap.size ≤ w'.heap.size) (hk : ∀ i, i < w.heap.size → S i → w'.heap[i]? = w.heap[i]?) (hA : ∀ cs, v = .agg cs → ∀ A n c, Value.slice A n c ∈ cs.toList → ∀ a, A = some a → a.block < w.heap.size → S a.block) : IsVec w' v d := by
  rcases h with h | ⟨l, A, c, h1, h2, h3, h4⟩ | ⟨l, A, c, h1, h2, h3, h4, h5⟩ | ⟨l, A, c, h1, h2, h3, h4, h5⟩ | ⟨l, A, c, h1, h2, h3, h4, h5⟩ | ⟨l, A, c, h1, h2, h3, h4⟩ | ⟨n, cs, A, c, h1, h2, h3, h4, h5, h6⟩
  · exact .inl h
  · exact .inr (.inl ⟨l, A, c, h1, h2, h3, h4.reach hs hk (hA _ h3 A (wc l.length) c (by simp))⟩)
  · exact .inr (.inr (.inl ⟨l, A, c, h1, h2, h3, h4, h5.reach hs hk (hA _ h4 A l.length c (by simp))⟩))
  · exact .inr (.inr (.inr (.inl ⟨l, A, c, h1, h2, h3, h4, h5.reach hs hk (hA _ h4 A l.length c (by simp))⟩)))
  · exact .inr (.inr (.inr (.inr (.inl ⟨l, A, c, h1, h2, h3, h4, h5.reach hs hk (hA _ h4 A l.length c (by simp))⟩))))
  · exact .inr (.inr (.inr (.inr (.inr (.inl ⟨l, A, c, h1, h2, h3, h4.reach hs hk (hA _ h3 A l.length c (by simp))⟩)))))
  · exact .inr (.inr (.inr (.inr (.inr (.inr ⟨n, cs, A, c, h1, h2, h3, h4, h5, h6.reach hs hk (hA _ h5 A n c (by simp))⟩)))))
section
variable {w w' : World} {v : Value} {d : VD} {S S' : Nat → Prop}
theorem VecS.mk (h : IsVec w v d) (hf : In S v) : VecS w v d S := fun _ hs hk => h.reach hs hk fun cs hv A n c hm a ha _ => hf cs hv A n c hm a ha
theorem VecS.all (h : IsVec w v d) : VecS w v d (fun i => i < w.heap.size) := fun _ hs hk => h.reach hs hk fun _ _ _ _ _ _ _ _ hb => hb
theorem VecS.is (h : VecS w v d S) : IsVec w v d := h w (Nat.le_refl _) fun _ _ _ => rfl
theorem VecS.ext (h : VecS w v d S) (hx : Ext w w') : VecS w' v d S := fun w2 hs hk => h w2 (Nat.le_trans hx.size hs) fun i hi hS => (hk i (Nat.lt_of_lt_of_le hi hx.size) hS).trans (hx.block i hi)
theorem VecS.mono (h : VecS w v d S) (hS : ∀ i, i < w.heap.size → S i → S' i) : VecS w v d S' := fun w2 hs hk => h w2 hs fun i hi hs => hk i hi (hS i hi hs)
theorem VecS.set (h : VecS w v d S) {p : Addr} (hp : ¬ S p.block) (u : Value) : VecS (w.setCell p u) v d S := fun w2 hs hk => h w2 (by simpa [World.setCell] using hs) fun i hi hS => by
  have e : i ≠ p.block := fun e => hp (e ▸ hS)
  rw [hk i (by simpa [World.setCell] using hi) hS]
  exact Below.heap_setCell w p u i e
end

/-- new in w' since there were B blocks -/
abbrev New (B : Nat) (i : Nat) : Prop := B ≤ i
theorem In.one {S : Nat → Prop} {k : Int} {A : Option Addr} {n c : Nat} {x1 x2 x3 x4 x5 x6 x7 : Value} (hA : ∀ a, A = some a → S a.block)
    (h1 : x1 = .slice A n c ∨ x1 = .slice none 0 0) (h2 : ∃ m, x2 = .int .i64 m) (h3 : x3 = .slice A n c ∨ x3 = .slice none 0 0) (h4 : x4 = .slice A n c ∨ x4 = .slice none 0 0) (h5 : x5 = .slice A n c ∨ x5 = .slice none 0 0) (h6 : x6 = .slice A n c ∨ x6 = .slice none 0 0) (h7 : x7 = .slice A n c ∨ x7 = .slice none 0 0) :
    In S (.agg #[.int .i64 k, x1, x2, x3, x4, x5, x6, x7]) := by
  intro cs hcs A' n' c' hm a ha
  cases hcs
  obtain ⟨m, rfl⟩ := h2
  simp only [List.mem_cons, List.not_mem_nil, or_false] at hm
  have key : ∀ x, (x = Value.slice A n c ∨ x = Value.slice none 0 0) → Value.slice A' n' c' = x → S a.block := by
    intro x hx e
    rcases hx with rfl | rfl
    · cases e; exact hA a ha
    · cases e; cases ha
  rcases hm with e | e | e | e | e | e | e | e
  · cases e
  · exact key _ h1 e
  · cases e
  · exact key _ h3 e
  · exact key _ h4 e
  · exact key _ h5 e
  · exact key _ h6 e
  · exact key _ h7 e
/-- the struct v, of n cells, lies in block B -/
def Lay (n : Nat) (w : World) (B : Nat) (v : Value) : Prop := ∃ cs : Array Value, v = .agg cs ∧ cs.size = n ∧ w.rangeAt B 0 cs.toList
/-- n cells are there, to be written -/
def Room (n : Nat) (w : World) (B : Nat) : Prop := w.there B 0 n
/-- a struct of n cells -/
def Flat (n : Nat) (v : Value) : Prop := ∃ cs : Array Value, v = .agg cs ∧ cs.size = n ∧ cs.all (·.oneCell') = true
section
variable {n : Nat} {w w' : World} {B g : Nat} {v : Value}
theorem Lay.ext (h : Lay n w B v) (hx : Ext w w') : Lay n w' B v := by
  obtain ⟨cs, rfl, hn, hc⟩ := h
  exact ⟨cs, rfl, hn, fun j u hu => cell_ext hx (hc j u hu)⟩
theorem Lay.grown (h : Lay n w B v) (hg : w.grownBy w' (some g)) (hne : B ≠ g) : Lay n w' B v := by
  obtain ⟨cs, rfl, hn, hc⟩ := h
  exact ⟨cs, rfl, hn, fun j u hu => (grown_cell hg (p := ⟨B, 0 + j, none⟩) (World.block_lt_of_cell? _ _ (hc j u hu)) hne).trans (hc j u hu)⟩
theorem Room.lt {j : Nat} (h : Room n w B) (hj : j < n) : B < w.heap.size := by
  obtain ⟨u, hu⟩ := Option.isSome_iff_exists.1 (h j hj).1
  exact World.block_lt_of_cell? w _ hu
theorem Room.ext (h : Room n w B) (hx : Ext w w') : Room n w' B := fun j hj => by
  have hb := h.lt hj
  obtain ⟨h1, h2⟩ := h j hj
  exact ⟨by rw [Below.cell hx hb]; exact h1, by rw [Below.frozen hx hb]; exact h2⟩
theorem Room.grown (h : Room n w B) (hg : w.grownBy w' (some g)) (hne : B ≠ g) : Room n w' B := fun j hj => by
  have hb := h.lt hj
  obtain ⟨h1, h2⟩ := h j hj
  exact ⟨by rw [grown_cell hg (p := ⟨B, 0 + j, none⟩) hb hne]; exact h1, by rw [grown_frozen hg (p := ⟨B, 0 + j, none⟩) hb hne]; exact h2⟩
theorem Sl.grown' {s m : Nat} {A : Option Addr} {xs : List Value} (h : Sl w s A m xs) (hg : w.grownBy w' (some g)) (hA : ∀ a, A = some a → a.block ≠ g) : Sl w' s A m xs :=
  ⟨h.1, fun hn => by
    obtain ⟨a, e, hb, hc⟩ := h.2 hn
    exact ⟨a, e, Nat.lt_of_lt_of_le hb hg.size, fun j u hu => (grown_cell hg (by rw [addr_block]; exact hb) (by rw [addr_block]; exact hA a e)).trans (hc j u hu)⟩⟩
end
theorem VecS.grown {w w' : World} {v : Value} {d : VD} {S : Nat → Prop} {g : Nat} (h : VecS w v d S) (hg : w.grownBy w' (some g)) (hS : ¬ S g) : VecS w' v d S := fun w2 hs hk => h w2 (Nat.le_trans hg.size hs) fun i hi hi' => by
  have e : i ≠ g := fun e => hS (e ▸ hi')
  rw [hk i (Nat.lt_of_lt_of_le hi hg.size) hi']
  exact hg.block i hi (by simpa using e)
theorem VecS.now {w : World} {v : Value} {d : VD} {S : Nat → Prop} (h : VecS w v d S) : VecS w v d (fun i => S i ∧ i < w.heap.size) := h.mono fun _ hi h => ⟨h, hi⟩
theorem IsVec.flat {w : World} {v : Value} {d : VD} (h : IsVec w v d) : Flat 8 v := by
  obtain ⟨fa1, fn1, fk1, fbn, fa3, fn3, fk3, fa4, fn4, fk4, fa5, fn5, fk5, fa6, fn6, fk6, fa7, fn7, fk7, rfl⟩ := h.shape
  exact ⟨_, rfl, rfl, by simp [Value.oneCell']⟩
theorem zeroVec_flat : Flat 8 zeroVec := ⟨_, rfl, rfl, by simp [Value.oneCell']⟩
theorem zeroArr_flat : Flat 9 zeroArr := ⟨_, rfl, rfl, by simp [Value.oneCell']⟩
section
variable {P : Program} {n : Nat} {ty : TypeId} {d : TypeDesc}
theorem run_loadVar_lay (hu : P.underlying ty = some d) (hd : d.isRow = true) (hi : (P.info? ty).map (·.size) = some n) {w : World} {B : Nat} {v : Value} (h : Lay n w B v) : (loadVar ty ⟨B, 0, none⟩).run P w = .ok v w := by
  obtain ⟨cs, rfl, hn, hc⟩ := h
  have := run_loadVar_mid (P := P) w B 0 ty cs.toList d hc hu hd (by rw [hi, ← hn]; simp)
  simpa using this
theorem wp_load_lay (hu : P.underlying ty = some d) (hd : d.isRow = true) (hi : (P.info? ty).map (·.size) = some n) {op : Oper} {a : Act} {w : World} {K : Act → World → Prop} {Q : Exit → Act → World → Prop} {x : Operand} (ho : op.op = .load ty x)
    {B : Nat} (hx : a.eval x = .pointer (some ⟨B, 0, none⟩)) {v : Value} (hl : Lay n w B v) (h : K (a.put op.dst v) w) : op.wp P a w K Q := by
  unfold Oper.wp execOp
  simp only [ho, hx, Instr.loadAt, Instr.sureAddr, Sem.run_bind, Sem.run_pure, Result.andThen_ok, run_loadVar_lay hu hd hi hl]
  exact h
theorem yields_load_lay (hu : P.underlying ty = some d) (hd : d.isRow = true) (hi : (P.info? ty).map (·.size) = some n) {ops : Array Oper} {S : World → Prop} {op : Oper} {a : Act} (hw : Region.wanted op (yielded ops a.tmps) = true) {x : Operand} (ho : op.op = .load ty x)
    {B : Nat} (hx : a.eval x = .pointer (some ⟨B, 0, none⟩)) {v : Value} (hS : ∀ w, S w → Lay n w B v) : YieldsIf P ops S op v a :=
  .inl ⟨hw, fun w hw' => by
    unfold execOp
    simp only [ho, hx, Instr.loadAt, Instr.sureAddr, Sem.run_bind, Sem.run_pure, Result.andThen_ok, run_loadVar_lay hu hd hi (hS w hw')]⟩
theorem run_storeVar_lay (hi : (P.info? ty).map (·.size) = some n) {w : World} {B : Nat} {v : Value} (hr : Room n w B) (hf : Flat n v) : ∃ w', (storeVar ty ⟨B, 0, none⟩ v).run P w = .ok () w' ∧ w.grownBy w' (some B) ∧ Lay n w' B v ∧ Room n w' B := by
  obtain ⟨cs, rfl, hn, h1⟩ := hf
  refine ⟨_, run_storeVar_mid (P := P) w B 0 ty cs (by rw [hn]; exact hr) (by rw [hi, hn]) h1, ?_, ⟨cs, rfl, hn, World.rangeAt_setCells_same w B 0 _ (by rw [Array.length_toList, hn]; exact hr)⟩, World.there_setCells hr B 0 _⟩
  have : ∀ (l : List Value) (o : Nat) (w1 : World), w.grownBy w1 (some B) → w.grownBy (w1.setCells B o l) (some B) := by
    intro l
    induction l with
    | nil => intro o w1 h; exact h
    | cons u l ih => intro o w1 h; exact ih _ _ (grown_set h u)
  exact this _ _ _ (World.grownBy.refl w _)
theorem wp_store_lay (hi : (P.info? ty).map (·.size) = some n) {op : Oper} {a : Act} {w : World} {K : Act → World → Prop} {Q : Exit → Act → World → Prop} {x y : Operand} (ho : op.op = .store ty x y)
    {B : Nat} (hx : a.eval x = .pointer (some ⟨B, 0, none⟩)) {v : Value} (hy : a.eval y = v) (hr : Room n w B) (hf : Flat n v)
    (h : ∀ w', w.grownBy w' (some B) → Lay n w' B v → Room n w' B → K (a.put op.dst undef) w') : op.wp P a w K Q := by
  obtain ⟨w', hrun, h1, h3, h4⟩ := run_storeVar_lay (P := P) (ty := ty) hi hr hf
  unfold Oper.wp execOp
  simp only [ho, hx, hy, Instr.storeAt, Instr.sureAddr, Sem.run_bind, Sem.run_pure, Result.andThen_ok, hrun]
  exact h w' h1 h3 h4
theorem new_lay (w : World) (t : TypeId) {v : Value} (hf : Flat n v) : Lay n (w.alloc (.cells v.cells t)) w.heap.size v ∧ Room n (w.alloc (.cells v.cells t)) w.heap.size := by
  obtain ⟨cs, rfl, hn, _⟩ := hf
  refine ⟨⟨cs, rfl, hn, fun j u hu => ?_⟩, fun j hj => ⟨?_, ?_⟩⟩
  · rw [World.cell?_alloc_new]
    simp only [Nat.zero_add]
    show cs[j]? = some u
    simpa using hu
  · rw [World.cell?_alloc_new]
    simp [Value.cells, hn, hj]
  · simp
theorem wp_box_lay {op : Oper} {a : Act} {w : World} {K : Act → World → Prop} {Q : Exit → Act → World → Prop} {x : Operand} (ho : op.op = .box ty x) {v : Value} (hy : a.eval x = v) (hf : Flat n v)
    (h : ∀ B w', w.heap.size ≤ B → B < w'.heap.size → Ext w w' → Lay n w' B v → Room n w' B → K (a.put op.dst (.pointer (some ⟨B, 0, none⟩))) w') : op.wp P a w K Q := by
  unfold Oper.wp execOp
  simp only [ho, hy, Sem.run_bind, Instr.box, newVar, newRow, run_newObj_alloc, Sem.run_pure, Result.andThen_ok]
  exact h _ _ (Nat.le_refl _) (by simp) ((Ext.refl w).alloc _) (new_lay w ty hf).1 (new_lay w ty hf).2
theorem wp_alloc_lay {i : TypeInfo} {z : Value} (hi : P.info? ty = some i) (hz : i.zero = some z) (hf : Flat n z) {op : Oper} {a : Act} {w : World} {K : Act → World → Prop} {Q : Exit → Act → World → Prop} (ho : op.op = .alloc ty)
    (h : ∀ B w', w.heap.size ≤ B → B < w'.heap.size → Ext w w' → Lay n w' B z → Room n w' B → K (a.put op.dst (.pointer (some ⟨B, 0, none⟩))) w') : op.wp P a w K Q := by
  have hzv : (zeroValue ty).run P w = .ok z w := by simp [zeroValue, typeInfo, hi, hz]
  unfold Oper.wp execOp
  simp only [ho, Sem.run_bind, Instr.alloc, hzv, newVar, newRow, run_newObj_alloc, Sem.run_pure, Result.andThen_ok]
  exact h _ _ (Nat.le_refl _) (by simp) ((Ext.refl w).alloc _) (new_lay w ty hf).1 (new_lay w ty hf).2
end
theorem szV : (Try.prog.info? 34).map (·.size) = some 8 := by kernel_rfl
theorem rowV : ∃ d : TypeDesc, Try.prog.underlying 34 = some d ∧ d.isRow = true := ⟨_, Try.underlying34, rfl⟩
theorem zrV : ∃ i, Try.prog.info? 34 = some i ∧ i.zero = some zeroVec := by
  have h : (Try.prog.info? 34).bind (·.zero) = some zeroVec := by kernel_rfl
  obtain ⟨i, hi, hz⟩ := Option.bind_eq_some_iff.1 h
  exact ⟨i, hi, hz⟩
theorem ldV {w : World} {B : Nat} {v : Value} (h : Lay 8 w B v) : (loadVar 34 ⟨B, 0, none⟩).run Try.prog w = .ok v w := by
  obtain ⟨d, hu, hd⟩ := rowV
  exact run_loadVar_lay hu hd szV h
theorem loadV {op : Oper} {a : Act} {w : World} {K : Act → World → Prop} {Q : Exit → Act → World → Prop} {x : Operand} (ho : op.op = .load 34 x)
    {B : Nat} (hx : a.eval x = .pointer (some ⟨B, 0, none⟩)) {v : Value} (hl : Lay 8 w B v) (h : K (a.put op.dst v) w) : op.wp Try.prog a w K Q := by
  obtain ⟨d, hu, hd⟩ := rowV
  exact wp_load_lay hu hd szV ho hx hl h
theorem loadsV {ops : Array Oper} {rest : List Oper} {op : Oper} {a : Act} {w : World} {Q : Exit → Act → World → Prop} {x : Operand} (hgd : op.guard = none) (ho : op.op = .load 34 x)
    {B : Nat} (hx : a.eval x = .pointer (some ⟨B, 0, none⟩)) {v : Value} (hl : Lay 8 w B v) (h : wpList Try.prog ops Q rest (a.put op.dst v) w) : wpList Try.prog ops Q (op :: rest) a w :=
  wpList_plain hgd fun _ hK => loadV ho hx hl (hK _ _ h)
theorem loadgV {ops : Array Oper} {rest : List Oper} {op : Oper} {a : Act} {w : World} {Q : Exit → Act → World → Prop} {x : Operand} (hw : Region.wanted op (yielded ops a.tmps) = true) (ho : op.op = .load 34 x)
    {B : Nat} (hx : a.eval x = .pointer (some ⟨B, 0, none⟩)) {v : Value} (hl : Lay 8 w B v) (h : wpList Try.prog ops Q rest (a.put op.dst v) w) : wpList Try.prog ops Q (op :: rest) a w :=
  wpList_step fun _ hK => by rw [if_pos hw]; exact loadV ho hx hl (hK _ _ h)
theorem yieldV {ops : Array Oper} {S : World → Prop} {op : Oper} {a : Act} {x : Operand} (hw : Region.wanted op (yielded ops a.tmps) = true) (ho : op.op = .load 34 x)
    {B : Nat} (hx : a.eval x = .pointer (some ⟨B, 0, none⟩)) {v : Value} (hS : ∀ w, S w → Lay 8 w B v) : YieldsIf Try.prog ops S op v a := by
  obtain ⟨d, hu, hd⟩ := rowV
  exact yields_load_lay hu hd szV hw ho hx hS
theorem storeV {op : Oper} {a : Act} {w : World} {K : Act → World → Prop} {Q : Exit → Act → World → Prop} {x y : Operand} (ho : op.op = .store 34 x y)
    {B : Nat} (hx : a.eval x = .pointer (some ⟨B, 0, none⟩)) {v : Value} (hy : a.eval y = v) (hr : Room 8 w B) (hf : Flat 8 v)
    (h : ∀ w', w.grownBy w' (some B) → Lay 8 w' B v → Room 8 w' B → K (a.put op.dst undef) w') : op.wp Try.prog a w K Q :=
  wp_store_lay szV ho hx hy hr hf h
theorem storesV {ops : Array Oper} {rest : List Oper} {op : Oper} {a : Act} {w : World} {Q : Exit → Act → World → Prop} {x y : Operand} (hgd : op.guard = none) (ho : op.op = .store 34 x y)
    {B : Nat} (hx : a.eval x = .pointer (some ⟨B, 0, none⟩)) {v : Value} (hy : a.eval y = v) (hr : Room 8 w B) (hf : Flat 8 v)
    (h : ∀ w', w.grownBy w' (some B) → Lay 8 w' B v → Room 8 w' B → wpList Try.prog ops Q rest (a.put op.dst undef) w') : wpList Try.prog ops Q (op :: rest) a w :=
  wpList_plain hgd fun _ hK => storeV ho hx hy hr hf fun _ h1 h3 h4 => hK _ _ (h _ h1 h3 h4)
theorem boxV {op : Oper} {a : Act} {w : World} {K : Act → World → Prop} {Q : Exit → Act → World → Prop} {x : Operand} (ho : op.op = .box 34 x) {v : Value} (hy : a.eval x = v) (hf : Flat 8 v)
    (h : ∀ B w', w.heap.size ≤ B → B < w'.heap.size → Ext w w' → Lay 8 w' B v → Room 8 w' B → K (a.put op.dst (.pointer (some ⟨B, 0, none⟩))) w') : op.wp Try.prog a w K Q :=
  wp_box_lay ho hy hf h
theorem boxsV {ops : Array Oper} {rest : List Oper} {op : Oper} {a : Act} {w : World} {Q : Exit → Act → World → Prop} {x : Operand} (hgd : op.guard = none) (ho : op.op = .box 34 x) {v : Value} (hy : a.eval x = v) (hf : Flat 8 v)
    (h : ∀ B w', w.heap.size ≤ B → B < w'.heap.size → Ext w w' → Lay 8 w' B v → Room 8 w' B → wpList Try.prog ops Q rest (a.put op.dst (.pointer (some ⟨B, 0, none⟩))) w') : wpList Try.prog ops Q (op :: rest) a w :=
  wpList_plain hgd fun _ hK => boxV ho hy hf fun _ _ h0 h1 h2 h3 h4 => hK _ _ (h _ _ h0 h1 h2 h3 h4)
theorem allocV {op : Oper} {a : Act} {w : World} {K : Act → World → Prop} {Q : Exit → Act → World → Prop} (ho : op.op = .alloc 34)
    (h : ∀ B w', w.heap.size ≤ B → B < w'.heap.size → Ext w w' → Lay 8 w' B zeroVec → Room 8 w' B → K (a.put op.dst (.pointer (some ⟨B, 0, none⟩))) w') : op.wp Try.prog a w K Q := by
  obtain ⟨i, hi, hz⟩ := zrV
  exact wp_alloc_lay hi hz zeroVec_flat ho h
theorem allocsV {ops : Array Oper} {rest : List Oper} {op : Oper} {a : Act} {w : World} {Q : Exit → Act → World → Prop} (hgd : op.guard = none) (ho : op.op = .alloc 34)
    (h : ∀ B w', w.heap.size ≤ B → B < w'.heap.size → Ext w w' → Lay 8 w' B zeroVec → Room 8 w' B → wpList Try.prog ops Q rest (a.put op.dst (.pointer (some ⟨B, 0, none⟩))) w') : wpList Try.prog ops Q (op :: rest) a w :=
  wpList_plain hgd fun _ hK => allocV ho fun _ _ h0 h1 h2 h3 h4 => hK _ _ (h _ _ h0 h1 h2 h3 h4)
theorem szA : (Try.prog.info? 37).map (·.size) = some 9 := by kernel_rfl
theorem rowA : ∃ d : TypeDesc, Try.prog.underlying 37 = some d ∧ d.isRow = true := ⟨_, Try.underlying37, rfl⟩
theorem zrA : ∃ i, Try.prog.info? 37 = some i ∧ i.zero = some zeroArr := by
  have h : (Try.prog.info? 37).bind (·.zero) = some zeroArr := by kernel_rfl
  obtain ⟨i, hi, hz⟩ := Option.bind_eq_some_iff.1 h
  exact ⟨i, hi, hz⟩
theorem ldA {w : World} {B : Nat} {v : Value} (h : Lay 9 w B v) : (loadVar 37 ⟨B, 0, none⟩).run Try.prog w = .ok v w := by
  obtain ⟨d, hu, hd⟩ := rowA
  exact run_loadVar_lay hu hd szA h
theorem loadA {op : Oper} {a : Act} {w : World} {K : Act → World → Prop} {Q : Exit → Act → World → Prop} {x : Operand} (ho : op.op = .load 37 x)
    {B : Nat} (hx : a.eval x = .pointer (some ⟨B, 0, none⟩)) {v : Value} (hl : Lay 9 w B v) (h : K (a.put op.dst v) w) : op.wp Try.prog a w K Q := by
  obtain ⟨d, hu, hd⟩ := rowA
  exact wp_load_lay hu hd szA ho hx hl h
theorem loadsA {ops : Array Oper} {rest : List Oper} {op : Oper} {a : Act} {w : World} {Q : Exit → Act → World → Prop} {x : Operand} (hgd : op.guard = none) (ho : op.op = .load 37 x)
    {B : Nat} (hx : a.eval x = .pointer (some ⟨B, 0, none⟩)) {v : Value} (hl : Lay 9 w B v) (h : wpList Try.prog ops Q rest (a.put op.dst v) w) : wpList Try.prog ops Q (op :: rest) a w :=
  wpList_plain hgd fun _ hK => loadA ho hx hl (hK _ _ h)
theorem loadgA {ops : Array Oper} {rest : List Oper} {op : Oper} {a : Act} {w : World} {Q : Exit → Act → World → Prop} {x : Operand} (hw : Region.wanted op (yielded ops a.tmps) = true) (ho : op.op = .load 37 x)
    {B : Nat} (hx : a.eval x = .pointer (some ⟨B, 0, none⟩)) {v : Value} (hl : Lay 9 w B v) (h : wpList Try.prog ops Q rest (a.put op.dst v) w) : wpList Try.prog ops Q (op :: rest) a w :=
  wpList_step fun _ hK => by rw [if_pos hw]; exact loadA ho hx hl (hK _ _ h)
theorem yieldA {ops : Array Oper} {S : World → Prop} {op : Oper} {a : Act} {x : Operand} (hw : Region.wanted op (yielded ops a.tmps) = true) (ho : op.op = .load 37 x)
    {B : Nat} (hx : a.eval x = .pointer (some ⟨B, 0, none⟩)) {v : Value} (hS : ∀ w, S w → Lay 9 w B v) : YieldsIf Try.prog ops S op v a := by
  obtain ⟨d, hu, hd⟩ := rowA
  exact yields_load_lay hu hd szA hw ho hx hS
theorem storeA {op : Oper} {a : Act} {w : World} {K : Act → World → Prop} {Q : Exit → Act → World → Prop} {x y : Operand} (ho : op.op = .store 37 x y)
    {B : Nat} (hx : a.eval x = .pointer (some ⟨B, 0, none⟩)) {v : Value} (hy : a.eval y = v) (hr : Room 9 w B) (hf : Flat 9 v)
    (h : ∀ w', w.grownBy w' (some B) → Lay 9 w' B v → Room 9 w' B → K (a.put op.dst undef) w') : op.wp Try.prog a w K Q :=
  wp_store_lay szA ho hx hy hr hf h
theorem storesA {ops : Array Oper} {rest : List Oper} {op : Oper} {a : Act} {w : World} {Q : Exit → Act → World → Prop} {x y : Operand} (hgd : op.guard = none) (ho : op.op = .store 37 x y)
    {B : Nat} (hx : a.eval x = .pointer (some ⟨B, 0, none⟩)) {v : Value} (hy : a.eval y = v) (hr : Room 9 w B) (hf : Flat 9 v)
    (h : ∀ w', w.grownBy w' (some B) → Lay 9 w' B v → Room 9 w' B → wpList Try.prog ops Q rest (a.put op.dst undef) w') : wpList Try.prog ops Q (op :: rest) a w :=
  wpList_plain hgd fun _ hK => storeA ho hx hy hr hf fun _ h1 h3 h4 => hK _ _ (h _ h1 h3 h4)
theorem boxA {op : Oper} {a : Act} {w : World} {K : Act → World → Prop} {Q : Exit → Act → World → Prop} {x : Operand} (ho : op.op = .box 37 x) {v : Value} (hy : a.eval x = v) (hf : Flat 9 v)
    (h : ∀ B w', w.heap.size ≤ B → B < w'.heap.size → Ext w w' → Lay 9 w' B v → Room 9 w' B → K (a.put op.dst (.pointer (some ⟨B, 0, none⟩))) w') : op.wp Try.prog a w K Q :=
  wp_box_lay ho hy hf h
theorem boxsA {ops : Array Oper} {rest : List Oper} {op : Oper} {a : Act} {w : World} {Q : Exit → Act → World → Prop} {x : Operand} (hgd : op.guard = none) (ho : op.op = .box 37 x) {v : Value} (hy : a.eval x = v) (hf : Flat 9 v)
    (h : ∀ B w', w.heap.size ≤ B → B < w'.heap.size → Ext w w' → Lay 9 w' B v → Room 9 w' B → wpList Try.prog ops Q rest (a.put op.dst (.pointer (some ⟨B, 0, none⟩))) w') : wpList Try.prog ops Q (op :: rest) a w :=
  wpList_plain hgd fun _ hK => boxA ho hy hf fun _ _ h0 h1 h2 h3 h4 => hK _ _ (h _ _ h0 h1 h2 h3 h4)
theorem allocA {op : Oper} {a : Act} {w : World} {K : Act → World → Prop} {Q : Exit → Act → World → Prop} (ho : op.op = .alloc 37)
    (h : ∀ B w', w.heap.size ≤ B → B < w'.heap.size → Ext w w' → Lay 9 w' B zeroArr → Room 9 w' B → K (a.put op.dst (.pointer (some ⟨B, 0, none⟩))) w') : op.wp Try.prog a w K Q := by
  obtain ⟨i, hi, hz⟩ := zrA
  exact wp_alloc_lay hi hz zeroArr_flat ho h
theorem allocsA {ops : Array Oper} {rest : List Oper} {op : Oper} {a : Act} {w : World} {Q : Exit → Act → World → Prop} (hgd : op.guard = none) (ho : op.op = .alloc 37)
    (h : ∀ B w', w.heap.size ≤ B → B < w'.heap.size → Ext w w' → Lay 9 w' B zeroArr → Room 9 w' B → wpList Try.prog ops Q rest (a.put op.dst (.pointer (some ⟨B, 0, none⟩))) w') : wpList Try.prog ops Q (op :: rest) a w :=
  wpList_plain hgd fun _ hK => allocA ho fun _ _ h0 h1 h2 h3 h4 => hK _ _ (h _ _ h0 h1 h2 h3 h4)
section
variable {P : Program} {fn : Func} {w : World} {B : Nat} {v : Value} {t : TypeId} {tmps : Array Value}
theorem results_lay {a : Tmp} (hr : fn.results = #[.cell a t]) (ha : tmps.getD a undef = .pointer (some ⟨B, 0, none⟩)) (h : (loadVar t ⟨B, 0, none⟩).run P w = .ok v w) : (results fn tmps).run P w = .ok v w := by
  simp only [Array.getD_eq_getD_getElem?] at ha
  simp [results, hr, ha, asAddr, h]
theorem results_lay2 {a b : Tmp} {u : Value} (hr : fn.results = #[.cell a t, .tmp b]) (ha : tmps.getD a undef = .pointer (some ⟨B, 0, none⟩)) (hb : tmps.getD b undef = u) (h : (loadVar t ⟨B, 0, none⟩).run P w = .ok v w) : (results fn tmps).run P w = .ok (.tuple #[v, u]) w := by
  simp only [Array.getD_eq_getD_getElem?] at ha hb
  simp [results, hr, ha, hb, asAddr, h]
end
/-- of the blocks that there are, those of S alone are read for the slice to show xs -/
def SlS (w : World) (s : Nat) (A : Option Addr) (n : Nat) (xs : List Value) (S : Nat → Prop) : Prop := ∀ w' : World, w.heap.size ≤ w'.heap.size → (∀ i, i < w.heap.size → S i → w'.heap[i]? = w.heap[i]?) → Sl w' s A n xs
section
variable {w w' : World} {s n g : Nat} {A : Option Addr} {xs : List Value} {S : Nat → Prop}
theorem SlS.all (h : Sl w s A n xs) : SlS w s A n xs (fun i => i < w.heap.size) := fun _ hs hk => h.reach hs hk fun _ _ hb => hb
theorem SlS.is (h : SlS w s A n xs S) : Sl w s A n xs := h w (Nat.le_refl _) fun _ _ _ => rfl
theorem SlS.ext (h : SlS w s A n xs S) (hx : Ext w w') : SlS w' s A n xs S := fun w2 hs hk => h w2 (Nat.le_trans hx.size hs) fun i hi hS => (hk i (Nat.lt_of_lt_of_le hi hx.size) hS).trans (hx.block i hi)
theorem SlS.grown (h : SlS w s A n xs S) (hg : w.grownBy w' (some g)) (hS : ¬ S g) : SlS w' s A n xs S := fun w2 hs hk => h w2 (Nat.le_trans hg.size hs) fun i hi hi' => by
  have e : i ≠ g := fun e => hS (e ▸ hi')
  rw [hk i (Nat.lt_of_lt_of_le hi hg.size) hi']
  exact hg.block i hi (by simpa using e)
end
theorem SlS.mono {w : World} {s n : Nat} {A : Option Addr} {xs : List Value} {S S' : Nat → Prop} (h : SlS w s A n xs S) (hS : ∀ i, i < w.heap.size → S i → S' i) : SlS w s A n xs S' := fun w2 hs hk => h w2 hs fun i hi hs => hk i hi (hS i hi hs)
theorem SlS.now {w : World} {s n : Nat} {A : Option Addr} {xs : List Value} {S : Nat → Prop} (h : SlS w s A n xs S) : SlS w s A n xs (fun i => S i ∧ i < w.heap.size) := h.mono fun _ hi h => ⟨h, hi⟩
theorem cell_grown {w w' : World} {p : Addr} {u : Value} {g : Nat} (hg : w.grownBy w' (some g)) (h : w.cell? p = some u) (hne : p.block ≠ g) : w'.cell? p = some u := (grown_cell hg (World.block_lt_of_cell? _ _ h) hne).trans h
/-- a struct's cell -/
theorem lay_cell {n : Nat} {w : World} {B j : Nat} {cs : Array Value} {u : Value} (h : Lay n w B (.agg cs)) (hu : cs[j]? = some u) : w.cell? ⟨B, j, none⟩ = some u := by
  obtain ⟨cs', e, _, hc⟩ := h
  cases e
  have := hc j u (by simpa using hu)
  rwa [Nat.zero_add] at this
/-- W, but for block g -/
def Grw (W : World) (g : Nat) (w : World) : Prop := W.grownBy w (some g)
section
variable {W w w' : World} {g g' : Nat}
theorem Grw.out (h : Grw W g w) : W.grownBy w (some g) := h
theorem Grw.refl (W : World) (g : Nat) : Grw W g W := ⟨rfl, rfl, rfl, Nat.le_refl _, fun _ _ _ => rfl⟩
theorem Grw.ext (h : Grw W g w) (hx : Ext w w') : Grw W g w' := World.grownBy.trans h ⟨hx.os, hx.tape, hx.output, hx.size, fun i hi _ => hx.block i hi⟩
theorem Grw.grown (h : Grw W g w) (hg : w.grownBy w' (some g')) (hs : g' = g ∨ W.heap.size ≤ g') : Grw W g w' :=
  ⟨hg.os.trans h.os, hg.tape.trans h.tape, hg.output.trans h.output, Nat.le_trans h.size hg.size, fun i hi hne => (hg.block i (Nat.lt_of_lt_of_le hi h.size) (fun e => by
    cases e
    rcases hs with rfl | hs
    · exact hne rfl
    · omega)).trans (h.block i hi hne)⟩
end
section
variable {P : Program} {ty : TypeId}
theorem run_storeVar_one (hi : (P.info? ty).map (·.size) = some 1) {w : World} {g k : Nat} {v u : Value} (h1 : v.oneCell' = true) (hc : w.cell? ⟨g, k, none⟩ = some u) (hf : w.frozen? ⟨g, k, none⟩ = false) : (storeVar ty ⟨g, k, none⟩ v).run P w = .ok () (w.setCell ⟨g, k, none⟩ v) := by
  have hv : v.cells = #[v] := by cases v <;> first | rfl | (simp [Value.oneCell'] at h1)
  have h0 : (⟨g, k, none⟩ : Addr).add 0 = ⟨g, k, none⟩ := by unfold Addr.add; rfl
  cases hq : P.info? ty with
  | none => simp [hq] at hi
  | some i =>
    have hs : i.size = 1 := by simpa [hq] using hi
    simp [storeVar, sizeOf, typeInfo, hq, hv, hs, storeCells, h0, run_store P w ⟨g, k, none⟩ v _ h1, hc, hf]
end
/-- n elements lie in block g, xs, to be written; there may be room behind them -/
def RowC (T : TypeId) (w : World) (g n c : Nat) (xs : List Value) : Prop := w.ownsRow g T 1 (.slice (some ⟨g, 0, none⟩) n c) n xs
section
variable {T : TypeId} {w w' : World} {g g' n c : Nat} {xs : List Value}
theorem RowC.lt (h : RowC T w g n c xs) : g < w.heap.size := (World.ownsRow.lt h g rfl).2
theorem RowC.ext (h : RowC T w g n c xs) (hx : Ext w w') : RowC T w' g n c xs := World.ownsRow.kept h (row := none) ⟨hx.os, hx.tape, hx.output, hx.size, fun i hi _ => hx.block i hi⟩ (.inr (by simp [Value.ownBlock]))
theorem RowC.grown (h : RowC T w g n c xs) (hg : w.grownBy w' (some g')) (hne : g ≠ g') : RowC T w' g n c xs := World.ownsRow.kept h hg (.inr (by simpa [Value.ownBlock] using hne))
theorem RowC.sl (h : RowC T w g n c xs) : Sl w 1 (some ⟨g, 0, none⟩) n xs := Sl.own h
theorem RowC.len (h : RowC T w g n c xs) : xs.length = n := by have := h.1; omega
theorem RowC.of {base : Nat} {v : Value} (h : w.ownsRow base T 1 v n xs) : (v = .slice none 0 0 ∧ n = 0 ∧ xs = []) ∨ ∃ g c, v = .slice (some ⟨g, 0, none⟩) n c ∧ base ≤ g ∧ RowC T w g n c xs := by
  obtain ⟨h1, h2⟩ := h
  rcases h2 with ⟨rfl, rfl⟩ | ⟨g, cap, cur, rfl, hg, hc, h3⟩
  · exact .inl ⟨rfl, rfl, List.length_eq_zero_iff.1 (by simpa using h1)⟩
  · exact .inr ⟨g, cap, rfl, hg, h1, .inr ⟨g, cap, cur, rfl, Nat.le_refl _, hc, h3⟩⟩
end
section
variable {P : Program} {ty : TypeId}
theorem wp_store_rowc (hi : (P.info? ty).map (·.size) = some 1) {op : Oper} {a : Act} {w : World} {K : Act → World → Prop} {Q : Exit → Act → World → Prop} {x y : Operand} (ho : op.op = .store ty x y)
    {g k n c : Nat} {xs : List Value} (hx : a.eval x = .pointer (some ⟨g, k, none⟩)) {v : Value} (hy : a.eval y = v) (h1 : v.oneCell' = true) {T : TypeId} (hr : RowC T w g n c xs) (hk : k < n)
    (h : ∀ w', w.grownBy w' (some g) → RowC T w' g n c (xs.set k v) → K (a.put op.dst undef) w') : op.wp P a w K Q := by
  have hl := hr.len
  have hc : w.cell? ⟨g, k, none⟩ = some (xs[k]'(by omega)) := by rw [World.ownsRow.cellAt hr k (by omega)]; simp [hl, hk]
  have hrun := run_storeVar_one (P := P) (ty := ty) hi h1 hc (World.ownsRow.frozenAt hr k)
  have hst := World.ownsRow.stored hr k v
  unfold Oper.wp execOp
  simp only [ho, hx, hy, Instr.storeAt, Instr.sureAddr, Sem.run_bind, Sem.run_pure, Result.andThen_ok, hrun]
  exact h _ hst.2 hst.1
theorem wpList_store_rowc (hi : (P.info? ty).map (·.size) = some 1) {ops : Array Oper} {rest : List Oper} {op : Oper} {a : Act} {w : World} {Q : Exit → Act → World → Prop} (hgd : op.guard = none) {x y : Operand} (ho : op.op = .store ty x y)
    {g k n c : Nat} {xs : List Value} (hx : a.eval x = .pointer (some ⟨g, k, none⟩)) {v : Value} (hy : a.eval y = v) (h1 : v.oneCell' = true) {T : TypeId} (hr : RowC T w g n c xs) (hk : k < n)
    (h : ∀ w', w.grownBy w' (some g) → RowC T w' g n c (xs.set k v) → wpList P ops Q rest (a.put op.dst undef) w') : wpList P ops Q (op :: rest) a w :=
  wpList_plain hgd fun _ hK => wp_store_rowc hi ho hx hy h1 hr hk fun _ h1 h2 => hK _ _ (h _ h1 h2)
end
/-- a row of one's own in block g, or no row -/
def RowN (T : TypeId) (w : World) (g : Nat) (A : Option Addr) (n c : Nat) : Prop := (A = none ∧ n = 0) ∨ ∃ xs, A = some ⟨g, 0, none⟩ ∧ RowC T w g n c xs
section
variable {T : TypeId} {w w' : World} {g g' n c : Nat} {A : Option Addr}
theorem RowN.ext (h : RowN T w g A n c) (hx : Ext w w') : RowN T w' g A n c := by
  rcases h with h | ⟨xs, h1, h2⟩
  · exact .inl h
  · exact .inr ⟨xs, h1, h2.ext hx⟩
theorem RowN.grown (h : RowN T w g A n c) (hg : w.grownBy w' (some g')) (hne : g ≠ g') : RowN T w' g A n c := by
  rcases h with h | ⟨xs, h1, h2⟩
  · exact .inl h
  · exact .inr ⟨xs, h1, h2.grown hg hne⟩
theorem RowN.yes (h : RowN T w g A n c) (hn : 0 < n) : ∃ xs, A = some ⟨g, 0, none⟩ ∧ RowC T w g n c xs := by
  rcases h with ⟨_, h⟩ | h
  · omega
  · exact h
theorem RowN.of {base : Nat} {v : Value} {xs : List Value} (h : w.ownsRow base T 1 v n xs) (hb : base ≤ w.heap.size) : ∃ A c g, v = .slice A n c ∧ base ≤ g ∧ g ≤ w.heap.size ∧ RowN T w g A n c ∧ SlS w 1 A n xs (New base) := by
  have hS : ∀ A c, v = .slice A n c → SlS w 1 A n xs (New base) := fun A c e => by
    subst e
    exact fun w2 hs hk => (Sl.own h).reach hs hk fun a ha _ => by
      subst ha
      exact (World.ownsRow.lt h a.block rfl).1
  rcases RowC.of h with ⟨h1, h2, _⟩ | ⟨g, c, h1, h2, h3⟩
  · subst h2
    exact ⟨none, 0, base, h1, Nat.le_refl _, hb, .inl ⟨rfl, rfl⟩, hS _ _ h1⟩
  · exact ⟨_, c, g, h1, h2, Nat.le_of_lt h3.lt, .inr ⟨xs, rfl, h3⟩, hS _ _ h1⟩
end
theorem esz_i8 : (Try.prog.info? 50).map (·.size) = some 1 := by kernel_rfl
theorem einfo_i8 : (Try.prog.info? 50).map (fun i => (i.zero, i.size, i.bytes)) = some (some ((.int .i8 0)), 1, 1) := by kernel_rfl
theorem storesc_i8 {ops : Array Oper} {rest : List Oper} {op : Oper} {a : Act} {w : World} {Q : Exit → Act → World → Prop} (hgd : op.guard = none) {x y : Operand} (ho : op.op = .store 50 x y)
    {g k n c : Nat} {xs : List Value} (hx : a.eval x = .pointer (some ⟨g, k, none⟩)) {v : Value} (hy : a.eval y = v) (h1 : v.oneCell' = true) {T : TypeId} (hr : RowC T w g n c xs) (hk : k < n)
    (h : ∀ w', w.grownBy w' (some g) → RowC T w' g n c (xs.set k v) → wpList Try.prog ops Q rest (a.put op.dst undef) w') : wpList Try.prog ops Q (op :: rest) a w := wpList_store_rowc esz_i8 hgd ho hx hy h1 hr hk h
theorem appn_i8 {ops : Array Oper} {rest : List Oper} {op : Oper} {a : Act} {w W : World} {Q : Exit → Act → World → Prop} (hgd : op.guard = none) {sl x : Operand} (ho : op.op = .call { callee := .builtin .append, args := #[sl, x], argTypes := #[30, 30] }) (hW : W = w.alloc (.cells #[] 50))
    (hs : a.eval sl = .slice (some ⟨w.heap.size, 0, none⟩) 0 0) {A : Option Addr} {n c : Nat} {xs : List Value} (hx : a.eval x = .slice A n c) (hr : Sl w 1 A n xs) (h1 : ∀ u ∈ xs, u.oneCell' = true) (hl : n ≤ 1048576)
    (h : ∀ A' c' g w', w.heap.size ≤ g → g < w'.heap.size → RowN 50 w' g A' n c' → SlS w' 1 A' n xs (fun i => i < w'.heap.size) → Ext w w' → wpList Try.prog ops Q rest (a.put op.dst (.slice A' n c')) w') : wpList Try.prog ops Q (op :: rest) a W := by
  subst hW
  obtain ⟨i, hi, h2⟩ := Option.map_eq_some_iff.1 einfo_i8
  simp only [Prod.mk.injEq] at h2
  refine wpList_append_sl _ hgd sl x 30 ho w.heap.size 50 i ((.int .i8 0)) 1 1 Try.underlying30 hi h2.1 h2.2.1 h2.2.2 rfl (by omega) _ 0 [] hs (World.ownsRow_made (size := 1) (e := 50) (base := w.heap.size) w #[] 0 (Nat.le_refl _) (by simp only [maxLen]; omega) (by simp)) A n c xs hx (hr.alloc _) h1 (by omega) (by omega) (by simp) ?_
  intro v' w' hown hbel
  have hX : Ext w w' := ((Ext.refl w).alloc _).trans' hbel
  have hz : w.heap.size < w'.heap.size := by have := hbel.size; simp at this; omega
  rw [Nat.zero_add, List.nil_append] at hown
  obtain ⟨A', c', g, rfl, hg, _, hN, hS⟩ := RowN.of hown (Nat.le_of_lt hz)
  rcases hN with ⟨e1, e2⟩ | ⟨ys, e1, hC⟩
  · exact h A' c' w.heap.size w' (Nat.le_refl _) hz (.inl ⟨e1, e2⟩) (SlS.all hS.is) hX
  · exact h A' c' g w' hg hC.lt (.inr ⟨ys, e1, hC⟩) (SlS.all hS.is) hX
theorem esz_i32 : (Try.prog.info? 21).map (·.size) = some 1 := by kernel_rfl
theorem einfo_i32 : (Try.prog.info? 21).map (fun i => (i.zero, i.size, i.bytes)) = some (some ((.int .i32 0)), 1, 4) := by kernel_rfl
theorem storesc_i32 {ops : Array Oper} {rest : List Oper} {op : Oper} {a : Act} {w : World} {Q : Exit → Act → World → Prop} (hgd : op.guard = none) {x y : Operand} (ho : op.op = .store 21 x y)
    {g k n c : Nat} {xs : List Value} (hx : a.eval x = .pointer (some ⟨g, k, none⟩)) {v : Value} (hy : a.eval y = v) (h1 : v.oneCell' = true) {T : TypeId} (hr : RowC T w g n c xs) (hk : k < n)
    (h : ∀ w', w.grownBy w' (some g) → RowC T w' g n c (xs.set k v) → wpList Try.prog ops Q rest (a.put op.dst undef) w') : wpList Try.prog ops Q (op :: rest) a w := wpList_store_rowc esz_i32 hgd ho hx hy h1 hr hk h
theorem appn_i32 {ops : Array Oper} {rest : List Oper} {op : Oper} {a : Act} {w W : World} {Q : Exit → Act → World → Prop} (hgd : op.guard = none) {sl x : Operand} (ho : op.op = .call { callee := .builtin .append, args := #[sl, x], argTypes := #[25, 25] }) (hW : W = w.alloc (.cells #[] 21))
    (hs : a.eval sl = .slice (some ⟨w.heap.size, 0, none⟩) 0 0) {A : Option Addr} {n c : Nat} {xs : List Value} (hx : a.eval x = .slice A n c) (hr : Sl w 1 A n xs) (h1 : ∀ u ∈ xs, u.oneCell' = true) (hl : n ≤ 1048576)
    (h : ∀ A' c' g w', w.heap.size ≤ g → g < w'.heap.size → RowN 21 w' g A' n c' → SlS w' 1 A' n xs (fun i => i < w'.heap.size) → Ext w w' → wpList Try.prog ops Q rest (a.put op.dst (.slice A' n c')) w') : wpList Try.prog ops Q (op :: rest) a W := by
  subst hW
  obtain ⟨i, hi, h2⟩ := Option.map_eq_some_iff.1 einfo_i32
  simp only [Prod.mk.injEq] at h2
  refine wpList_append_sl _ hgd sl x 25 ho w.heap.size 21 i ((.int .i32 0)) 1 4 Try.underlying25 hi h2.1 h2.2.1 h2.2.2 rfl (by omega) _ 0 [] hs (World.ownsRow_made (size := 1) (e := 21) (base := w.heap.size) w #[] 0 (Nat.le_refl _) (by simp only [maxLen]; omega) (by simp)) A n c xs hx (hr.alloc _) h1 (by omega) (by omega) (by simp) ?_
  intro v' w' hown hbel
  have hX : Ext w w' := ((Ext.refl w).alloc _).trans' hbel
  have hz : w.heap.size < w'.heap.size := by have := hbel.size; simp at this; omega
  rw [Nat.zero_add, List.nil_append] at hown
  obtain ⟨A', c', g, rfl, hg, _, hN, hS⟩ := RowN.of hown (Nat.le_of_lt hz)
  rcases hN with ⟨e1, e2⟩ | ⟨ys, e1, hC⟩
  · exact h A' c' w.heap.size w' (Nat.le_refl _) hz (.inl ⟨e1, e2⟩) (SlS.all hS.is) hX
  · exact h A' c' g w' hg hC.lt (.inr ⟨ys, e1, hC⟩) (SlS.all hS.is) hX
theorem esz_i64 : (Try.prog.info? 2).map (·.size) = some 1 := by kernel_rfl
theorem einfo_i64 : (Try.prog.info? 2).map (fun i => (i.zero, i.size, i.bytes)) = some (some ((.int .i64 0)), 1, 8) := by kernel_rfl
theorem storesc_i64 {ops : Array Oper} {rest : List Oper} {op : Oper} {a : Act} {w : World} {Q : Exit → Act → World → Prop} (hgd : op.guard = none) {x y : Operand} (ho : op.op = .store 2 x y)
    {g k n c : Nat} {xs : List Value} (hx : a.eval x = .pointer (some ⟨g, k, none⟩)) {v : Value} (hy : a.eval y = v) (h1 : v.oneCell' = true) {T : TypeId} (hr : RowC T w g n c xs) (hk : k < n)
    (h : ∀ w', w.grownBy w' (some g) → RowC T w' g n c (xs.set k v) → wpList Try.prog ops Q rest (a.put op.dst undef) w') : wpList Try.prog ops Q (op :: rest) a w := wpList_store_rowc esz_i64 hgd ho hx hy h1 hr hk h
theorem appn_i64 {ops : Array Oper} {rest : List Oper} {op : Oper} {a : Act} {w W : World} {Q : Exit → Act → World → Prop} (hgd : op.guard = none) {sl x : Operand} (ho : op.op = .call { callee := .builtin .append, args := #[sl, x], argTypes := #[31, 31] }) (hW : W = w.alloc (.cells #[] 2))
    (hs : a.eval sl = .slice (some ⟨w.heap.size, 0, none⟩) 0 0) {A : Option Addr} {n c : Nat} {xs : List Value} (hx : a.eval x = .slice A n c) (hr : Sl w 1 A n xs) (h1 : ∀ u ∈ xs, u.oneCell' = true) (hl : n ≤ 1048576)
    (h : ∀ A' c' g w', w.heap.size ≤ g → g < w'.heap.size → RowN 2 w' g A' n c' → SlS w' 1 A' n xs (fun i => i < w'.heap.size) → Ext w w' → wpList Try.prog ops Q rest (a.put op.dst (.slice A' n c')) w') : wpList Try.prog ops Q (op :: rest) a W := by
  subst hW
  obtain ⟨i, hi, h2⟩ := Option.map_eq_some_iff.1 einfo_i64
  simp only [Prod.mk.injEq] at h2
  refine wpList_append_sl _ hgd sl x 31 ho w.heap.size 2 i ((.int .i64 0)) 1 8 Try.underlying31 hi h2.1 h2.2.1 h2.2.2 rfl (by omega) _ 0 [] hs (World.ownsRow_made (size := 1) (e := 2) (base := w.heap.size) w #[] 0 (Nat.le_refl _) (by simp only [maxLen]; omega) (by simp)) A n c xs hx (hr.alloc _) h1 (by omega) (by omega) (by simp) ?_
  intro v' w' hown hbel
  have hX : Ext w w' := ((Ext.refl w).alloc _).trans' hbel
  have hz : w.heap.size < w'.heap.size := by have := hbel.size; simp at this; omega
  rw [Nat.zero_add, List.nil_append] at hown
  obtain ⟨A', c', g, rfl, hg, _, hN, hS⟩ := RowN.of hown (Nat.le_of_lt hz)
  rcases hN with ⟨e1, e2⟩ | ⟨ys, e1, hC⟩
  · exact h A' c' w.heap.size w' (Nat.le_refl _) hz (.inl ⟨e1, e2⟩) (SlS.all hS.is) hX
  · exact h A' c' g w' hg hC.lt (.inr ⟨ys, e1, hC⟩) (SlS.all hS.is) hX
end Go.Proofs.Ytmjikdkdccnbaaa
