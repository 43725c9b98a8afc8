/- Whole structs in variables: loads, stores, boxes, new variables, without their cells. -/
import Derived.Test.YtdkgiklbmbkdaaaQi
import Derived.Deep.MidRow
import Derived.Deep.RegionHeld3
import Derived.Deep.DrawnRows
import Derived.Deep.CutRange
import Derived.Deep.DeepCutAuto
namespace Go.Proofs.Ytdkgiklbmbkdaaa
open Go.RowKit Bv Fl

/-- the struct v, of n cells, lies in block B -/
def Lay (n : Nat) (w : World) (B : Nat) (v : Value) : Prop := ∃ cs : Array Value, v = .agg cs ∧ cs.size = n ∧ w.rangeAt B 0 cs.toList
/-- n cells are there, to be written -/
def Room (n : Nat) (w : World) (B : Nat) : Prop := w.there B 0 n
/-- a struct of n cells -/
def Flat (n : Nat) (v : Value) : Prop := ∃ cs : Array Value, v = .agg cs ∧ cs.size = n ∧ cs.all (·.oneCell') = true
section
variable {n : Nat} {w w' : World} {B g : Nat} {v : Value}
theorem Lay.ext (h : Lay n w B v) (hx : Ext w w') : Lay n w' B v := by
  obtain ⟨cs, rfl, hn, hc⟩ := h
  exact ⟨cs, rfl, hn, fun j u hu => cell_ext hx (hc j u hu)⟩
theorem Lay.grown (h : Lay n w B v) (hg : w.grownBy w' (some g)) (hne : B ≠ g) : Lay n w' B v := by
  obtain ⟨cs, rfl, hn, hc⟩ := h
  exact ⟨cs, rfl, hn, fun j u hu => (grown_cell hg (p := ⟨B, 0 + j, none⟩) (World.block_lt_of_cell? _ _ (hc j u hu)) hne).trans (hc j u hu)⟩
theorem Room.lt {j : Nat} (h : Room n w B) (hj : j < n) : B < w.heap.size := by
  obtain ⟨u, hu⟩ := Option.isSome_iff_exists.1 (h j hj).1
  exact World.block_lt_of_cell? w _ hu
theorem Room.ext (h : Room n w B) (hx : Ext w w') : Room n w' B := fun j hj => by
  have hb := h.lt hj
  obtain ⟨h1, h2⟩ := h j hj
  exact ⟨by rw [Below.cell hx hb]; exact h1, by rw [Below.frozen hx hb]; exact h2⟩
theorem Room.grown (h : Room n w B) (hg : w.grownBy w' (some g)) (hne : B ≠ g) : Room n w' B := fun j hj => by
  have hb := h.lt hj
  obtain ⟨h1, h2⟩ := h j hj
  exact ⟨by rw [grown_cell hg (p := ⟨B, 0 + j, none⟩) hb hne]; exact h1, by rw [grown_frozen hg (p := ⟨B, 0 + j, none⟩) hb hne]; exact h2⟩
end
theorem VecS.grown {w w' : World} {v : Value} {d : VD} {S : Nat → Prop} {g : Nat} (h : VecS w v d S) (hg : w.grownBy w' (some g)) (hS : ¬ S g) : VecS w' v d S := fun w2 hs hk => h w2 (Nat.le_trans hg.size hs) fun i hi hi' => by
  have e : i ≠ g := fun e => hS (e ▸ hi')
  rw [hk i (Nat.lt_of_lt_of_le hi hg.size) hi']
  exact hg.block i hi (by simpa using e)
theorem NumS.grown {w w' : World} {v : Value} {k : Nat} {l : List Nat} {S : Nat → Prop} {g : Nat} (h : NumS w v k l S) (hg : w.grownBy w' (some g)) (hS : ¬ S g) : NumS w' v k l S := by
  obtain ⟨d, hv, h1⟩ := h
  exact ⟨d, hv.grown hg hS, h1⟩
theorem NumS.now {w : World} {v : Value} {k : Nat} {l : List Nat} {S : Nat → Prop} (h : NumS w v k l S) : NumS w v k l (fun i => S i ∧ i < w.heap.size) := h.mono fun _ hi h => ⟨h, hi⟩
theorem VecS.now {w : World} {v : Value} {d : VD} {S : Nat → Prop} (h : VecS w v d S) : VecS w v d (fun i => S i ∧ i < w.heap.size) := h.mono fun _ hi h => ⟨h, hi⟩
/-- v, numbers l in store r, reads only what v0 read in w0, and blocks of T -/
def Only (w0 : World) (v0 : Value) (K : Nat) (l : List Nat) (w : World) (v : Value) (r : Nat) (T : Nat → Prop) : Prop := ∀ S, NumS w0 v0 K l S → NumS w v r l (fun i => (S i ∧ i < w0.heap.size) ∨ T i)
section
variable {w0 w w' : World} {v0 v : Value} {K r : Nat} {l : List Nat} {T T' : Nat → Prop}
theorem Only.into (h0 : Ext w0 w) (hq : ∀ S, NumS w v0 K l S → NumS w' v r l (fun i => S i ∨ New w.heap.size i)) : Only w0 v0 K l w' v r (fun i => New w.heap.size i ∧ i < w'.heap.size) := fun _ hS =>
  (hq _ (hS.now.ext h0)).mono fun _ hi h => h.imp id fun h => ⟨h, hi⟩
theorem Only.ext (h : Only w0 v0 K l w v r T) (hx : Ext w w') : Only w0 v0 K l w' v r T := fun S hS => (h S hS).ext hx
theorem Only.mono (h : Only w0 v0 K l w v r T) (hT : ∀ i, i < w.heap.size → T i → T' i) : Only w0 v0 K l w v r T' := fun S hS => (h S hS).mono fun i hi h => h.imp id (hT i hi)
theorem Only.grown {g : Nat} (h : Only w0 v0 K l w v r T) (hg : w.grownBy w' (some g)) (hT : ¬ T g) (h0 : w0.heap.size ≤ g) : Only w0 v0 K l w' v r T := fun S hS => (h S hS).grown hg (fun h => h.elim (fun h => absurd h.2 (by omega)) hT)
theorem Only.is (h : Only w0 v0 K l w v r T) (h0 : IsNum w0 v0 K l) : IsNum w v r l := (h _ (NumS.all h0)).is
theorem Only.post (h : Only w0 v0 K l w v r T) (hT : ∀ i, i < w.heap.size → T i → w0.heap.size ≤ i) : ∀ S, NumS w0 v0 K l S → NumS w v r l (fun i => S i ∨ New w0.heap.size i) := fun S hS => (h S hS).mono fun i hi h => h.elim (fun h => .inl h.1) fun h => .inr (hT i hi h)
theorem Only.num (h : Only w0 v0 K l w v r T) (h0 : IsNum w0 v0 K l) : NumS w v r l (fun i => i < w0.heap.size ∨ T i) := (h _ (NumS.all h0)).mono fun _ _ h => h.imp (fun h => h.2) id
end
theorem IsVec.flat {w : World} {v : Value} {d : VD} (h : IsVec w v d) : Flat 8 v := by
  obtain ⟨fa1, fn1, fk1, fbn, fa3, fn3, fk3, fa4, fn4, fk4, fa5, fn5, fk5, fa6, fn6, fk6, fa7, fn7, fk7, rfl⟩ := h.shape
  exact ⟨_, rfl, rfl, by simp [Value.oneCell']⟩
theorem IsNum.flat {w : World} {v : Value} {k : Nat} {l : List Nat} (h : IsNum w v k l) : Flat 8 v := by
  obtain ⟨d, hv, _⟩ := h
  exact hv.flat
theorem IsB.flat {w : World} {v : Value} {l : List Bool} (h : IsB w v l) : Flat 2 v := by
  obtain ⟨_, A, c, rfl, _⟩ := h
  exact ⟨_, rfl, rfl, by simp [Value.oneCell']⟩
theorem zeroVec_flat : Flat 8 zeroVec := ⟨_, rfl, rfl, by simp [Value.oneCell']⟩

section
variable {P : Program} {n : Nat} {ty : TypeId} {d : TypeDesc}
theorem run_loadVar_lay (hu : P.underlying ty = some d) (hd : d.isRow = true) (hi : (P.info? ty).map (·.size) = some n) {w : World} {B : Nat} {v : Value} (h : Lay n w B v) : (loadVar ty ⟨B, 0, none⟩).run P w = .ok v w := by
  obtain ⟨cs, rfl, hn, hc⟩ := h
  have := run_loadVar_mid (P := P) w B 0 ty cs.toList d hc hu hd (by rw [hi, ← hn]; simp)
  simpa using this
theorem wp_load_lay (hu : P.underlying ty = some d) (hd : d.isRow = true) (hi : (P.info? ty).map (·.size) = some n) {op : Oper} {a : Act} {w : World} {K : Act → World → Prop} {Q : Exit → Act → World → Prop} {x : Operand} (ho : op.op = .load ty x)
    {B : Nat} (hx : a.eval x = .pointer (some ⟨B, 0, none⟩)) {v : Value} (hl : Lay n w B v) (h : K (a.put op.dst v) w) : op.wp P a w K Q := by
  unfold Oper.wp execOp
  simp only [ho, hx, Instr.loadAt, Instr.sureAddr, Sem.run_bind, Sem.run_pure, Result.andThen_ok, run_loadVar_lay hu hd hi hl]
  exact h
theorem yields_load_lay (hu : P.underlying ty = some d) (hd : d.isRow = true) (hi : (P.info? ty).map (·.size) = some n) {ops : Array Oper} {S : World → Prop} {op : Oper} {a : Act} (hw : Region.wanted op (yielded ops a.tmps) = true) {x : Operand} (ho : op.op = .load ty x)
    {B : Nat} (hx : a.eval x = .pointer (some ⟨B, 0, none⟩)) {v : Value} (hS : ∀ w, S w → Lay n w B v) : YieldsIf P ops S op v a :=
  .inl ⟨hw, fun w hw' => by
    unfold execOp
    simp only [ho, hx, Instr.loadAt, Instr.sureAddr, Sem.run_bind, Sem.run_pure, Result.andThen_ok, run_loadVar_lay hu hd hi (hS w hw')]⟩
theorem run_storeVar_lay (hi : (P.info? ty).map (·.size) = some n) {w : World} {B : Nat} {v : Value} (hr : Room n w B) (hf : Flat n v) : ∃ w', (storeVar ty ⟨B, 0, none⟩ v).run P w = .ok () w' ∧ w.grownBy w' (some B) ∧ Lay n w' B v ∧ Room n w' B := by
  obtain ⟨cs, rfl, hn, h1⟩ := hf
  refine ⟨_, run_storeVar_mid (P := P) w B 0 ty cs (by rw [hn]; exact hr) (by rw [hi, hn]) h1, ?_, ⟨cs, rfl, hn, World.rangeAt_setCells_same w B 0 _ (by rw [Array.length_toList, hn]; exact hr)⟩, World.there_setCells hr B 0 _⟩
  have : ∀ (l : List Value) (o : Nat) (w1 : World), w.grownBy w1 (some B) → w.grownBy (w1.setCells B o l) (some B) := by
    intro l
    induction l with
    | nil => intro o w1 h; exact h
    | cons u l ih => intro o w1 h; exact ih _ _ (grown_set h u)
  exact this _ _ _ (World.grownBy.refl w _)
theorem wp_store_lay (hi : (P.info? ty).map (·.size) = some n) {op : Oper} {a : Act} {w : World} {K : Act → World → Prop} {Q : Exit → Act → World → Prop} {x y : Operand} (ho : op.op = .store ty x y)
    {B : Nat} (hx : a.eval x = .pointer (some ⟨B, 0, none⟩)) {v : Value} (hy : a.eval y = v) (hr : Room n w B) (hf : Flat n v)
    (h : ∀ w', w.grownBy w' (some B) → Lay n w' B v → Room n w' B → K (a.put op.dst undef) w') : op.wp P a w K Q := by
  obtain ⟨w', hrun, h1, h3, h4⟩ := run_storeVar_lay (P := P) (ty := ty) hi hr hf
  unfold Oper.wp execOp
  simp only [ho, hx, hy, Instr.storeAt, Instr.sureAddr, Sem.run_bind, Sem.run_pure, Result.andThen_ok, hrun]
  exact h w' h1 h3 h4
theorem new_lay (w : World) (t : TypeId) {v : Value} (hf : Flat n v) : Lay n (w.alloc (.cells v.cells t)) w.heap.size v ∧ Room n (w.alloc (.cells v.cells t)) w.heap.size := by
  obtain ⟨cs, rfl, hn, _⟩ := hf
  refine ⟨⟨cs, rfl, hn, fun j u hu => ?_⟩, fun j hj => ⟨?_, ?_⟩⟩
  · rw [World.cell?_alloc_new]
    simp only [Nat.zero_add]
    show cs[j]? = some u
    simpa using hu
  · rw [World.cell?_alloc_new]
    simp [Value.cells, hn, hj]
  · simp
theorem wp_box_lay {op : Oper} {a : Act} {w : World} {K : Act → World → Prop} {Q : Exit → Act → World → Prop} {x : Operand} (ho : op.op = .box ty x) {v : Value} (hy : a.eval x = v) (hf : Flat n v)
    (h : ∀ B w', w.heap.size ≤ B → B < w'.heap.size → Ext w w' → Lay n w' B v → Room n w' B → K (a.put op.dst (.pointer (some ⟨B, 0, none⟩))) w') : op.wp P a w K Q := by
  unfold Oper.wp execOp
  simp only [ho, hy, Sem.run_bind, Instr.box, newVar, newRow, run_newObj_alloc, Sem.run_pure, Result.andThen_ok]
  exact h _ _ (Nat.le_refl _) (by simp) ((Ext.refl w).alloc _) (new_lay w ty hf).1 (new_lay w ty hf).2
theorem wp_alloc_lay {i : TypeInfo} {z : Value} (hi : P.info? ty = some i) (hz : i.zero = some z) (hf : Flat n z) {op : Oper} {a : Act} {w : World} {K : Act → World → Prop} {Q : Exit → Act → World → Prop} (ho : op.op = .alloc ty)
    (h : ∀ B w', w.heap.size ≤ B → B < w'.heap.size → Ext w w' → Lay n w' B z → Room n w' B → K (a.put op.dst (.pointer (some ⟨B, 0, none⟩))) w') : op.wp P a w K Q := by
  have hzv : (zeroValue ty).run P w = .ok z w := by simp [zeroValue, typeInfo, hi, hz]
  unfold Oper.wp execOp
  simp only [ho, Sem.run_bind, Instr.alloc, hzv, newVar, newRow, run_newObj_alloc, Sem.run_pure, Result.andThen_ok]
  exact h _ _ (Nat.le_refl _) (by simp) ((Ext.refl w).alloc _) (new_lay w ty hf).1 (new_lay w ty hf).2
end
/-! At the program's structs. -/
def zeroBits : Value := .agg #[.slice none 0 0, .int .i64 0]
theorem zeroBits_flat : Flat 2 zeroBits := ⟨_, rfl, rfl, by simp [Value.oneCell']⟩
theorem szV : (Try.prog.info? 47).map (·.size) = some 8 := by kernel_rfl
theorem rowV : ∃ d : TypeDesc, Try.prog.underlying 47 = some d ∧ d.isRow = true := ⟨_, Try.underlying47, rfl⟩
theorem zrV : ∃ i, Try.prog.info? 47 = some i ∧ i.zero = some zeroVec := by
  have h : (Try.prog.info? 47).bind (·.zero) = some zeroVec := by kernel_rfl
  obtain ⟨i, hi, hz⟩ := Option.bind_eq_some_iff.1 h
  exact ⟨i, hi, hz⟩
theorem ldV {w : World} {B : Nat} {v : Value} (h : Lay 8 w B v) : (loadVar 47 ⟨B, 0, none⟩).run Try.prog w = .ok v w := by
  obtain ⟨d, hu, hd⟩ := rowV
  exact run_loadVar_lay hu hd szV h
theorem loadV {op : Oper} {a : Act} {w : World} {K : Act → World → Prop} {Q : Exit → Act → World → Prop} {x : Operand} (ho : op.op = .load 47 x)
    {B : Nat} (hx : a.eval x = .pointer (some ⟨B, 0, none⟩)) {v : Value} (hl : Lay 8 w B v) (h : K (a.put op.dst v) w) : op.wp Try.prog a w K Q := by
  obtain ⟨d, hu, hd⟩ := rowV
  exact wp_load_lay hu hd szV ho hx hl h
theorem loadsV {ops : Array Oper} {rest : List Oper} {op : Oper} {a : Act} {w : World} {Q : Exit → Act → World → Prop} {x : Operand} (hgd : op.guard = none) (ho : op.op = .load 47 x)
    {B : Nat} (hx : a.eval x = .pointer (some ⟨B, 0, none⟩)) {v : Value} (hl : Lay 8 w B v) (h : wpList Try.prog ops Q rest (a.put op.dst v) w) : wpList Try.prog ops Q (op :: rest) a w :=
  wpList_plain hgd fun _ hK => loadV ho hx hl (hK _ _ h)
theorem yieldV {ops : Array Oper} {S : World → Prop} {op : Oper} {a : Act} {x : Operand} (hw : Region.wanted op (yielded ops a.tmps) = true) (ho : op.op = .load 47 x)
    {B : Nat} (hx : a.eval x = .pointer (some ⟨B, 0, none⟩)) {v : Value} (hS : ∀ w, S w → Lay 8 w B v) : YieldsIf Try.prog ops S op v a := by
  obtain ⟨d, hu, hd⟩ := rowV
  exact yields_load_lay hu hd szV hw ho hx hS
theorem storeV {op : Oper} {a : Act} {w : World} {K : Act → World → Prop} {Q : Exit → Act → World → Prop} {x y : Operand} (ho : op.op = .store 47 x y)
    {B : Nat} (hx : a.eval x = .pointer (some ⟨B, 0, none⟩)) {v : Value} (hy : a.eval y = v) (hr : Room 8 w B) (hf : Flat 8 v)
    (h : ∀ w', w.grownBy w' (some B) → Lay 8 w' B v → Room 8 w' B → K (a.put op.dst undef) w') : op.wp Try.prog a w K Q :=
  wp_store_lay szV ho hx hy hr hf h
theorem storesV {ops : Array Oper} {rest : List Oper} {op : Oper} {a : Act} {w : World} {Q : Exit → Act → World → Prop} {x y : Operand} (hgd : op.guard = none) (ho : op.op = .store 47 x y)
    {B : Nat} (hx : a.eval x = .pointer (some ⟨B, 0, none⟩)) {v : Value} (hy : a.eval y = v) (hr : Room 8 w B) (hf : Flat 8 v)
    (h : ∀ w', w.grownBy w' (some B) → Lay 8 w' B v → Room 8 w' B → wpList Try.prog ops Q rest (a.put op.dst undef) w') : wpList Try.prog ops Q (op :: rest) a w :=
  wpList_plain hgd fun _ hK => storeV ho hx hy hr hf fun _ h1 h3 h4 => hK _ _ (h _ h1 h3 h4)
theorem boxV {op : Oper} {a : Act} {w : World} {K : Act → World → Prop} {Q : Exit → Act → World → Prop} {x : Operand} (ho : op.op = .box 47 x) {v : Value} (hy : a.eval x = v) (hf : Flat 8 v)
    (h : ∀ B w', w.heap.size ≤ B → B < w'.heap.size → Ext w w' → Lay 8 w' B v → Room 8 w' B → K (a.put op.dst (.pointer (some ⟨B, 0, none⟩))) w') : op.wp Try.prog a w K Q :=
  wp_box_lay ho hy hf h
theorem boxsV {ops : Array Oper} {rest : List Oper} {op : Oper} {a : Act} {w : World} {Q : Exit → Act → World → Prop} {x : Operand} (hgd : op.guard = none) (ho : op.op = .box 47 x) {v : Value} (hy : a.eval x = v) (hf : Flat 8 v)
    (h : ∀ B w', w.heap.size ≤ B → B < w'.heap.size → Ext w w' → Lay 8 w' B v → Room 8 w' B → wpList Try.prog ops Q rest (a.put op.dst (.pointer (some ⟨B, 0, none⟩))) w') : wpList Try.prog ops Q (op :: rest) a w :=
  wpList_plain hgd fun _ hK => boxV ho hy hf fun _ _ h0 h1 h2 h3 h4 => hK _ _ (h _ _ h0 h1 h2 h3 h4)
theorem allocV {op : Oper} {a : Act} {w : World} {K : Act → World → Prop} {Q : Exit → Act → World → Prop} (ho : op.op = .alloc 47)
    (h : ∀ B w', w.heap.size ≤ B → B < w'.heap.size → Ext w w' → Lay 8 w' B zeroVec → Room 8 w' B → K (a.put op.dst (.pointer (some ⟨B, 0, none⟩))) w') : op.wp Try.prog a w K Q := by
  obtain ⟨i, hi, hz⟩ := zrV
  exact wp_alloc_lay hi hz zeroVec_flat ho h
theorem allocsV {ops : Array Oper} {rest : List Oper} {op : Oper} {a : Act} {w : World} {Q : Exit → Act → World → Prop} (hgd : op.guard = none) (ho : op.op = .alloc 47)
    (h : ∀ B w', w.heap.size ≤ B → B < w'.heap.size → Ext w w' → Lay 8 w' B zeroVec → Room 8 w' B → wpList Try.prog ops Q rest (a.put op.dst (.pointer (some ⟨B, 0, none⟩))) w') : wpList Try.prog ops Q (op :: rest) a w :=
  wpList_plain hgd fun _ hK => allocV ho fun _ _ h0 h1 h2 h3 h4 => hK _ _ (h _ _ h0 h1 h2 h3 h4)
theorem szB : (Try.prog.info? 40).map (·.size) = some 2 := by kernel_rfl
theorem rowB : ∃ d : TypeDesc, Try.prog.underlying 40 = some d ∧ d.isRow = true := ⟨_, Try.underlying40, rfl⟩
theorem zrB : ∃ i, Try.prog.info? 40 = some i ∧ i.zero = some zeroBits := by
  have h : (Try.prog.info? 40).bind (·.zero) = some zeroBits := by kernel_rfl
  obtain ⟨i, hi, hz⟩ := Option.bind_eq_some_iff.1 h
  exact ⟨i, hi, hz⟩
theorem ldB {w : World} {B : Nat} {v : Value} (h : Lay 2 w B v) : (loadVar 40 ⟨B, 0, none⟩).run Try.prog w = .ok v w := by
  obtain ⟨d, hu, hd⟩ := rowB
  exact run_loadVar_lay hu hd szB h
theorem loadB {op : Oper} {a : Act} {w : World} {K : Act → World → Prop} {Q : Exit → Act → World → Prop} {x : Operand} (ho : op.op = .load 40 x)
    {B : Nat} (hx : a.eval x = .pointer (some ⟨B, 0, none⟩)) {v : Value} (hl : Lay 2 w B v) (h : K (a.put op.dst v) w) : op.wp Try.prog a w K Q := by
  obtain ⟨d, hu, hd⟩ := rowB
  exact wp_load_lay hu hd szB ho hx hl h
theorem loadsB {ops : Array Oper} {rest : List Oper} {op : Oper} {a : Act} {w : World} {Q : Exit → Act → World → Prop} {x : Operand} (hgd : op.guard = none) (ho : op.op = .load 40 x)
    {B : Nat} (hx : a.eval x = .pointer (some ⟨B, 0, none⟩)) {v : Value} (hl : Lay 2 w B v) (h : wpList Try.prog ops Q rest (a.put op.dst v) w) : wpList Try.prog ops Q (op :: rest) a w :=
  wpList_plain hgd fun _ hK => loadB ho hx hl (hK _ _ h)
theorem yieldB {ops : Array Oper} {S : World → Prop} {op : Oper} {a : Act} {x : Operand} (hw : Region.wanted op (yielded ops a.tmps) = true) (ho : op.op = .load 40 x)
    {B : Nat} (hx : a.eval x = .pointer (some ⟨B, 0, none⟩)) {v : Value} (hS : ∀ w, S w → Lay 2 w B v) : YieldsIf Try.prog ops S op v a := by
  obtain ⟨d, hu, hd⟩ := rowB
  exact yields_load_lay hu hd szB hw ho hx hS
theorem storeB {op : Oper} {a : Act} {w : World} {K : Act → World → Prop} {Q : Exit → Act → World → Prop} {x y : Operand} (ho : op.op = .store 40 x y)
    {B : Nat} (hx : a.eval x = .pointer (some ⟨B, 0, none⟩)) {v : Value} (hy : a.eval y = v) (hr : Room 2 w B) (hf : Flat 2 v)
    (h : ∀ w', w.grownBy w' (some B) → Lay 2 w' B v → Room 2 w' B → K (a.put op.dst undef) w') : op.wp Try.prog a w K Q :=
  wp_store_lay szB ho hx hy hr hf h
theorem storesB {ops : Array Oper} {rest : List Oper} {op : Oper} {a : Act} {w : World} {Q : Exit → Act → World → Prop} {x y : Operand} (hgd : op.guard = none) (ho : op.op = .store 40 x y)
    {B : Nat} (hx : a.eval x = .pointer (some ⟨B, 0, none⟩)) {v : Value} (hy : a.eval y = v) (hr : Room 2 w B) (hf : Flat 2 v)
    (h : ∀ w', w.grownBy w' (some B) → Lay 2 w' B v → Room 2 w' B → wpList Try.prog ops Q rest (a.put op.dst undef) w') : wpList Try.prog ops Q (op :: rest) a w :=
  wpList_plain hgd fun _ hK => storeB ho hx hy hr hf fun _ h1 h3 h4 => hK _ _ (h _ h1 h3 h4)
theorem boxB {op : Oper} {a : Act} {w : World} {K : Act → World → Prop} {Q : Exit → Act → World → Prop} {x : Operand} (ho : op.op = .box 40 x) {v : Value} (hy : a.eval x = v) (hf : Flat 2 v)
    (h : ∀ B w', w.heap.size ≤ B → B < w'.heap.size → Ext w w' → Lay 2 w' B v → Room 2 w' B → K (a.put op.dst (.pointer (some ⟨B, 0, none⟩))) w') : op.wp Try.prog a w K Q :=
  wp_box_lay ho hy hf h
theorem boxsB {ops : Array Oper} {rest : List Oper} {op : Oper} {a : Act} {w : World} {Q : Exit → Act → World → Prop} {x : Operand} (hgd : op.guard = none) (ho : op.op = .box 40 x) {v : Value} (hy : a.eval x = v) (hf : Flat 2 v)
    (h : ∀ B w', w.heap.size ≤ B → B < w'.heap.size → Ext w w' → Lay 2 w' B v → Room 2 w' B → wpList Try.prog ops Q rest (a.put op.dst (.pointer (some ⟨B, 0, none⟩))) w') : wpList Try.prog ops Q (op :: rest) a w :=
  wpList_plain hgd fun _ hK => boxB ho hy hf fun _ _ h0 h1 h2 h3 h4 => hK _ _ (h _ _ h0 h1 h2 h3 h4)
theorem allocB {op : Oper} {a : Act} {w : World} {K : Act → World → Prop} {Q : Exit → Act → World → Prop} (ho : op.op = .alloc 40)
    (h : ∀ B w', w.heap.size ≤ B → B < w'.heap.size → Ext w w' → Lay 2 w' B zeroBits → Room 2 w' B → K (a.put op.dst (.pointer (some ⟨B, 0, none⟩))) w') : op.wp Try.prog a w K Q := by
  obtain ⟨i, hi, hz⟩ := zrB
  exact wp_alloc_lay hi hz zeroBits_flat ho h
theorem allocsB {ops : Array Oper} {rest : List Oper} {op : Oper} {a : Act} {w : World} {Q : Exit → Act → World → Prop} (hgd : op.guard = none) (ho : op.op = .alloc 40)
    (h : ∀ B w', w.heap.size ≤ B → B < w'.heap.size → Ext w w' → Lay 2 w' B zeroBits → Room 2 w' B → wpList Try.prog ops Q rest (a.put op.dst (.pointer (some ⟨B, 0, none⟩))) w') : wpList Try.prog ops Q (op :: rest) a w :=
  wpList_plain hgd fun _ hK => allocB ho fun _ _ h0 h1 h2 h3 h4 => hK _ _ (h _ _ h0 h1 h2 h3 h4)
section
variable {P : Program} {fn : Func} {w : World} {B : Nat} {v : Value} {t : TypeId} {tmps : Array Value}
theorem results_lay {a : Tmp} (hr : fn.results = #[.cell a t]) (ha : tmps.getD a undef = .pointer (some ⟨B, 0, none⟩)) (h : (loadVar t ⟨B, 0, none⟩).run P w = .ok v w) : (results fn tmps).run P w = .ok v w := by
  simp only [Array.getD_eq_getD_getElem?] at ha
  simp [results, hr, ha, asAddr, h]
theorem results_lay2 {a b : Tmp} {u : Value} (hr : fn.results = #[.cell a t, .tmp b]) (ha : tmps.getD a undef = .pointer (some ⟨B, 0, none⟩)) (hb : tmps.getD b undef = u) (h : (loadVar t ⟨B, 0, none⟩).run P w = .ok v w) : (results fn tmps).run P w = .ok (.tuple #[v, u]) w := by
  simp only [Array.getD_eq_getD_getElem?] at ha hb
  simp [results, hr, ha, hb, asAddr, h]
end
end Go.Proofs.Ytdkgiklbmbkdaaa
