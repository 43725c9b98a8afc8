/- Rows of scalars that are made and written, whole: makes, element stores. -/
import Derived.Test.YtdfhefnjoekgbaaQk
import Derived.Deep.Onto
import Derived.Maps.AppendAt
namespace Go.Proofs.Ytdfhefnjoekgbaa
open Go.RowKit Bv Fl

/-- n elements lie in block g, xs, to be written -/
def RowO (T : TypeId) (w : World) (g n : Nat) (xs : List Value) : Prop := w.ownsRow g T 1 (.slice (some ⟨g, 0, none⟩) n n) n xs
section
variable {T : TypeId} {w w' : World} {g g' n : Nat} {xs : List Value}
theorem RowO.lt (h : RowO T w g n xs) : g < w.heap.size := (World.ownsRow.lt h g rfl).2
theorem RowO.ext (h : RowO T w g n xs) (hx : Ext w w') : RowO T w' g n xs := World.ownsRow.kept h (row := none) ⟨hx.os, hx.tape, hx.output, hx.size, fun i hi _ => hx.block i hi⟩ (.inr (by simp [Value.ownBlock]))
theorem RowO.grown (h : RowO T w g n xs) (hg : w.grownBy w' (some g')) (hne : g ≠ g') : RowO T w' g n xs := World.ownsRow.kept h hg (.inr (by simpa [Value.ownBlock] using hne))
theorem RowO.sl (h : RowO T w g n xs) : Sl w 1 (some ⟨g, 0, none⟩) n xs := Sl.own h
theorem RowO.len (h : RowO T w g n xs) : xs.length = n := by have := h.1; omega
end
/-- W, but for block g -/
def Grw (W : World) (g : Nat) (w : World) : Prop := W.grownBy w (some g)
section
variable {W w w' : World} {g g' : Nat}
theorem Grw.out (h : Grw W g w) : W.grownBy w (some g) := h
theorem Grw.refl (W : World) (g : Nat) : Grw W g W := ⟨rfl, rfl, rfl, Nat.le_refl _, fun _ _ _ => rfl⟩
theorem Grw.ext (h : Grw W g w) (hx : Ext w w') : Grw W g w' := World.grownBy.trans h ⟨hx.os, hx.tape, hx.output, hx.size, fun i hi _ => hx.block i hi⟩
theorem Grw.grown (h : Grw W g w) (hg : w.grownBy w' (some g')) (hs : g' = g ∨ W.heap.size ≤ g') : Grw W g w' :=
  ⟨hg.os.trans h.os, hg.tape.trans h.tape, hg.output.trans h.output, Nat.le_trans h.size hg.size, fun i hi hne => (hg.block i (Nat.lt_of_lt_of_le hi h.size) (fun e => by
    cases e
    rcases hs with rfl | hs
    · exact hne rfl
    · omega)).trans (h.block i hi hne)⟩
end
section
variable {P : Program} {ty : TypeId}
theorem run_storeVar_one (hi : (P.info? ty).map (·.size) = some 1) {w : World} {g k : Nat} {v u : Value} (h1 : v.oneCell' = true) (hc : w.cell? ⟨g, k, none⟩ = some u) (hf : w.frozen? ⟨g, k, none⟩ = false) : (storeVar ty ⟨g, k, none⟩ v).run P w = .ok () (w.setCell ⟨g, k, none⟩ v) := by
  have hv : v.cells = #[v] := by cases v <;> first | rfl | (simp [Value.oneCell'] at h1)
  have h0 : (⟨g, k, none⟩ : Addr).add 0 = ⟨g, k, none⟩ := by unfold Addr.add; rfl
  cases hq : P.info? ty with
  | none => simp [hq] at hi
  | some i =>
    have hs : i.size = 1 := by simpa [hq] using hi
    simp [storeVar, sizeOf, typeInfo, hq, hv, hs, storeCells, h0, run_store P w ⟨g, k, none⟩ v _ h1, hc, hf]
theorem wp_store_row (hi : (P.info? ty).map (·.size) = some 1) {op : Oper} {a : Act} {w : World} {K : Act → World → Prop} {Q : Exit → Act → World → Prop} {x y : Operand} (ho : op.op = .store ty x y)
    {g k n : Nat} {xs : List Value} (hx : a.eval x = .pointer (some ⟨g, k, none⟩)) {v : Value} (hy : a.eval y = v) (h1 : v.oneCell' = true) {T : TypeId} (hr : RowO T w g n xs) (hk : k < n)
    (h : ∀ w', w.grownBy w' (some g) → RowO T w' g n (xs.set k v) → K (a.put op.dst undef) w') : op.wp P a w K Q := by
  have hl := hr.len
  have hc : w.cell? ⟨g, k, none⟩ = some (xs[k]'(by omega)) := by rw [World.ownsRow.cellAt hr k (by omega)]; simp [hl, hk]
  have hrun := run_storeVar_one (P := P) (ty := ty) hi h1 hc (World.ownsRow.frozenAt hr k)
  have hst := World.ownsRow.stored hr k v
  unfold Oper.wp execOp
  simp only [ho, hx, hy, Instr.storeAt, Instr.sureAddr, Sem.run_bind, Sem.run_pure, Result.andThen_ok, hrun]
  exact h _ hst.2 hst.1
theorem wpList_store_row (hi : (P.info? ty).map (·.size) = some 1) {ops : Array Oper} {rest : List Oper} {op : Oper} {a : Act} {w : World} {Q : Exit → Act → World → Prop} (hgd : op.guard = none) {x y : Operand} (ho : op.op = .store ty x y)
    {g k n : Nat} {xs : List Value} (hx : a.eval x = .pointer (some ⟨g, k, none⟩)) {v : Value} (hy : a.eval y = v) (h1 : v.oneCell' = true) {T : TypeId} (hr : RowO T w g n xs) (hk : k < n)
    (h : ∀ w', w.grownBy w' (some g) → RowO T w' g n (xs.set k v) → wpList P ops Q rest (a.put op.dst undef) w') : wpList P ops Q (op :: rest) a w :=
  wpList_plain hgd fun _ hK => wp_store_row hi ho hx hy h1 hr hk fun _ h1 h2 => hK _ _ (h _ h1 h2)
theorem wpList_make_row {e : TypeId} {z : Value} {b : Nat} (hu : P.underlying ty = some (.slice e)) (hi : (P.info? e).map (fun i => (i.zero, i.size, i.bytes)) = some (some z, 1, b)) (hz : z.cells = #[z]) {ops : Array Oper} {rest : List Oper} {op : Oper} {a : Act} {w : World} {Q : Exit → Act → World → Prop} (hgd : op.guard = none) {x : Operand} (ho : op.op = .makeSlice ty x x)
    {n : Nat} (hx : a.eval x = .int .i64 (n : Int)) (hn : n ≤ 1048576) (hb : b ≤ 16)
    (h : ∀ g w', w.heap.size ≤ g → g < w'.heap.size → Ext w w' → RowO e w' g n (List.replicate n z) → wpList P ops Q rest (a.put op.dst (.slice (some ⟨g, 0, none⟩) n n)) w') : wpList P ops Q (op :: rest) a w := by
  obtain ⟨i, hi', h2⟩ := Option.map_eq_some_iff.1 hi
  simp only [Prod.mk.injEq] at h2
  refine wpList_make_full w hgd x x ty ho w.heap.size e i z 1 hu hi' h2.1 h2.2.1 .i64 .i64 _ _ n hx hx rfl rfl ?_ (by simp only [maxLen]; omega) (Nat.le_refl _) ?_
  · rw [h2.2.2]
    have := Nat.mul_le_mul hb hn
    omega
  · intro w' ho' hg
    have hX : Ext w w' := (Below.refl _ _).grown hg (Nat.le_refl _) (by intro k hk; cases hk)
    rw [hz, Nat.mul_one, toList_madeCells_one] at ho'
    exact h _ w' (Nat.le_refl _) (World.ownsRow.lt ho' _ rfl).2 hX ho'
end
theorem esz_bool : (Try.prog.info? 4).map (·.size) = some 1 := by kernel_rfl
theorem einfo_bool : (Try.prog.info? 4).map (fun i => (i.zero, i.size, i.bytes)) = some (some (.bool false), 1, 1) := by kernel_rfl
theorem storer_bool {op : Oper} {a : Act} {w : World} {K : Act → World → Prop} {Q : Exit → Act → World → Prop} {x y : Operand} (ho : op.op = .store 4 x y)
    {g k n : Nat} {xs : List Value} (hx : a.eval x = .pointer (some ⟨g, k, none⟩)) {v : Value} (hy : a.eval y = v) (h1 : v.oneCell' = true) {T : TypeId} (hr : RowO T w g n xs) (hk : k < n)
    (h : ∀ w', w.grownBy w' (some g) → RowO T w' g n (xs.set k v) → K (a.put op.dst undef) w') : op.wp Try.prog a w K Q := wp_store_row esz_bool ho hx hy h1 hr hk h
theorem storesr_bool {ops : Array Oper} {rest : List Oper} {op : Oper} {a : Act} {w : World} {Q : Exit → Act → World → Prop} (hgd : op.guard = none) {x y : Operand} (ho : op.op = .store 4 x y)
    {g k n : Nat} {xs : List Value} (hx : a.eval x = .pointer (some ⟨g, k, none⟩)) {v : Value} (hy : a.eval y = v) (h1 : v.oneCell' = true) {T : TypeId} (hr : RowO T w g n xs) (hk : k < n)
    (h : ∀ w', w.grownBy w' (some g) → RowO T w' g n (xs.set k v) → wpList Try.prog ops Q rest (a.put op.dst undef) w') : wpList Try.prog ops Q (op :: rest) a w := wpList_store_row esz_bool hgd ho hx hy h1 hr hk h
theorem maker_bool {ops : Array Oper} {rest : List Oper} {op : Oper} {a : Act} {w : World} {Q : Exit → Act → World → Prop} (hgd : op.guard = none) {x : Operand} (ho : op.op = .makeSlice 62 x x)
    {n : Nat} (hx : a.eval x = .int .i64 (n : Int)) (hn : n ≤ 1048576)
    (h : ∀ g w', w.heap.size ≤ g → g < w'.heap.size → Ext w w' → RowO 4 w' g n (List.replicate n (.bool false)) → wpList Try.prog ops Q rest (a.put op.dst (.slice (some ⟨g, 0, none⟩) n n)) w') : wpList Try.prog ops Q (op :: rest) a w :=
  wpList_make_row Try.underlying62 einfo_bool rfl hgd ho hx hn (by omega) h
theorem esz_f64 : (Try.prog.info? 81).map (·.size) = some 1 := by kernel_rfl
theorem einfo_f64 : (Try.prog.info? 81).map (fun i => (i.zero, i.size, i.bytes)) = some (some (.float .f64 0), 1, 8) := by kernel_rfl
theorem storer_f64 {op : Oper} {a : Act} {w : World} {K : Act → World → Prop} {Q : Exit → Act → World → Prop} {x y : Operand} (ho : op.op = .store 81 x y)
    {g k n : Nat} {xs : List Value} (hx : a.eval x = .pointer (some ⟨g, k, none⟩)) {v : Value} (hy : a.eval y = v) (h1 : v.oneCell' = true) {T : TypeId} (hr : RowO T w g n xs) (hk : k < n)
    (h : ∀ w', w.grownBy w' (some g) → RowO T w' g n (xs.set k v) → K (a.put op.dst undef) w') : op.wp Try.prog a w K Q := wp_store_row esz_f64 ho hx hy h1 hr hk h
theorem storesr_f64 {ops : Array Oper} {rest : List Oper} {op : Oper} {a : Act} {w : World} {Q : Exit → Act → World → Prop} (hgd : op.guard = none) {x y : Operand} (ho : op.op = .store 81 x y)
    {g k n : Nat} {xs : List Value} (hx : a.eval x = .pointer (some ⟨g, k, none⟩)) {v : Value} (hy : a.eval y = v) (h1 : v.oneCell' = true) {T : TypeId} (hr : RowO T w g n xs) (hk : k < n)
    (h : ∀ w', w.grownBy w' (some g) → RowO T w' g n (xs.set k v) → wpList Try.prog ops Q rest (a.put op.dst undef) w') : wpList Try.prog ops Q (op :: rest) a w := wpList_store_row esz_f64 hgd ho hx hy h1 hr hk h
theorem maker_f64 {ops : Array Oper} {rest : List Oper} {op : Oper} {a : Act} {w : World} {Q : Exit → Act → World → Prop} (hgd : op.guard = none) {x : Operand} (ho : op.op = .makeSlice 22 x x)
    {n : Nat} (hx : a.eval x = .int .i64 (n : Int)) (hn : n ≤ 1048576)
    (h : ∀ g w', w.heap.size ≤ g → g < w'.heap.size → Ext w w' → RowO 81 w' g n (List.replicate n (.float .f64 0)) → wpList Try.prog ops Q rest (a.put op.dst (.slice (some ⟨g, 0, none⟩) n n)) w') : wpList Try.prog ops Q (op :: rest) a w :=
  wpList_make_row Try.underlying22 einfo_f64 rfl hgd ho hx hn (by omega) h
theorem esz_i64 : (Try.prog.info? 2).map (·.size) = some 1 := by kernel_rfl
theorem einfo_i64 : (Try.prog.info? 2).map (fun i => (i.zero, i.size, i.bytes)) = some (some (.int .i64 0), 1, 8) := by kernel_rfl
theorem storer_i64 {op : Oper} {a : Act} {w : World} {K : Act → World → Prop} {Q : Exit → Act → World → Prop} {x y : Operand} (ho : op.op = .store 2 x y)
    {g k n : Nat} {xs : List Value} (hx : a.eval x = .pointer (some ⟨g, k, none⟩)) {v : Value} (hy : a.eval y = v) (h1 : v.oneCell' = true) {T : TypeId} (hr : RowO T w g n xs) (hk : k < n)
    (h : ∀ w', w.grownBy w' (some g) → RowO T w' g n (xs.set k v) → K (a.put op.dst undef) w') : op.wp Try.prog a w K Q := wp_store_row esz_i64 ho hx hy h1 hr hk h
theorem storesr_i64 {ops : Array Oper} {rest : List Oper} {op : Oper} {a : Act} {w : World} {Q : Exit → Act → World → Prop} (hgd : op.guard = none) {x y : Operand} (ho : op.op = .store 2 x y)
    {g k n : Nat} {xs : List Value} (hx : a.eval x = .pointer (some ⟨g, k, none⟩)) {v : Value} (hy : a.eval y = v) (h1 : v.oneCell' = true) {T : TypeId} (hr : RowO T w g n xs) (hk : k < n)
    (h : ∀ w', w.grownBy w' (some g) → RowO T w' g n (xs.set k v) → wpList Try.prog ops Q rest (a.put op.dst undef) w') : wpList Try.prog ops Q (op :: rest) a w := wpList_store_row esz_i64 hgd ho hx hy h1 hr hk h
theorem maker_i64 {ops : Array Oper} {rest : List Oper} {op : Oper} {a : Act} {w : World} {Q : Exit → Act → World → Prop} (hgd : op.guard = none) {x : Operand} (ho : op.op = .makeSlice 30 x x)
    {n : Nat} (hx : a.eval x = .int .i64 (n : Int)) (hn : n ≤ 1048576)
    (h : ∀ g w', w.heap.size ≤ g → g < w'.heap.size → Ext w w' → RowO 2 w' g n (List.replicate n (.int .i64 0)) → wpList Try.prog ops Q rest (a.put op.dst (.slice (some ⟨g, 0, none⟩) n n)) w') : wpList Try.prog ops Q (op :: rest) a w :=
  wpList_make_row Try.underlying30 einfo_i64 rfl hgd ho hx hn (by omega) h
theorem esz_int : (Try.prog.info? 3).map (·.size) = some 1 := by kernel_rfl
theorem einfo_int : (Try.prog.info? 3).map (fun i => (i.zero, i.size, i.bytes)) = some (some (.int .i64 0), 1, 8) := by kernel_rfl
theorem storer_int {op : Oper} {a : Act} {w : World} {K : Act → World → Prop} {Q : Exit → Act → World → Prop} {x y : Operand} (ho : op.op = .store 3 x y)
    {g k n : Nat} {xs : List Value} (hx : a.eval x = .pointer (some ⟨g, k, none⟩)) {v : Value} (hy : a.eval y = v) (h1 : v.oneCell' = true) {T : TypeId} (hr : RowO T w g n xs) (hk : k < n)
    (h : ∀ w', w.grownBy w' (some g) → RowO T w' g n (xs.set k v) → K (a.put op.dst undef) w') : op.wp Try.prog a w K Q := wp_store_row esz_int ho hx hy h1 hr hk h
theorem storesr_int {ops : Array Oper} {rest : List Oper} {op : Oper} {a : Act} {w : World} {Q : Exit → Act → World → Prop} (hgd : op.guard = none) {x y : Operand} (ho : op.op = .store 3 x y)
    {g k n : Nat} {xs : List Value} (hx : a.eval x = .pointer (some ⟨g, k, none⟩)) {v : Value} (hy : a.eval y = v) (h1 : v.oneCell' = true) {T : TypeId} (hr : RowO T w g n xs) (hk : k < n)
    (h : ∀ w', w.grownBy w' (some g) → RowO T w' g n (xs.set k v) → wpList Try.prog ops Q rest (a.put op.dst undef) w') : wpList Try.prog ops Q (op :: rest) a w := wpList_store_row esz_int hgd ho hx hy h1 hr hk h
theorem maker_int {ops : Array Oper} {rest : List Oper} {op : Oper} {a : Act} {w : World} {Q : Exit → Act → World → Prop} (hgd : op.guard = none) {x : Operand} (ho : op.op = .makeSlice 50 x x)
    {n : Nat} (hx : a.eval x = .int .i64 (n : Int)) (hn : n ≤ 1048576)
    (h : ∀ g w', w.heap.size ≤ g → g < w'.heap.size → Ext w w' → RowO 3 w' g n (List.replicate n (.int .i64 0)) → wpList Try.prog ops Q rest (a.put op.dst (.slice (some ⟨g, 0, none⟩) n n)) w') : wpList Try.prog ops Q (op :: rest) a w :=
  wpList_make_row Try.underlying50 einfo_int rfl hgd ho hx hn (by omega) h
theorem esz_i8 : (Try.prog.info? 132).map (·.size) = some 1 := by kernel_rfl
theorem einfo_i8 : (Try.prog.info? 132).map (fun i => (i.zero, i.size, i.bytes)) = some (some (.int .i8 0), 1, 1) := by kernel_rfl
theorem storer_i8 {op : Oper} {a : Act} {w : World} {K : Act → World → Prop} {Q : Exit → Act → World → Prop} {x y : Operand} (ho : op.op = .store 132 x y)
    {g k n : Nat} {xs : List Value} (hx : a.eval x = .pointer (some ⟨g, k, none⟩)) {v : Value} (hy : a.eval y = v) (h1 : v.oneCell' = true) {T : TypeId} (hr : RowO T w g n xs) (hk : k < n)
    (h : ∀ w', w.grownBy w' (some g) → RowO T w' g n (xs.set k v) → K (a.put op.dst undef) w') : op.wp Try.prog a w K Q := wp_store_row esz_i8 ho hx hy h1 hr hk h
theorem storesr_i8 {ops : Array Oper} {rest : List Oper} {op : Oper} {a : Act} {w : World} {Q : Exit → Act → World → Prop} (hgd : op.guard = none) {x y : Operand} (ho : op.op = .store 132 x y)
    {g k n : Nat} {xs : List Value} (hx : a.eval x = .pointer (some ⟨g, k, none⟩)) {v : Value} (hy : a.eval y = v) (h1 : v.oneCell' = true) {T : TypeId} (hr : RowO T w g n xs) (hk : k < n)
    (h : ∀ w', w.grownBy w' (some g) → RowO T w' g n (xs.set k v) → wpList Try.prog ops Q rest (a.put op.dst undef) w') : wpList Try.prog ops Q (op :: rest) a w := wpList_store_row esz_i8 hgd ho hx hy h1 hr hk h
theorem maker_i8 {ops : Array Oper} {rest : List Oper} {op : Oper} {a : Act} {w : World} {Q : Exit → Act → World → Prop} (hgd : op.guard = none) {x : Operand} (ho : op.op = .makeSlice 29 x x)
    {n : Nat} (hx : a.eval x = .int .i64 (n : Int)) (hn : n ≤ 1048576)
    (h : ∀ g w', w.heap.size ≤ g → g < w'.heap.size → Ext w w' → RowO 132 w' g n (List.replicate n (.int .i8 0)) → wpList Try.prog ops Q rest (a.put op.dst (.slice (some ⟨g, 0, none⟩) n n)) w') : wpList Try.prog ops Q (op :: rest) a w :=
  wpList_make_row Try.underlying29 einfo_i8 rfl hgd ho hx hn (by omega) h
end Go.Proofs.Ytdfhefnjoekgbaa
