/- env's contracts: no frame (nil, or a zero one). -/
import Derived.Test.YtdkgiklbmbkdaaaEa
import Derived.Test.YtdkgiklbmbkdaaaEi
import Derived.Maps.OwnSet
import Derived.WalkSpells
namespace Go.Proofs.Ytdkgiklbmbkdaaa
open Go.ChangeShapes Go.WideShapes Go.RowKit Go.Maps Bv Fl
set_option maxHeartbeats 1000000
set_option maxRecDepth 100000
theorem cell_grown {w w' : World} {p : Addr} {u : Value} {g : Nat} (hg : w.grownBy w' (some g)) (h : w.cell? p = some u) (hne : p.block ≠ g) : w'.cell? p = some u := (grown_cell hg (World.block_lt_of_cell? _ _ h) hne).trans h
def zeroNode : Value := .agg #[.int .i64 0, .int .i64 0, .slice none 0 0, .slice none 0 0, .string ByteArray.empty, .int .i32 0, .slice none 0 0]
def zeroClo : Value := .agg #[.int .i64 0, .int .i64 0, .slice none 0 0, .slice none 0 0, .string ByteArray.empty, .int .i32 0, .slice none 0 0, .pointer none]
theorem zeroNode_flat : Flat 7 zeroNode := ⟨_, rfl, rfl, by simp [Value.oneCell']⟩
theorem zeroClo_flat : Flat 8 zeroClo := ⟨_, rfl, rfl, by simp [Value.oneCell']⟩
theorem szC : (Try.prog.info? 66).map (·.size) = some 8 := by kernel_rfl
theorem rowC : ∃ d : TypeDesc, Try.prog.underlying 66 = some d ∧ d.isRow = true := ⟨_, Try.underlying66, rfl⟩
theorem zrC : ∃ i, Try.prog.info? 66 = some i ∧ i.zero = some zeroClo := by
  have h : (Try.prog.info? 66).bind (·.zero) = some zeroClo := by kernel_rfl
  obtain ⟨i, hi, hz⟩ := Option.bind_eq_some_iff.1 h
  exact ⟨i, hi, hz⟩
theorem ldC {w : World} {B : Nat} {v : Value} (h : Lay 8 w B v) : (loadVar 66 ⟨B, 0, none⟩).run Try.prog w = .ok v w := by
  obtain ⟨d, hu, hd⟩ := rowC
  exact run_loadVar_lay hu hd szC h
theorem loadC {op : Oper} {a : Act} {w : World} {K : Act → World → Prop} {Q : Exit → Act → World → Prop} {x : Operand} (ho : op.op = .load 66 x)
    {B : Nat} (hx : a.eval x = .pointer (some ⟨B, 0, none⟩)) {v : Value} (hl : Lay 8 w B v) (h : K (a.put op.dst v) w) : op.wp Try.prog a w K Q := by
  obtain ⟨d, hu, hd⟩ := rowC
  exact wp_load_lay hu hd szC ho hx hl h
theorem loadsC {ops : Array Oper} {rest : List Oper} {op : Oper} {a : Act} {w : World} {Q : Exit → Act → World → Prop} {x : Operand} (hgd : op.guard = none) (ho : op.op = .load 66 x)
    {B : Nat} (hx : a.eval x = .pointer (some ⟨B, 0, none⟩)) {v : Value} (hl : Lay 8 w B v) (h : wpList Try.prog ops Q rest (a.put op.dst v) w) : wpList Try.prog ops Q (op :: rest) a w :=
  wpList_plain hgd fun _ hK => loadC ho hx hl (hK _ _ h)
theorem yieldC {ops : Array Oper} {S : World → Prop} {op : Oper} {a : Act} {x : Operand} (hw : Region.wanted op (yielded ops a.tmps) = true) (ho : op.op = .load 66 x)
    {B : Nat} (hx : a.eval x = .pointer (some ⟨B, 0, none⟩)) {v : Value} (hS : ∀ w, S w → Lay 8 w B v) : YieldsIf Try.prog ops S op v a := by
  obtain ⟨d, hu, hd⟩ := rowC
  exact yields_load_lay hu hd szC hw ho hx hS
theorem storeC {op : Oper} {a : Act} {w : World} {K : Act → World → Prop} {Q : Exit → Act → World → Prop} {x y : Operand} (ho : op.op = .store 66 x y)
    {B : Nat} (hx : a.eval x = .pointer (some ⟨B, 0, none⟩)) {v : Value} (hy : a.eval y = v) (hr : Room 8 w B) (hf : Flat 8 v)
    (h : ∀ w', w.grownBy w' (some B) → Lay 8 w' B v → Room 8 w' B → K (a.put op.dst undef) w') : op.wp Try.prog a w K Q :=
  wp_store_lay szC ho hx hy hr hf h
theorem storesC {ops : Array Oper} {rest : List Oper} {op : Oper} {a : Act} {w : World} {Q : Exit → Act → World → Prop} {x y : Operand} (hgd : op.guard = none) (ho : op.op = .store 66 x y)
    {B : Nat} (hx : a.eval x = .pointer (some ⟨B, 0, none⟩)) {v : Value} (hy : a.eval y = v) (hr : Room 8 w B) (hf : Flat 8 v)
    (h : ∀ w', w.grownBy w' (some B) → Lay 8 w' B v → Room 8 w' B → wpList Try.prog ops Q rest (a.put op.dst undef) w') : wpList Try.prog ops Q (op :: rest) a w :=
  wpList_plain hgd fun _ hK => storeC ho hx hy hr hf fun _ h1 h3 h4 => hK _ _ (h _ h1 h3 h4)
theorem boxC {op : Oper} {a : Act} {w : World} {K : Act → World → Prop} {Q : Exit → Act → World → Prop} {x : Operand} (ho : op.op = .box 66 x) {v : Value} (hy : a.eval x = v) (hf : Flat 8 v)
    (h : ∀ B w', w.heap.size ≤ B → B < w'.heap.size → Ext w w' → Lay 8 w' B v → Room 8 w' B → K (a.put op.dst (.pointer (some ⟨B, 0, none⟩))) w') : op.wp Try.prog a w K Q :=
  wp_box_lay ho hy hf h
theorem boxsC {ops : Array Oper} {rest : List Oper} {op : Oper} {a : Act} {w : World} {Q : Exit → Act → World → Prop} {x : Operand} (hgd : op.guard = none) (ho : op.op = .box 66 x) {v : Value} (hy : a.eval x = v) (hf : Flat 8 v)
    (h : ∀ B w', w.heap.size ≤ B → B < w'.heap.size → Ext w w' → Lay 8 w' B v → Room 8 w' B → wpList Try.prog ops Q rest (a.put op.dst (.pointer (some ⟨B, 0, none⟩))) w') : wpList Try.prog ops Q (op :: rest) a w :=
  wpList_plain hgd fun _ hK => boxC ho hy hf fun _ _ h0 h1 h2 h3 h4 => hK _ _ (h _ _ h0 h1 h2 h3 h4)
theorem allocC {op : Oper} {a : Act} {w : World} {K : Act → World → Prop} {Q : Exit → Act → World → Prop} (ho : op.op = .alloc 66)
    (h : ∀ B w', w.heap.size ≤ B → B < w'.heap.size → Ext w w' → Lay 8 w' B zeroClo → Room 8 w' B → K (a.put op.dst (.pointer (some ⟨B, 0, none⟩))) w') : op.wp Try.prog a w K Q := by
  obtain ⟨i, hi, hz⟩ := zrC
  exact wp_alloc_lay hi hz zeroClo_flat ho h
theorem allocsC {ops : Array Oper} {rest : List Oper} {op : Oper} {a : Act} {w : World} {Q : Exit → Act → World → Prop} (hgd : op.guard = none) (ho : op.op = .alloc 66)
    (h : ∀ B w', w.heap.size ≤ B → B < w'.heap.size → Ext w w' → Lay 8 w' B zeroClo → Room 8 w' B → wpList Try.prog ops Q rest (a.put op.dst (.pointer (some ⟨B, 0, none⟩))) w') : wpList Try.prog ops Q (op :: rest) a w :=
  wpList_plain hgd fun _ hK => allocC ho fun _ _ h0 h1 h2 h3 h4 => hK _ _ (h _ _ h0 h1 h2 h3 h4)
theorem szN : (Try.prog.info? 54).map (·.size) = some 7 := by kernel_rfl
theorem rowN : ∃ d : TypeDesc, Try.prog.underlying 54 = some d ∧ d.isRow = true := ⟨_, Try.underlying54, rfl⟩
theorem zrN : ∃ i, Try.prog.info? 54 = some i ∧ i.zero = some zeroNode := by
  have h : (Try.prog.info? 54).bind (·.zero) = some zeroNode := by kernel_rfl
  obtain ⟨i, hi, hz⟩ := Option.bind_eq_some_iff.1 h
  exact ⟨i, hi, hz⟩
theorem ldN {w : World} {B : Nat} {v : Value} (h : Lay 7 w B v) : (loadVar 54 ⟨B, 0, none⟩).run Try.prog w = .ok v w := by
  obtain ⟨d, hu, hd⟩ := rowN
  exact run_loadVar_lay hu hd szN h
theorem loadN {op : Oper} {a : Act} {w : World} {K : Act → World → Prop} {Q : Exit → Act → World → Prop} {x : Operand} (ho : op.op = .load 54 x)
    {B : Nat} (hx : a.eval x = .pointer (some ⟨B, 0, none⟩)) {v : Value} (hl : Lay 7 w B v) (h : K (a.put op.dst v) w) : op.wp Try.prog a w K Q := by
  obtain ⟨d, hu, hd⟩ := rowN
  exact wp_load_lay hu hd szN ho hx hl h
theorem loadsN {ops : Array Oper} {rest : List Oper} {op : Oper} {a : Act} {w : World} {Q : Exit → Act → World → Prop} {x : Operand} (hgd : op.guard = none) (ho : op.op = .load 54 x)
    {B : Nat} (hx : a.eval x = .pointer (some ⟨B, 0, none⟩)) {v : Value} (hl : Lay 7 w B v) (h : wpList Try.prog ops Q rest (a.put op.dst v) w) : wpList Try.prog ops Q (op :: rest) a w :=
  wpList_plain hgd fun _ hK => loadN ho hx hl (hK _ _ h)
theorem yieldN {ops : Array Oper} {S : World → Prop} {op : Oper} {a : Act} {x : Operand} (hw : Region.wanted op (yielded ops a.tmps) = true) (ho : op.op = .load 54 x)
    {B : Nat} (hx : a.eval x = .pointer (some ⟨B, 0, none⟩)) {v : Value} (hS : ∀ w, S w → Lay 7 w B v) : YieldsIf Try.prog ops S op v a := by
  obtain ⟨d, hu, hd⟩ := rowN
  exact yields_load_lay hu hd szN hw ho hx hS
theorem storeN {op : Oper} {a : Act} {w : World} {K : Act → World → Prop} {Q : Exit → Act → World → Prop} {x y : Operand} (ho : op.op = .store 54 x y)
    {B : Nat} (hx : a.eval x = .pointer (some ⟨B, 0, none⟩)) {v : Value} (hy : a.eval y = v) (hr : Room 7 w B) (hf : Flat 7 v)
    (h : ∀ w', w.grownBy w' (some B) → Lay 7 w' B v → Room 7 w' B → K (a.put op.dst undef) w') : op.wp Try.prog a w K Q :=
  wp_store_lay szN ho hx hy hr hf h
theorem storesN {ops : Array Oper} {rest : List Oper} {op : Oper} {a : Act} {w : World} {Q : Exit → Act → World → Prop} {x y : Operand} (hgd : op.guard = none) (ho : op.op = .store 54 x y)
    {B : Nat} (hx : a.eval x = .pointer (some ⟨B, 0, none⟩)) {v : Value} (hy : a.eval y = v) (hr : Room 7 w B) (hf : Flat 7 v)
    (h : ∀ w', w.grownBy w' (some B) → Lay 7 w' B v → Room 7 w' B → wpList Try.prog ops Q rest (a.put op.dst undef) w') : wpList Try.prog ops Q (op :: rest) a w :=
  wpList_plain hgd fun _ hK => storeN ho hx hy hr hf fun _ h1 h3 h4 => hK _ _ (h _ h1 h3 h4)
theorem boxN {op : Oper} {a : Act} {w : World} {K : Act → World → Prop} {Q : Exit → Act → World → Prop} {x : Operand} (ho : op.op = .box 54 x) {v : Value} (hy : a.eval x = v) (hf : Flat 7 v)
    (h : ∀ B w', w.heap.size ≤ B → B < w'.heap.size → Ext w w' → Lay 7 w' B v → Room 7 w' B → K (a.put op.dst (.pointer (some ⟨B, 0, none⟩))) w') : op.wp Try.prog a w K Q :=
  wp_box_lay ho hy hf h
theorem boxsN {ops : Array Oper} {rest : List Oper} {op : Oper} {a : Act} {w : World} {Q : Exit → Act → World → Prop} {x : Operand} (hgd : op.guard = none) (ho : op.op = .box 54 x) {v : Value} (hy : a.eval x = v) (hf : Flat 7 v)
    (h : ∀ B w', w.heap.size ≤ B → B < w'.heap.size → Ext w w' → Lay 7 w' B v → Room 7 w' B → wpList Try.prog ops Q rest (a.put op.dst (.pointer (some ⟨B, 0, none⟩))) w') : wpList Try.prog ops Q (op :: rest) a w :=
  wpList_plain hgd fun _ hK => boxN ho hy hf fun _ _ h0 h1 h2 h3 h4 => hK _ _ (h _ _ h0 h1 h2 h3 h4)
theorem allocN {op : Oper} {a : Act} {w : World} {K : Act → World → Prop} {Q : Exit → Act → World → Prop} (ho : op.op = .alloc 54)
    (h : ∀ B w', w.heap.size ≤ B → B < w'.heap.size → Ext w w' → Lay 7 w' B zeroNode → Room 7 w' B → K (a.put op.dst (.pointer (some ⟨B, 0, none⟩))) w') : op.wp Try.prog a w K Q := by
  obtain ⟨i, hi, hz⟩ := zrN
  exact wp_alloc_lay hi hz zeroNode_flat ho h
theorem allocsN {ops : Array Oper} {rest : List Oper} {op : Oper} {a : Act} {w : World} {Q : Exit → Act → World → Prop} (hgd : op.guard = none) (ho : op.op = .alloc 54)
    (h : ∀ B w', w.heap.size ≤ B → B < w'.heap.size → Ext w w' → Lay 7 w' B zeroNode → Room 7 w' B → wpList Try.prog ops Q rest (a.put op.dst (.pointer (some ⟨B, 0, none⟩))) w') : wpList Try.prog ops Q (op :: rest) a w :=
  wpList_plain hgd fun _ hK => allocN ho fun _ _ h0 h1 h2 h3 h4 => hK _ _ (h _ _ h0 h1 h2 h3 h4)
theorem lawS : Keyed Try.prog 9 := string_keyed Try.underlying9
theorem keyS {s : ByteArray} (hs : s.size ≤ maxLen) : keyOf Try.prog 9 (.string s) = some (.string s.data.toList) := WideMaps.keyOf_string_mk Try.underlying9 hs
theorem zvA (w : World) : (zeroValue 49).run Try.prog w = .ok zeroArr w := by kernel_rfl
theorem zvC (w : World) : (zeroValue 66).run Try.prog w = .ok zeroClo w := by kernel_rfl
/-- a zero frame -/
structure Zer (w : World) (B : Nat) : Prop where
  c0 : w.cell? ⟨B, 0, none⟩ = some (.pointer none)
  c1 : w.cell? ⟨B, 1, none⟩ = some (.map none)
  c2 : w.cell? ⟨B, 2, none⟩ = some (.map none)
  c3 : w.cell? ⟨B, 3, none⟩ = some (.int .i64 0)
theorem Zer.ext {w w' : World} {B : Nat} (h : Zer w B) (hx : Ext w w') : Zer w' B := ⟨cell_ext hx h.c0, cell_ext hx h.c1, cell_ext hx h.c2, cell_ext hx h.c3⟩
section
variable (w : World) (s : ByteArray) (hs : s.size ≤ maxLen) (B : Nat) (hZ : Zer w B)
include hs hZ in
include hs hZ in
include hZ in
include hs hZ in
include hs hZ in
include hZ in
include hZ in
include hZ in
end
end Go.Proofs.Ytdkgiklbmbkdaaa
