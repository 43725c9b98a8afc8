/- Plain arrays and their items as whole structs; a field stored. -/
import Derived.Test.YtdfhefnjoekgbaaQk
import Derived.Test.YtdfhefnjoekgbaaRr
import Derived.Test.YtdfhefnjoekgbaaOp
namespace Go.Proofs.Ytdfhefnjoekgbaa
open Go.RowKit Bv Fl
theorem cell_grown {w w' : World} {p : Addr} {u : Value} {g : Nat} (hg : w.grownBy w' (some g)) (h : w.cell? p = some u) (hne : p.block ≠ g) : w'.cell? p = some u := (grown_cell hg (World.block_lt_of_cell? _ _ h) hne).trans h
/-- a struct's cell -/
theorem lay_cell {n : Nat} {w : World} {B j : Nat} {cs : Array Value} {u : Value} (h : Lay n w B (.agg cs)) (hu : cs[j]? = some u) : w.cell? ⟨B, j, none⟩ = some u := by
  obtain ⟨cs', e, _, hc⟩ := h
  cases e
  have := hc j u (by simpa using hu)
  rwa [Nat.zero_add] at this
section
variable {P : Program} {ty : TypeId}
theorem run_storeVar_field (hi : (P.info? ty).map (·.size) = some 1) {n : Nat} {w : World} {B j : Nat} {cs cs' : Array Value} {v : Value} (h1 : v.oneCell' = true) (hl : Lay n w B (.agg cs)) (hr : Room n w B) (hj : j < n) (hcs : cs' = cs.setIfInBounds j v) :
    ∃ w', (storeVar ty ⟨B, j, none⟩ v).run P w = .ok () w' ∧ w.grownBy w' (some B) ∧ Lay n w' B (.agg cs') ∧ Room n w' B := by
  subst hcs
  obtain ⟨u, hu⟩ := Option.isSome_iff_exists.1 (hr j hj).1
  have hf := (hr j hj).2
  rw [Nat.zero_add] at hu hf
  refine ⟨w.setCells B j [v], run_storeVar_one hi h1 hu hf, grown_set (World.grownBy.refl w _) v, ?_, World.there_setCells hr B j [v]⟩
  obtain ⟨cs', e, hn, hc⟩ := hl
  cases e
  refine ⟨_, rfl, by simpa using hn, fun k x hk => ?_⟩
  rw [Array.toList_setIfInBounds] at hk
  by_cases e : k = j
  · subst e
    have hx : x = v := by
      rw [List.getElem?_set_self (by rw [Array.length_toList, hn]; exact hj)] at hk
      exact (Option.some.inj hk).symm
    subst hx
    have := World.cell?_setCells_in B [x] k w (fun i hi => by
      have h0 : i = 0 := by simpa using hi
      subst h0
      rw [Nat.add_zero, hu]; rfl) 0 (by simp)
    rw [Nat.zero_add]
    simpa using this
  · rw [List.getElem?_set_ne (fun h => e h.symm)] at hk
    rw [World.cell?_setCells_out B [v] j w _ (fun _ _ => by simp; omega)]
    exact hc k x hk
theorem wp_store_field (hi : (P.info? ty).map (·.size) = some 1) {n : Nat} {op : Oper} {a : Act} {w : World} {K : Act → World → Prop} {Q : Exit → Act → World → Prop} {x y : Operand} (ho : op.op = .store ty x y)
    {B j : Nat} (hx : a.eval x = .pointer (some ⟨B, j, none⟩)) {v : Value} (hy : a.eval y = v) {cs cs' : Array Value} (h1 : v.oneCell' = true) (hl : Lay n w B (.agg cs)) (hr : Room n w B) (hj : j < n) (hcs : cs' = cs.setIfInBounds j v)
    (h : ∀ w', w.grownBy w' (some B) → Lay n w' B (.agg cs') → Room n w' B → K (a.put op.dst undef) w') : op.wp P a w K Q := by
  obtain ⟨w', hrun, h2, h3, h4⟩ := run_storeVar_field (P := P) (ty := ty) hi h1 hl hr hj hcs
  unfold Oper.wp execOp
  simp only [ho, hx, hy, Instr.storeAt, Instr.sureAddr, Sem.run_bind, Sem.run_pure, Result.andThen_ok, hrun]
  exact h w' h2 h3 h4
end
theorem fszf64 : (Try.prog.info? 81).map (·.size) = some 1 := by kernel_rfl
theorem sfield_f64 {n : Nat} {ops : Array Oper} {rest : List Oper} {op : Oper} {a : Act} {w : World} {Q : Exit → Act → World → Prop} (hgd : op.guard = none) {x y : Operand} (ho : op.op = .store 81 x y)
    {B j : Nat} (hx : a.eval x = .pointer (some ⟨B, j, none⟩)) {v : Value} (hy : a.eval y = v) {cs cs' : Array Value} (h1 : v.oneCell' = true) (hl : Lay n w B (.agg cs)) (hr : Room n w B) (hj : j < n) (hcs : cs' = cs.setIfInBounds j v)
    (h : ∀ w', w.grownBy w' (some B) → Lay n w' B (.agg cs') → Room n w' B → wpList Try.prog ops Q rest (a.put op.dst undef) w') : wpList Try.prog ops Q (op :: rest) a w :=
  wpList_plain hgd fun _ hK => wp_store_field fszf64 ho hx hy h1 hl hr hj hcs fun _ h1 h3 h4 => hK _ _ (h _ h1 h3 h4)
theorem fszi32 : (Try.prog.info? 21).map (·.size) = some 1 := by kernel_rfl
theorem sfield_i32 {n : Nat} {ops : Array Oper} {rest : List Oper} {op : Oper} {a : Act} {w : World} {Q : Exit → Act → World → Prop} (hgd : op.guard = none) {x y : Operand} (ho : op.op = .store 21 x y)
    {B j : Nat} (hx : a.eval x = .pointer (some ⟨B, j, none⟩)) {v : Value} (hy : a.eval y = v) {cs cs' : Array Value} (h1 : v.oneCell' = true) (hl : Lay n w B (.agg cs)) (hr : Room n w B) (hj : j < n) (hcs : cs' = cs.setIfInBounds j v)
    (h : ∀ w', w.grownBy w' (some B) → Lay n w' B (.agg cs') → Room n w' B → wpList Try.prog ops Q rest (a.put op.dst undef) w') : wpList Try.prog ops Q (op :: rest) a w :=
  wpList_plain hgd fun _ hK => wp_store_field fszi32 ho hx hy h1 hl hr hj hcs fun _ h1 h3 h4 => hK _ _ (h _ h1 h3 h4)
theorem fszits : (Try.prog.info? 87).map (·.size) = some 1 := by kernel_rfl
theorem sfield_its {n : Nat} {ops : Array Oper} {rest : List Oper} {op : Oper} {a : Act} {w : World} {Q : Exit → Act → World → Prop} (hgd : op.guard = none) {x y : Operand} (ho : op.op = .store 87 x y)
    {B j : Nat} (hx : a.eval x = .pointer (some ⟨B, j, none⟩)) {v : Value} (hy : a.eval y = v) {cs cs' : Array Value} (h1 : v.oneCell' = true) (hl : Lay n w B (.agg cs)) (hr : Room n w B) (hj : j < n) (hcs : cs' = cs.setIfInBounds j v)
    (h : ∀ w', w.grownBy w' (some B) → Lay n w' B (.agg cs') → Room n w' B → wpList Try.prog ops Q rest (a.put op.dst undef) w') : wpList Try.prog ops Q (op :: rest) a w :=
  wpList_plain hgd fun _ hK => wp_store_field fszits ho hx hy h1 hl hr hj hcs fun _ h1 h3 h4 => hK _ _ (h _ h1 h3 h4)
theorem fszpls : (Try.prog.info? 123).map (·.size) = some 1 := by kernel_rfl
theorem sfield_pls {n : Nat} {ops : Array Oper} {rest : List Oper} {op : Oper} {a : Act} {w : World} {Q : Exit → Act → World → Prop} (hgd : op.guard = none) {x y : Operand} (ho : op.op = .store 123 x y)
    {B j : Nat} (hx : a.eval x = .pointer (some ⟨B, j, none⟩)) {v : Value} (hy : a.eval y = v) {cs cs' : Array Value} (h1 : v.oneCell' = true) (hl : Lay n w B (.agg cs)) (hr : Room n w B) (hj : j < n) (hcs : cs' = cs.setIfInBounds j v)
    (h : ∀ w', w.grownBy w' (some B) → Lay n w' B (.agg cs') → Room n w' B → wpList Try.prog ops Q rest (a.put op.dst undef) w') : wpList Try.prog ops Q (op :: rest) a w :=
  wpList_plain hgd fun _ hK => wp_store_field fszpls ho hx hy h1 hl hr hj hcs fun _ h1 h3 h4 => hK _ _ (h _ h1 h3 h4)
def zeroPl : Value := .agg #[.slice none 0 0, .slice none 0 0, .int .i64 0]
theorem zeroPl_flat : Flat 3 zeroPl := ⟨_, rfl, rfl, by simp [Value.oneCell']⟩
def zeroIt : Value := .agg #[.int .i64 0, .float .f64 0, .int .i32 0, .slice none 0 0]
theorem zeroIt_flat : Flat 4 zeroIt := ⟨_, rfl, rfl, by simp [Value.oneCell']⟩
theorem pl_flat (a : Option Addr) (n c : Nat) (b : Option Addr) (m d : Nat) (f : Int) : Flat 3 (.agg #[.slice a n c, .slice b m d, .int .i64 f]) := ⟨_, rfl, rfl, by simp [Value.oneCell']⟩
theorem it_flat (k : Int) (x : Nat) (c : Int) (a : Option Addr) (n d : Nat) : Flat 4 (.agg #[.int .i64 k, .float .f64 x, .int .i32 c, .slice a n d]) := ⟨_, rfl, rfl, by simp [Value.oneCell']⟩
theorem szP : (Try.prog.info? 89).map (·.size) = some 3 := by kernel_rfl
theorem rowP : ∃ d : TypeDesc, Try.prog.underlying 89 = some d ∧ d.isRow = true := ⟨_, Try.underlying89, rfl⟩
theorem zrP : ∃ i, Try.prog.info? 89 = some i ∧ i.zero = some zeroPl := by
  have h : (Try.prog.info? 89).bind (·.zero) = some zeroPl := by kernel_rfl
  obtain ⟨i, hi, hz⟩ := Option.bind_eq_some_iff.1 h
  exact ⟨i, hi, hz⟩
theorem ldP {w : World} {B : Nat} {v : Value} (h : Lay 3 w B v) : (loadVar 89 ⟨B, 0, none⟩).run Try.prog w = .ok v w := by
  obtain ⟨d, hu, hd⟩ := rowP
  exact run_loadVar_lay hu hd szP h
theorem loadP {op : Oper} {a : Act} {w : World} {K : Act → World → Prop} {Q : Exit → Act → World → Prop} {x : Operand} (ho : op.op = .load 89 x)
    {B : Nat} (hx : a.eval x = .pointer (some ⟨B, 0, none⟩)) {v : Value} (hl : Lay 3 w B v) (h : K (a.put op.dst v) w) : op.wp Try.prog a w K Q := by
  obtain ⟨d, hu, hd⟩ := rowP
  exact wp_load_lay hu hd szP ho hx hl h
theorem loadsP {ops : Array Oper} {rest : List Oper} {op : Oper} {a : Act} {w : World} {Q : Exit → Act → World → Prop} {x : Operand} (hgd : op.guard = none) (ho : op.op = .load 89 x)
    {B : Nat} (hx : a.eval x = .pointer (some ⟨B, 0, none⟩)) {v : Value} (hl : Lay 3 w B v) (h : wpList Try.prog ops Q rest (a.put op.dst v) w) : wpList Try.prog ops Q (op :: rest) a w :=
  wpList_plain hgd fun _ hK => loadP ho hx hl (hK _ _ h)
theorem loadgP {ops : Array Oper} {rest : List Oper} {op : Oper} {a : Act} {w : World} {Q : Exit → Act → World → Prop} {x : Operand} (hw : Region.wanted op (yielded ops a.tmps) = true) (ho : op.op = .load 89 x)
    {B : Nat} (hx : a.eval x = .pointer (some ⟨B, 0, none⟩)) {v : Value} (hl : Lay 3 w B v) (h : wpList Try.prog ops Q rest (a.put op.dst v) w) : wpList Try.prog ops Q (op :: rest) a w :=
  wpList_step fun _ hK => by rw [if_pos hw]; exact loadP ho hx hl (hK _ _ h)
theorem yieldP {ops : Array Oper} {S : World → Prop} {op : Oper} {a : Act} {x : Operand} (hw : Region.wanted op (yielded ops a.tmps) = true) (ho : op.op = .load 89 x)
    {B : Nat} (hx : a.eval x = .pointer (some ⟨B, 0, none⟩)) {v : Value} (hS : ∀ w, S w → Lay 3 w B v) : YieldsIf Try.prog ops S op v a := by
  obtain ⟨d, hu, hd⟩ := rowP
  exact yields_load_lay hu hd szP hw ho hx hS
theorem storeP {op : Oper} {a : Act} {w : World} {K : Act → World → Prop} {Q : Exit → Act → World → Prop} {x y : Operand} (ho : op.op = .store 89 x y)
    {B : Nat} (hx : a.eval x = .pointer (some ⟨B, 0, none⟩)) {v : Value} (hy : a.eval y = v) (hr : Room 3 w B) (hf : Flat 3 v)
    (h : ∀ w', w.grownBy w' (some B) → Lay 3 w' B v → Room 3 w' B → K (a.put op.dst undef) w') : op.wp Try.prog a w K Q :=
  wp_store_lay szP ho hx hy hr hf h
theorem storesP {ops : Array Oper} {rest : List Oper} {op : Oper} {a : Act} {w : World} {Q : Exit → Act → World → Prop} {x y : Operand} (hgd : op.guard = none) (ho : op.op = .store 89 x y)
    {B : Nat} (hx : a.eval x = .pointer (some ⟨B, 0, none⟩)) {v : Value} (hy : a.eval y = v) (hr : Room 3 w B) (hf : Flat 3 v)
    (h : ∀ w', w.grownBy w' (some B) → Lay 3 w' B v → Room 3 w' B → wpList Try.prog ops Q rest (a.put op.dst undef) w') : wpList Try.prog ops Q (op :: rest) a w :=
  wpList_plain hgd fun _ hK => storeP ho hx hy hr hf fun _ h1 h3 h4 => hK _ _ (h _ h1 h3 h4)
theorem boxP {op : Oper} {a : Act} {w : World} {K : Act → World → Prop} {Q : Exit → Act → World → Prop} {x : Operand} (ho : op.op = .box 89 x) {v : Value} (hy : a.eval x = v) (hf : Flat 3 v)
    (h : ∀ B w', w.heap.size ≤ B → B < w'.heap.size → Ext w w' → Lay 3 w' B v → Room 3 w' B → K (a.put op.dst (.pointer (some ⟨B, 0, none⟩))) w') : op.wp Try.prog a w K Q :=
  wp_box_lay ho hy hf h
theorem boxsP {ops : Array Oper} {rest : List Oper} {op : Oper} {a : Act} {w : World} {Q : Exit → Act → World → Prop} {x : Operand} (hgd : op.guard = none) (ho : op.op = .box 89 x) {v : Value} (hy : a.eval x = v) (hf : Flat 3 v)
    (h : ∀ B w', w.heap.size ≤ B → B < w'.heap.size → Ext w w' → Lay 3 w' B v → Room 3 w' B → wpList Try.prog ops Q rest (a.put op.dst (.pointer (some ⟨B, 0, none⟩))) w') : wpList Try.prog ops Q (op :: rest) a w :=
  wpList_plain hgd fun _ hK => boxP ho hy hf fun _ _ h0 h1 h2 h3 h4 => hK _ _ (h _ _ h0 h1 h2 h3 h4)
theorem allocP {op : Oper} {a : Act} {w : World} {K : Act → World → Prop} {Q : Exit → Act → World → Prop} (ho : op.op = .alloc 89)
    (h : ∀ B w', w.heap.size ≤ B → B < w'.heap.size → Ext w w' → Lay 3 w' B zeroPl → Room 3 w' B → K (a.put op.dst (.pointer (some ⟨B, 0, none⟩))) w') : op.wp Try.prog a w K Q := by
  obtain ⟨i, hi, hz⟩ := zrP
  exact wp_alloc_lay hi hz zeroPl_flat ho h
theorem allocsP {ops : Array Oper} {rest : List Oper} {op : Oper} {a : Act} {w : World} {Q : Exit → Act → World → Prop} (hgd : op.guard = none) (ho : op.op = .alloc 89)
    (h : ∀ B w', w.heap.size ≤ B → B < w'.heap.size → Ext w w' → Lay 3 w' B zeroPl → Room 3 w' B → wpList Try.prog ops Q rest (a.put op.dst (.pointer (some ⟨B, 0, none⟩))) w') : wpList Try.prog ops Q (op :: rest) a w :=
  wpList_plain hgd fun _ hK => allocP ho fun _ _ h0 h1 h2 h3 h4 => hK _ _ (h _ _ h0 h1 h2 h3 h4)
theorem szI : (Try.prog.info? 125).map (·.size) = some 4 := by kernel_rfl
theorem rowI : ∃ d : TypeDesc, Try.prog.underlying 125 = some d ∧ d.isRow = true := ⟨_, Try.underlying125, rfl⟩
theorem zrI : ∃ i, Try.prog.info? 125 = some i ∧ i.zero = some zeroIt := by
  have h : (Try.prog.info? 125).bind (·.zero) = some zeroIt := by kernel_rfl
  obtain ⟨i, hi, hz⟩ := Option.bind_eq_some_iff.1 h
  exact ⟨i, hi, hz⟩
theorem ldI {w : World} {B : Nat} {v : Value} (h : Lay 4 w B v) : (loadVar 125 ⟨B, 0, none⟩).run Try.prog w = .ok v w := by
  obtain ⟨d, hu, hd⟩ := rowI
  exact run_loadVar_lay hu hd szI h
theorem loadI {op : Oper} {a : Act} {w : World} {K : Act → World → Prop} {Q : Exit → Act → World → Prop} {x : Operand} (ho : op.op = .load 125 x)
    {B : Nat} (hx : a.eval x = .pointer (some ⟨B, 0, none⟩)) {v : Value} (hl : Lay 4 w B v) (h : K (a.put op.dst v) w) : op.wp Try.prog a w K Q := by
  obtain ⟨d, hu, hd⟩ := rowI
  exact wp_load_lay hu hd szI ho hx hl h
theorem loadsI {ops : Array Oper} {rest : List Oper} {op : Oper} {a : Act} {w : World} {Q : Exit → Act → World → Prop} {x : Operand} (hgd : op.guard = none) (ho : op.op = .load 125 x)
    {B : Nat} (hx : a.eval x = .pointer (some ⟨B, 0, none⟩)) {v : Value} (hl : Lay 4 w B v) (h : wpList Try.prog ops Q rest (a.put op.dst v) w) : wpList Try.prog ops Q (op :: rest) a w :=
  wpList_plain hgd fun _ hK => loadI ho hx hl (hK _ _ h)
theorem loadgI {ops : Array Oper} {rest : List Oper} {op : Oper} {a : Act} {w : World} {Q : Exit → Act → World → Prop} {x : Operand} (hw : Region.wanted op (yielded ops a.tmps) = true) (ho : op.op = .load 125 x)
    {B : Nat} (hx : a.eval x = .pointer (some ⟨B, 0, none⟩)) {v : Value} (hl : Lay 4 w B v) (h : wpList Try.prog ops Q rest (a.put op.dst v) w) : wpList Try.prog ops Q (op :: rest) a w :=
  wpList_step fun _ hK => by rw [if_pos hw]; exact loadI ho hx hl (hK _ _ h)
theorem yieldI {ops : Array Oper} {S : World → Prop} {op : Oper} {a : Act} {x : Operand} (hw : Region.wanted op (yielded ops a.tmps) = true) (ho : op.op = .load 125 x)
    {B : Nat} (hx : a.eval x = .pointer (some ⟨B, 0, none⟩)) {v : Value} (hS : ∀ w, S w → Lay 4 w B v) : YieldsIf Try.prog ops S op v a := by
  obtain ⟨d, hu, hd⟩ := rowI
  exact yields_load_lay hu hd szI hw ho hx hS
theorem storeI {op : Oper} {a : Act} {w : World} {K : Act → World → Prop} {Q : Exit → Act → World → Prop} {x y : Operand} (ho : op.op = .store 125 x y)
    {B : Nat} (hx : a.eval x = .pointer (some ⟨B, 0, none⟩)) {v : Value} (hy : a.eval y = v) (hr : Room 4 w B) (hf : Flat 4 v)
    (h : ∀ w', w.grownBy w' (some B) → Lay 4 w' B v → Room 4 w' B → K (a.put op.dst undef) w') : op.wp Try.prog a w K Q :=
  wp_store_lay szI ho hx hy hr hf h
theorem storesI {ops : Array Oper} {rest : List Oper} {op : Oper} {a : Act} {w : World} {Q : Exit → Act → World → Prop} {x y : Operand} (hgd : op.guard = none) (ho : op.op = .store 125 x y)
    {B : Nat} (hx : a.eval x = .pointer (some ⟨B, 0, none⟩)) {v : Value} (hy : a.eval y = v) (hr : Room 4 w B) (hf : Flat 4 v)
    (h : ∀ w', w.grownBy w' (some B) → Lay 4 w' B v → Room 4 w' B → wpList Try.prog ops Q rest (a.put op.dst undef) w') : wpList Try.prog ops Q (op :: rest) a w :=
  wpList_plain hgd fun _ hK => storeI ho hx hy hr hf fun _ h1 h3 h4 => hK _ _ (h _ h1 h3 h4)
theorem boxI {op : Oper} {a : Act} {w : World} {K : Act → World → Prop} {Q : Exit → Act → World → Prop} {x : Operand} (ho : op.op = .box 125 x) {v : Value} (hy : a.eval x = v) (hf : Flat 4 v)
    (h : ∀ B w', w.heap.size ≤ B → B < w'.heap.size → Ext w w' → Lay 4 w' B v → Room 4 w' B → K (a.put op.dst (.pointer (some ⟨B, 0, none⟩))) w') : op.wp Try.prog a w K Q :=
  wp_box_lay ho hy hf h
theorem boxsI {ops : Array Oper} {rest : List Oper} {op : Oper} {a : Act} {w : World} {Q : Exit → Act → World → Prop} {x : Operand} (hgd : op.guard = none) (ho : op.op = .box 125 x) {v : Value} (hy : a.eval x = v) (hf : Flat 4 v)
    (h : ∀ B w', w.heap.size ≤ B → B < w'.heap.size → Ext w w' → Lay 4 w' B v → Room 4 w' B → wpList Try.prog ops Q rest (a.put op.dst (.pointer (some ⟨B, 0, none⟩))) w') : wpList Try.prog ops Q (op :: rest) a w :=
  wpList_plain hgd fun _ hK => boxI ho hy hf fun _ _ h0 h1 h2 h3 h4 => hK _ _ (h _ _ h0 h1 h2 h3 h4)
theorem allocI {op : Oper} {a : Act} {w : World} {K : Act → World → Prop} {Q : Exit → Act → World → Prop} (ho : op.op = .alloc 125)
    (h : ∀ B w', w.heap.size ≤ B → B < w'.heap.size → Ext w w' → Lay 4 w' B zeroIt → Room 4 w' B → K (a.put op.dst (.pointer (some ⟨B, 0, none⟩))) w') : op.wp Try.prog a w K Q := by
  obtain ⟨i, hi, hz⟩ := zrI
  exact wp_alloc_lay hi hz zeroIt_flat ho h
theorem allocsI {ops : Array Oper} {rest : List Oper} {op : Oper} {a : Act} {w : World} {Q : Exit → Act → World → Prop} (hgd : op.guard = none) (ho : op.op = .alloc 125)
    (h : ∀ B w', w.heap.size ≤ B → B < w'.heap.size → Ext w w' → Lay 4 w' B zeroIt → Room 4 w' B → wpList Try.prog ops Q rest (a.put op.dst (.pointer (some ⟨B, 0, none⟩))) w') : wpList Try.prog ops Q (op :: rest) a w :=
  wpList_plain hgd fun _ hK => allocI ho fun _ _ h0 h1 h2 h3 h4 => hK _ _ (h _ _ h0 h1 h2 h3 h4)
end Go.Proofs.Ytdfhefnjoekgbaa
