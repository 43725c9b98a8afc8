/- env's contracts: no frame (nil, or a zero one). -/
import Derived.Test.YtdkgiklbmbkdaaaEa
import Derived.Test.YtdkgiklbmbkdaaaEi
import Derived.Maps.OwnSet
import Derived.WalkSpells
namespace Go.Proofs.Ytdkgiklbmbkdaaa
open Go.ChangeShapes Go.WideShapes Go.RowKit Go.Maps Bv Fl
set_option maxHeartbeats 1000000
set_option maxRecDepth 100000
theorem cell_grown {w w' : World} {p : Addr} {u : Value} {g : Nat} (hg : w.grownBy w' (some g)) (h : w.cell? p = some u) (hne : p.block ≠ g) : w'.cell? p = some u := (grown_cell hg (World.block_lt_of_cell? _ _ h) hne).trans h
def zeroNode : Value := .agg #[.int .i64 0, .int .i64 0, .slice none 0 0, .slice none 0 0, .string ByteArray.empty, .int .i32 0, .slice none 0 0]
def zeroClo : Value := .agg #[.int .i64 0, .int .i64 0, .slice none 0 0, .slice none 0 0, .string ByteArray.empty, .int .i32 0, .slice none 0 0, .pointer none]
theorem zeroNode_flat : Flat 7 zeroNode := ⟨_, rfl, rfl, by simp [Value.oneCell']⟩
theorem zeroClo_flat : Flat 8 zeroClo := ⟨_, rfl, rfl, by simp [Value.oneCell']⟩
theorem szC : (Try.prog.info? 66).map (·.size) = some 8 := by kernel_rfl
theorem rowC : ∃ d : TypeDesc, Try.prog.underlying 66 = some d ∧ d.isRow = true := ⟨_, Try.underlying66, rfl⟩
theorem zrC : ∃ i, Try.prog.info? 66 = some i ∧ i.zero = some zeroClo := by
  have h : (Try.prog.info? 66).bind (·.zero) = some zeroClo := by kernel_rfl
  obtain ⟨i, hi, hz⟩ := Option.bind_eq_some_iff.1 h
  exact ⟨i, hi, hz⟩
theorem ldC {w : World} {B : Nat} {v : Value} (h : Lay 8 w B v) : (loadVar 66 ⟨B, 0, none⟩).run Try.prog w = .ok v w := by
  obtain ⟨d, hu, hd⟩ := rowC
  exact run_loadVar_lay hu hd szC h
theorem loadC {op : Oper} {a : Act} {w : World} {K : Act → World → Prop} {Q : Exit → Act → World → Prop} {x : Operand} (ho : op.op = .load 66 x)
    {B : Nat} (hx : a.eval x = .pointer (some ⟨B, 0, none⟩)) {v : Value} (hl : Lay 8 w B v) (h : K (a.put op.dst v) w) : op.wp Try.prog a w K Q := by
  obtain ⟨d, hu, hd⟩ := rowC
  exact wp_load_lay hu hd szC ho hx hl h
theorem loadsC {ops : Array Oper} {rest : List Oper} {op : Oper} {a : Act} {w : World} {Q : Exit → Act → World → Prop} {x : Operand} (hgd : op.guard = none) (ho : op.op = .load 66 x)
    {B : Nat} (hx : a.eval x = .pointer (some ⟨B, 0, none⟩)) {v : Value} (hl : Lay 8 w B v) (h : wpList Try.prog ops Q rest (a.put op.dst v) w) : wpList Try.prog ops Q (op :: rest) a w :=
  wpList_plain hgd fun _ hK => loadC ho hx hl (hK _ _ h)
theorem loadgC {ops : Array Oper} {rest : List Oper} {op : Oper} {a : Act} {w : World} {Q : Exit → Act → World → Prop} {x : Operand} (hw : Region.wanted op (yielded ops a.tmps) = true) (ho : op.op = .load 66 x)
    {B : Nat} (hx : a.eval x = .pointer (some ⟨B, 0, none⟩)) {v : Value} (hl : Lay 8 w B v) (h : wpList Try.prog ops Q rest (a.put op.dst v) w) : wpList Try.prog ops Q (op :: rest) a w :=
  wpList_step fun _ hK => by rw [if_pos hw]; exact loadC ho hx hl (hK _ _ h)
theorem yieldC {ops : Array Oper} {S : World → Prop} {op : Oper} {a : Act} {x : Operand} (hw : Region.wanted op (yielded ops a.tmps) = true) (ho : op.op = .load 66 x)
    {B : Nat} (hx : a.eval x = .pointer (some ⟨B, 0, none⟩)) {v : Value} (hS : ∀ w, S w → Lay 8 w B v) : YieldsIf Try.prog ops S op v a := by
  obtain ⟨d, hu, hd⟩ := rowC
  exact yields_load_lay hu hd szC hw ho hx hS
theorem storeC {op : Oper} {a : Act} {w : World} {K : Act → World → Prop} {Q : Exit → Act → World → Prop} {x y : Operand} (ho : op.op = .store 66 x y)
    {B : Nat} (hx : a.eval x = .pointer (some ⟨B, 0, none⟩)) {v : Value} (hy : a.eval y = v) (hr : Room 8 w B) (hf : Flat 8 v)
    (h : ∀ w', w.grownBy w' (some B) → Lay 8 w' B v → Room 8 w' B → K (a.put op.dst undef) w') : op.wp Try.prog a w K Q :=
  wp_store_lay szC ho hx hy hr hf h
theorem storesC {ops : Array Oper} {rest : List Oper} {op : Oper} {a : Act} {w : World} {Q : Exit → Act → World → Prop} {x y : Operand} (hgd : op.guard = none) (ho : op.op = .store 66 x y)
    {B : Nat} (hx : a.eval x = .pointer (some ⟨B, 0, none⟩)) {v : Value} (hy : a.eval y = v) (hr : Room 8 w B) (hf : Flat 8 v)
    (h : ∀ w', w.grownBy w' (some B) → Lay 8 w' B v → Room 8 w' B → wpList Try.prog ops Q rest (a.put op.dst undef) w') : wpList Try.prog ops Q (op :: rest) a w :=
  wpList_plain hgd fun _ hK => storeC ho hx hy hr hf fun _ h1 h3 h4 => hK _ _ (h _ h1 h3 h4)
theorem boxC {op : Oper} {a : Act} {w : World} {K : Act → World → Prop} {Q : Exit → Act → World → Prop} {x : Operand} (ho : op.op = .box 66 x) {v : Value} (hy : a.eval x = v) (hf : Flat 8 v)
    (h : ∀ B w', w.heap.size ≤ B → B < w'.heap.size → Ext w w' → Lay 8 w' B v → Room 8 w' B → K (a.put op.dst (.pointer (some ⟨B, 0, none⟩))) w') : op.wp Try.prog a w K Q :=
  wp_box_lay ho hy hf h
theorem boxsC {ops : Array Oper} {rest : List Oper} {op : Oper} {a : Act} {w : World} {Q : Exit → Act → World → Prop} {x : Operand} (hgd : op.guard = none) (ho : op.op = .box 66 x) {v : Value} (hy : a.eval x = v) (hf : Flat 8 v)
    (h : ∀ B w', w.heap.size ≤ B → B < w'.heap.size → Ext w w' → Lay 8 w' B v → Room 8 w' B → wpList Try.prog ops Q rest (a.put op.dst (.pointer (some ⟨B, 0, none⟩))) w') : wpList Try.prog ops Q (op :: rest) a w :=
  wpList_plain hgd fun _ hK => boxC ho hy hf fun _ _ h0 h1 h2 h3 h4 => hK _ _ (h _ _ h0 h1 h2 h3 h4)
theorem allocC {op : Oper} {a : Act} {w : World} {K : Act → World → Prop} {Q : Exit → Act → World → Prop} (ho : op.op = .alloc 66)
    (h : ∀ B w', w.heap.size ≤ B → B < w'.heap.size → Ext w w' → Lay 8 w' B zeroClo → Room 8 w' B → K (a.put op.dst (.pointer (some ⟨B, 0, none⟩))) w') : op.wp Try.prog a w K Q := by
  obtain ⟨i, hi, hz⟩ := zrC
  exact wp_alloc_lay hi hz zeroClo_flat ho h
theorem allocsC {ops : Array Oper} {rest : List Oper} {op : Oper} {a : Act} {w : World} {Q : Exit → Act → World → Prop} (hgd : op.guard = none) (ho : op.op = .alloc 66)
    (h : ∀ B w', w.heap.size ≤ B → B < w'.heap.size → Ext w w' → Lay 8 w' B zeroClo → Room 8 w' B → wpList Try.prog ops Q rest (a.put op.dst (.pointer (some ⟨B, 0, none⟩))) w') : wpList Try.prog ops Q (op :: rest) a w :=
  wpList_plain hgd fun _ hK => allocC ho fun _ _ h0 h1 h2 h3 h4 => hK _ _ (h _ _ h0 h1 h2 h3 h4)
theorem szN : (Try.prog.info? 54).map (·.size) = some 7 := by kernel_rfl
theorem rowN : ∃ d : TypeDesc, Try.prog.underlying 54 = some d ∧ d.isRow = true := ⟨_, Try.underlying54, rfl⟩
theorem zrN : ∃ i, Try.prog.info? 54 = some i ∧ i.zero = some zeroNode := by
  have h : (Try.prog.info? 54).bind (·.zero) = some zeroNode := by kernel_rfl
  obtain ⟨i, hi, hz⟩ := Option.bind_eq_some_iff.1 h
  exact ⟨i, hi, hz⟩
theorem ldN {w : World} {B : Nat} {v : Value} (h : Lay 7 w B v) : (loadVar 54 ⟨B, 0, none⟩).run Try.prog w = .ok v w := by
  obtain ⟨d, hu, hd⟩ := rowN
  exact run_loadVar_lay hu hd szN h
theorem loadN {op : Oper} {a : Act} {w : World} {K : Act → World → Prop} {Q : Exit → Act → World → Prop} {x : Operand} (ho : op.op = .load 54 x)
    {B : Nat} (hx : a.eval x = .pointer (some ⟨B, 0, none⟩)) {v : Value} (hl : Lay 7 w B v) (h : K (a.put op.dst v) w) : op.wp Try.prog a w K Q := by
  obtain ⟨d, hu, hd⟩ := rowN
  exact wp_load_lay hu hd szN ho hx hl h
theorem loadsN {ops : Array Oper} {rest : List Oper} {op : Oper} {a : Act} {w : World} {Q : Exit → Act → World → Prop} {x : Operand} (hgd : op.guard = none) (ho : op.op = .load 54 x)
    {B : Nat} (hx : a.eval x = .pointer (some ⟨B, 0, none⟩)) {v : Value} (hl : Lay 7 w B v) (h : wpList Try.prog ops Q rest (a.put op.dst v) w) : wpList Try.prog ops Q (op :: rest) a w :=
  wpList_plain hgd fun _ hK => loadN ho hx hl (hK _ _ h)
theorem loadgN {ops : Array Oper} {rest : List Oper} {op : Oper} {a : Act} {w : World} {Q : Exit → Act → World → Prop} {x : Operand} (hw : Region.wanted op (yielded ops a.tmps) = true) (ho : op.op = .load 54 x)
    {B : Nat} (hx : a.eval x = .pointer (some ⟨B, 0, none⟩)) {v : Value} (hl : Lay 7 w B v) (h : wpList Try.prog ops Q rest (a.put op.dst v) w) : wpList Try.prog ops Q (op :: rest) a w :=
  wpList_step fun _ hK => by rw [if_pos hw]; exact loadN ho hx hl (hK _ _ h)
theorem yieldN {ops : Array Oper} {S : World → Prop} {op : Oper} {a : Act} {x : Operand} (hw : Region.wanted op (yielded ops a.tmps) = true) (ho : op.op = .load 54 x)
    {B : Nat} (hx : a.eval x = .pointer (some ⟨B, 0, none⟩)) {v : Value} (hS : ∀ w, S w → Lay 7 w B v) : YieldsIf Try.prog ops S op v a := by
  obtain ⟨d, hu, hd⟩ := rowN
  exact yields_load_lay hu hd szN hw ho hx hS
theorem storeN {op : Oper} {a : Act} {w : World} {K : Act → World → Prop} {Q : Exit → Act → World → Prop} {x y : Operand} (ho : op.op = .store 54 x y)
    {B : Nat} (hx : a.eval x = .pointer (some ⟨B, 0, none⟩)) {v : Value} (hy : a.eval y = v) (hr : Room 7 w B) (hf : Flat 7 v)
    (h : ∀ w', w.grownBy w' (some B) → Lay 7 w' B v → Room 7 w' B → K (a.put op.dst undef) w') : op.wp Try.prog a w K Q :=
  wp_store_lay szN ho hx hy hr hf h
theorem storesN {ops : Array Oper} {rest : List Oper} {op : Oper} {a : Act} {w : World} {Q : Exit → Act → World → Prop} {x y : Operand} (hgd : op.guard = none) (ho : op.op = .store 54 x y)
    {B : Nat} (hx : a.eval x = .pointer (some ⟨B, 0, none⟩)) {v : Value} (hy : a.eval y = v) (hr : Room 7 w B) (hf : Flat 7 v)
    (h : ∀ w', w.grownBy w' (some B) → Lay 7 w' B v → Room 7 w' B → wpList Try.prog ops Q rest (a.put op.dst undef) w') : wpList Try.prog ops Q (op :: rest) a w :=
  wpList_plain hgd fun _ hK => storeN ho hx hy hr hf fun _ h1 h3 h4 => hK _ _ (h _ h1 h3 h4)
theorem boxN {op : Oper} {a : Act} {w : World} {K : Act → World → Prop} {Q : Exit → Act → World → Prop} {x : Operand} (ho : op.op = .box 54 x) {v : Value} (hy : a.eval x = v) (hf : Flat 7 v)
    (h : ∀ B w', w.heap.size ≤ B → B < w'.heap.size → Ext w w' → Lay 7 w' B v → Room 7 w' B → K (a.put op.dst (.pointer (some ⟨B, 0, none⟩))) w') : op.wp Try.prog a w K Q :=
  wp_box_lay ho hy hf h
theorem boxsN {ops : Array Oper} {rest : List Oper} {op : Oper} {a : Act} {w : World} {Q : Exit → Act → World → Prop} {x : Operand} (hgd : op.guard = none) (ho : op.op = .box 54 x) {v : Value} (hy : a.eval x = v) (hf : Flat 7 v)
    (h : ∀ B w', w.heap.size ≤ B → B < w'.heap.size → Ext w w' → Lay 7 w' B v → Room 7 w' B → wpList Try.prog ops Q rest (a.put op.dst (.pointer (some ⟨B, 0, none⟩))) w') : wpList Try.prog ops Q (op :: rest) a w :=
  wpList_plain hgd fun _ hK => boxN ho hy hf fun _ _ h0 h1 h2 h3 h4 => hK _ _ (h _ _ h0 h1 h2 h3 h4)
theorem allocN {op : Oper} {a : Act} {w : World} {K : Act → World → Prop} {Q : Exit → Act → World → Prop} (ho : op.op = .alloc 54)
    (h : ∀ B w', w.heap.size ≤ B → B < w'.heap.size → Ext w w' → Lay 7 w' B zeroNode → Room 7 w' B → K (a.put op.dst (.pointer (some ⟨B, 0, none⟩))) w') : op.wp Try.prog a w K Q := by
  obtain ⟨i, hi, hz⟩ := zrN
  exact wp_alloc_lay hi hz zeroNode_flat ho h
theorem allocsN {ops : Array Oper} {rest : List Oper} {op : Oper} {a : Act} {w : World} {Q : Exit → Act → World → Prop} (hgd : op.guard = none) (ho : op.op = .alloc 54)
    (h : ∀ B w', w.heap.size ≤ B → B < w'.heap.size → Ext w w' → Lay 7 w' B zeroNode → Room 7 w' B → wpList Try.prog ops Q rest (a.put op.dst (.pointer (some ⟨B, 0, none⟩))) w') : wpList Try.prog ops Q (op :: rest) a w :=
  wpList_plain hgd fun _ hK => allocN ho fun _ _ h0 h1 h2 h3 h4 => hK _ _ (h _ _ h0 h1 h2 h3 h4)
theorem lawS : Keyed Try.prog 9 := string_keyed Try.underlying9
theorem keyS {s : ByteArray} (hs : s.size ≤ maxLen) : keyOf Try.prog 9 (.string s) = some (.string s.data.toList) := WideMaps.keyOf_string_mk Try.underlying9 hs
theorem zvA (w : World) : (zeroValue 49).run Try.prog w = .ok zeroArr w := by kernel_rfl
theorem zvC (w : World) : (zeroValue 66).run Try.prog w = .ok zeroClo w := by kernel_rfl
theorem nilA {s : ByteArray} (hs : s.size ≤ maxLen) (w : World) : (Instr.lookup 59 (.map none) (.string s) true).run Try.prog w = .ok (.tuple #[zeroArr, .bool false]) w := Maps.look_nil true lawS Try.underlying59 (zvA w) (keyS hs)
theorem nilC {s : ByteArray} (hs : s.size ≤ maxLen) (w : World) : (Instr.lookup 60 (.map none) (.string s) true).run Try.prog w = .ok (.tuple #[zeroClo, .bool false]) w := Maps.look_nil true lawS Try.underlying60 (zvC w) (keyS hs)
/-- a zero frame -/
structure Zer (w : World) (B : Nat) : Prop where
  c0 : w.cell? ⟨B, 0, none⟩ = some (.pointer none)
  c1 : w.cell? ⟨B, 1, none⟩ = some (.map none)
  c2 : w.cell? ⟨B, 2, none⟩ = some (.map none)
  c3 : w.cell? ⟨B, 3, none⟩ = some (.int .i64 0)
theorem Zer.ext {w w' : World} {B : Nat} (h : Zer w B) (hx : Ext w w') : Zer w' B := ⟨cell_ext hx h.c0, cell_ext hx h.c1, cell_ext hx h.c2, cell_ext hx h.c3⟩
section
variable (w : World) (s : ByteArray) (hs : s.size ≤ maxLen) (B : Nat) (hZ : Zer w B)
theorem get_nil : Calls Try.prog 13 #[.pointer none, .string s] w fun e w' => e = .returned (.tuple #[zeroArr, .bool false]) ∧ Ext w w' := by
  have E := Ext.refl w
  go_enter Try.func13, Try.ntmps13
  have TB4 : True := trivial
  go_wp2_with (clear TB4; refine allocsA rfl rfl ?_; intro B4 w4 bB4 cB4 XB4 LB4 RB4; have z1 := XB4.size; replace E := E.trans XB4)
  go_loopw [0] (fun e wr => e = .pointer none ∧ Ext w4 wr) (fun _ _ => 0)
  case atStart => exact ⟨rfl, Ext.refl _⟩
  case round =>
    obtain ⟨rfl, HX⟩ := hrel
    have z2 := HX.size
    replace E := E.trans HX
    replace LB4 := LB4.ext HX
    replace RB4 := RB4.ext HX
    · clear HX
      have TG3 : True := trivial
      go_wp2_with (clear TG3; have hRl := (RB4).lt (Nat.zero_lt_succ _); refine storesA (B := B4) rfl rfl rfl (v := zeroArr) rfl RB4 zeroArr_flat ?_; clear LB4; intro s3 G3 LB4 RQ; have z4 := G3.size; replace E := grown_ext E G3 (by omega); clear RB4; have RB4 := RQ; clear RQ hRl)
      refine bodyPost_ret (results_lay2 rfl rfl rfl (ldA LB4)) rfl ?_
      exact ⟨rfl, E⟩
include hs hZ in
theorem get_zero : Calls Try.prog 13 #[.pointer (some ⟨B, 0, none⟩), .string s] w fun e w' => e = .returned (.tuple #[zeroArr, .bool false]) ∧ Ext w w' := by
  have C0 := hZ.c0
  have C1 := hZ.c1
  have C2 := hZ.c2
  have C3 := hZ.c3
  have hBw : B < w.heap.size := World.block_lt_of_cell? _ _ C0
  clear hZ
  have hl := fun w => nilA hs w
  have E := Ext.refl w
  go_enter Try.func13, Try.ntmps13
  have TB4 : True := trivial
  go_wp2_with (clear TB4; refine allocsA rfl rfl ?_; intro B4 w4 bB4 cB4 XB4 LB4 RB4; have z1 := XB4.size; replace E := E.trans XB4; replace C0 := cell_ext (XB4) C0; replace C1 := cell_ext (XB4) C1; replace C2 := cell_ext (XB4) C2; replace C3 := cell_ext (XB4) C3)
  go_loopw [0] (fun e wr => (e = .pointer (some ⟨B, 0, none⟩) ∨ e = .pointer none) ∧ Ext w4 wr) (fun e _ => match e with | .pointer (some _) => 1 | _ => 0)
  case atStart => exact ⟨.inl rfl, Ext.refl _⟩
  case round =>
    obtain ⟨hre, HX⟩ := hrel
    have z2 := HX.size
    replace E := E.trans HX
    replace C0 := cell_ext (HX) C0
    replace C1 := cell_ext (HX) C1
    replace C2 := cell_ext (HX) C2
    replace C3 := cell_ext (HX) C3
    replace LB4 := LB4.ext HX
    replace RB4 := RB4.ext HX
    rcases hre with rfl | rfl
    · have TB6 : True := trivial
      have TG4 : True := trivial
      go_wp2_with (first | (clear TB6; refine allocsA rfl rfl ?_; intro B6 w6 bB6 cB6 XB6 LB6 RB6; have z3 := XB6.size; replace E := E.trans XB6; replace C0 := cell_ext (XB6) C0; replace C1 := cell_ext (XB6) C1; replace C2 := cell_ext (XB6) C2; replace C3 := cell_ext (XB6) C3; replace LB4 := LB4.ext XB6; replace RB4 := RB4.ext XB6; replace HX := HX.trans XB6; clear LB6) | (clear TG4; have hRl := (RB6).lt (Nat.zero_lt_succ _); refine storesA (B := B6) rfl rfl rfl (v := zeroArr) rfl RB6 zeroArr_flat ?_; intro s4 G4 LB6 RQ; have z5 := G4.size; replace E := grown_ext E G4 (by omega); replace C0 := cell_grown (G4) C0 (by show B ≠ _; omega); replace C1 := cell_grown (G4) C1 (by show B ≠ _; omega); replace C2 := cell_grown (G4) C2 (by show B ≠ _; omega); replace C3 := cell_grown (G4) C3 (by show B ≠ _; omega); replace LB4 := LB4.grown G4 (by omega); replace RB4 := RB4.grown G4 (by omega); replace HX := grown_ext HX G4 (by omega); clear RB6; have RB6 := RQ; clear RQ hRl; clear LB6 RB6))
      exact ⟨⟨.inr rfl, HX⟩, by simp⟩
    · clear HX
      have TG6 : True := trivial
      go_wp2_with (clear TG6; have hRl := (RB4).lt (Nat.zero_lt_succ _); refine storesA (B := B4) rfl rfl rfl (v := zeroArr) rfl RB4 zeroArr_flat ?_; clear LB4; intro s6 G6 LB4 RQ; have z7 := G6.size; replace E := grown_ext E G6 (by omega); replace C0 := cell_grown (G6) C0 (by show B ≠ _; omega); replace C1 := cell_grown (G6) C1 (by show B ≠ _; omega); replace C2 := cell_grown (G6) C2 (by show B ≠ _; omega); replace C3 := cell_grown (G6) C3 (by show B ≠ _; omega); clear RB4; have RB4 := RQ; clear RQ hRl)
      refine bodyPost_ret (results_lay2 rfl rfl rfl (ldA LB4)) rfl ?_
      exact ⟨rfl, E⟩
theorem fun_nil : Calls Try.prog 14 #[.pointer none, .string s] w fun e w' => e = .returned (.tuple #[zeroClo, .bool false]) ∧ Ext w w' := by
  have E := Ext.refl w
  go_enter Try.func14, Try.ntmps14
  have TB4 : True := trivial
  go_wp2_with (clear TB4; refine allocsC rfl rfl ?_; intro B4 w4 bB4 cB4 XB4 LB4 RB4; have z1 := XB4.size; replace E := E.trans XB4)
  go_loopw [0] (fun e wr => e = .pointer none ∧ Ext w4 wr) (fun _ _ => 0)
  case atStart => exact ⟨rfl, Ext.refl _⟩
  case round =>
    obtain ⟨rfl, HX⟩ := hrel
    have z2 := HX.size
    replace E := E.trans HX
    replace LB4 := LB4.ext HX
    replace RB4 := RB4.ext HX
    · clear HX
      have TG3 : True := trivial
      go_wp2_with (clear TG3; have hRl := (RB4).lt (Nat.zero_lt_succ _); refine storesC (B := B4) rfl rfl rfl (v := zeroClo) rfl RB4 zeroClo_flat ?_; clear LB4; intro s3 G3 LB4 RQ; have z4 := G3.size; replace E := grown_ext E G3 (by omega); clear RB4; have RB4 := RQ; clear RQ hRl)
      refine bodyPost_ret (results_lay2 rfl rfl rfl (ldC LB4)) rfl ?_
      exact ⟨rfl, E⟩
include hs hZ in
theorem fun_zero : Calls Try.prog 14 #[.pointer (some ⟨B, 0, none⟩), .string s] w fun e w' => e = .returned (.tuple #[zeroClo, .bool false]) ∧ Ext w w' := by
  have C0 := hZ.c0
  have C1 := hZ.c1
  have C2 := hZ.c2
  have C3 := hZ.c3
  have hBw : B < w.heap.size := World.block_lt_of_cell? _ _ C0
  clear hZ
  have hl := fun w => nilC hs w
  have E := Ext.refl w
  go_enter Try.func14, Try.ntmps14
  have TB4 : True := trivial
  go_wp2_with (clear TB4; refine allocsC rfl rfl ?_; intro B4 w4 bB4 cB4 XB4 LB4 RB4; have z1 := XB4.size; replace E := E.trans XB4; replace C0 := cell_ext (XB4) C0; replace C1 := cell_ext (XB4) C1; replace C2 := cell_ext (XB4) C2; replace C3 := cell_ext (XB4) C3)
  go_loopw [0] (fun e wr => (e = .pointer (some ⟨B, 0, none⟩) ∨ e = .pointer none) ∧ Ext w4 wr) (fun e _ => match e with | .pointer (some _) => 1 | _ => 0)
  case atStart => exact ⟨.inl rfl, Ext.refl _⟩
  case round =>
    obtain ⟨hre, HX⟩ := hrel
    have z2 := HX.size
    replace E := E.trans HX
    replace C0 := cell_ext (HX) C0
    replace C1 := cell_ext (HX) C1
    replace C2 := cell_ext (HX) C2
    replace C3 := cell_ext (HX) C3
    replace LB4 := LB4.ext HX
    replace RB4 := RB4.ext HX
    rcases hre with rfl | rfl
    · have TB6 : True := trivial
      have TG4 : True := trivial
      go_wp2_with (first | (clear TB6; refine allocsC rfl rfl ?_; intro B6 w6 bB6 cB6 XB6 LB6 RB6; have z3 := XB6.size; replace E := E.trans XB6; replace C0 := cell_ext (XB6) C0; replace C1 := cell_ext (XB6) C1; replace C2 := cell_ext (XB6) C2; replace C3 := cell_ext (XB6) C3; replace LB4 := LB4.ext XB6; replace RB4 := RB4.ext XB6; replace HX := HX.trans XB6; clear LB6) | (clear TG4; have hRl := (RB6).lt (Nat.zero_lt_succ _); refine storesC (B := B6) rfl rfl rfl (v := zeroClo) rfl RB6 zeroClo_flat ?_; intro s4 G4 LB6 RQ; have z5 := G4.size; replace E := grown_ext E G4 (by omega); replace C0 := cell_grown (G4) C0 (by show B ≠ _; omega); replace C1 := cell_grown (G4) C1 (by show B ≠ _; omega); replace C2 := cell_grown (G4) C2 (by show B ≠ _; omega); replace C3 := cell_grown (G4) C3 (by show B ≠ _; omega); replace LB4 := LB4.grown G4 (by omega); replace RB4 := RB4.grown G4 (by omega); replace HX := grown_ext HX G4 (by omega); clear RB6; have RB6 := RQ; clear RQ hRl; clear LB6 RB6))
      exact ⟨⟨.inr rfl, HX⟩, by simp⟩
    · clear HX
      have TG6 : True := trivial
      go_wp2_with (clear TG6; have hRl := (RB4).lt (Nat.zero_lt_succ _); refine storesC (B := B4) rfl rfl rfl (v := zeroClo) rfl RB4 zeroClo_flat ?_; clear LB4; intro s6 G6 LB4 RQ; have z7 := G6.size; replace E := grown_ext E G6 (by omega); replace C0 := cell_grown (G6) C0 (by show B ≠ _; omega); replace C1 := cell_grown (G6) C1 (by show B ≠ _; omega); replace C2 := cell_grown (G6) C2 (by show B ≠ _; omega); replace C3 := cell_grown (G6) C3 (by show B ≠ _; omega); clear RB4; have RB4 := RQ; clear RQ hRl)
      refine bodyPost_ret (results_lay2 rfl rfl rfl (ldC LB4)) rfl ?_
      exact ⟨rfl, E⟩
theorem room_nil (b : Bool) : Calls Try.prog 19 #[.pointer none, .bool b] w fun e w' => e = .returned (.int .i64 3) ∧ Ext w w' := by
  have E := Ext.refl w
  go_enter Try.func19, Try.ntmps19
  go_wp2_with fail
  go_ret
  exact ⟨rfl, E⟩
include hZ in
theorem room_zero (b : Bool) : Calls Try.prog 19 #[.pointer (some ⟨B, 0, none⟩), .bool b] w fun e w' => e = .returned (.int .i64 3) ∧ Ext w w' := by
  have C0 := hZ.c0
  have C1 := hZ.c1
  have C2 := hZ.c2
  have C3 := hZ.c3
  have hBw : B < w.heap.size := World.block_lt_of_cell? _ _ C0
  clear hZ
  have hm : ∀ w, (binOp .eql 59 (.map none) (.map none)).run Try.prog w = .ok (.bool true) w := fun w => run_eql_map_nil w _ _ _ none Try.underlying59
  have E := Ext.refl w
  go_enter Try.func19, Try.ntmps19
  go_wp2_with fail
  go_ret
  exact ⟨rfl, E⟩
theorem set_nil (v : Value) (hv : Flat 9 v) : Calls Try.prog 7 #[.pointer none, .string s, v] w fun e w' => e = .returned (.int .i64 3) ∧ Ext w w' := by
  have cr := fun w => room_nil w false
  have E := Ext.refl w
  go_enter Try.func7, Try.ntmps7
  have TB5 : True := trivial
  go_wp2_with (clear TB5; refine boxsA (v := v) rfl rfl rfl hv ?_; intro B5 w5 bB5 cB5 XB5 LB5 RB5; have z1 := XB5.size; replace E := E.trans XB5; clear LB5 RB5)
  refine (cr _).mono ?_
  rintro e w22 ⟨rfl, x⟩
  have z2 := x.size
  replace E := E.trans x
  clear x
  go_wp2_with fail
  go_ret
  exact ⟨rfl, E⟩
include hs hZ in
theorem set_zero (v : Value) (hv : Flat 9 v) : Calls Try.prog 7 #[.pointer (some ⟨B, 0, none⟩), .string s, v] w fun e w' => e = .returned (.int .i64 3) ∧ Ext w w' := by
  have cr := fun w' (hx : Ext w w') => room_zero w' B (hZ.ext hx) false
  have C0 := hZ.c0
  have C1 := hZ.c1
  have C2 := hZ.c2
  have C3 := hZ.c3
  have hBw : B < w.heap.size := World.block_lt_of_cell? _ _ C0
  clear hZ
  have hl := fun w => nilA hs w
  have E := Ext.refl w
  go_enter Try.func7, Try.ntmps7
  have TB5 : True := trivial
  go_wp2_with (clear TB5; refine boxsA (v := v) rfl rfl rfl hv ?_; intro B5 w5 bB5 cB5 XB5 LB5 RB5; have z1 := XB5.size; replace E := E.trans XB5; replace C0 := cell_ext (XB5) C0; replace C1 := cell_ext (XB5) C1; replace C2 := cell_ext (XB5) C2; replace C3 := cell_ext (XB5) C3; clear LB5 RB5)
  refine (cr _ E).mono ?_
  rintro e w22 ⟨rfl, x⟩
  have z2 := x.size
  replace E := E.trans x
  replace C0 := cell_ext (x) C0
  replace C1 := cell_ext (x) C1
  replace C2 := cell_ext (x) C2
  replace C3 := cell_ext (x) C3
  clear x
  go_wp2_with fail
  go_ret
  exact ⟨rfl, E⟩
theorem bind_nil (v : Value) (hv : Flat 7 v) : Calls Try.prog 9 #[.pointer none, .string s, v] w fun e w' => e = .returned (.int .i64 3) ∧ Ext w w' := by
  have cr := fun w => room_nil w false
  have E := Ext.refl w
  go_enter Try.func9, Try.ntmps9
  have TB5 : True := trivial
  go_wp2_with (clear TB5; refine boxsN (v := v) rfl rfl rfl hv ?_; intro B5 w5 bB5 cB5 XB5 LB5 RB5; have z1 := XB5.size; replace E := E.trans XB5; clear LB5 RB5)
  refine (cr _).mono ?_
  rintro e w22 ⟨rfl, x⟩
  have z2 := x.size
  replace E := E.trans x
  clear x
  go_wp2_with fail
  go_ret
  exact ⟨rfl, E⟩
include hs hZ in
theorem bind_zero (v : Value) (hv : Flat 7 v) : Calls Try.prog 9 #[.pointer (some ⟨B, 0, none⟩), .string s, v] w fun e w' => e = .returned (.int .i64 3) ∧ Ext w w' := by
  have cr := fun w' (hx : Ext w w') => room_zero w' B (hZ.ext hx) false
  have C0 := hZ.c0
  have C1 := hZ.c1
  have C2 := hZ.c2
  have C3 := hZ.c3
  have hBw : B < w.heap.size := World.block_lt_of_cell? _ _ C0
  clear hZ
  have hl := fun w => nilC hs w
  have E := Ext.refl w
  go_enter Try.func9, Try.ntmps9
  have TB5 : True := trivial
  go_wp2_with (clear TB5; refine boxsN (v := v) rfl rfl rfl hv ?_; intro B5 w5 bB5 cB5 XB5 LB5 RB5; have z1 := XB5.size; replace E := E.trans XB5; replace C0 := cell_ext (XB5) C0; replace C1 := cell_ext (XB5) C1; replace C2 := cell_ext (XB5) C2; replace C3 := cell_ext (XB5) C3; clear LB5 RB5)
  refine (cr _ E).mono ?_
  rintro e w22 ⟨rfl, x⟩
  have z2 := x.size
  replace E := E.trans x
  replace C0 := cell_ext (x) C0
  replace C1 := cell_ext (x) C1
  replace C2 := cell_ext (x) C2
  replace C3 := cell_ext (x) C3
  clear x
  go_wp2_with fail
  go_ret
  exact ⟨rfl, E⟩
theorem deep_nil : Calls Try.prog 11 #[.pointer none] w fun e w' => e = .returned (.int .i64 0) ∧ Ext w w' := by
  have E := Ext.refl w
  go_enter Try.func11, Try.ntmps11
  go_wp2_with fail
  go_ret
  exact ⟨rfl, E⟩
include hZ in
theorem deep_zero : Calls Try.prog 11 #[.pointer (some ⟨B, 0, none⟩)] w fun e w' => e = .returned (.int .i64 0) ∧ Ext w w' := by
  have C0 := hZ.c0
  have C1 := hZ.c1
  have C2 := hZ.c2
  have C3 := hZ.c3
  have hBw : B < w.heap.size := World.block_lt_of_cell? _ _ C0
  clear hZ
  have E := Ext.refl w
  go_enter Try.func11, Try.ntmps11
  go_wp2_with fail
  go_ret
  exact ⟨rfl, E⟩
theorem names_nil : Calls Try.prog 15 #[.pointer none] w fun e w' => e = .returned (.slice none 0 0) ∧ Ext w w' := by
  have E := Ext.refl w
  go_enter Try.func15, Try.ntmps15
  go_wp2_with fail
  go_ret
  exact ⟨rfl, E⟩
theorem names_keys0 (w : World) : Calls Try.prog 26 #[.map none] w fun e w' => e = .returned (.func (.func 34) #[] #[.pointer (some ⟨w.heap.size, 0, none⟩)]) ∧ w' = w.alloc (.cells #[.map none] 59) := callsIn_wide.1 (it_maps_Keys_26 none w)
theorem names_sorted0 (w : World) : Calls Try.prog 25 #[.func (.func 34) #[] #[.pointer (some ⟨w.heap.size, 0, none⟩)]] (w.alloc (.cells #[.map none] 59)) fun e w' => e = .returned (.slice none 0 0) ∧ Ext w w' := by
  refine (callsIn_wide.1 (it_slices_Sorted_keys_nil_25_26 w)).mono ?_
  rintro e w' ⟨v, ss, rfl, hs, _, hv, hb⟩
  exact ⟨by rw [hv.2 hs], ((Ext.refl w).alloc _).trans' (hb.mono (by simp))⟩
include hZ in
theorem names_zero : Calls Try.prog 15 #[.pointer (some ⟨B, 0, none⟩)] w fun e w' => e = .returned (.slice none 0 0) ∧ Ext w w' := by
  have C0 := hZ.c0
  have C1 := hZ.c1
  have C2 := hZ.c2
  have C3 := hZ.c3
  have hBw : B < w.heap.size := World.block_lt_of_cell? _ _ C0
  clear hZ
  have ck := names_keys0
  have cs := names_sorted0
  have E := Ext.refl w
  go_enter Try.func15, Try.ntmps15
  go_wp2_with fail
  refine (ck _).mono ?_
  rintro e w9 ⟨rfl, rfl⟩
  go_wp2_with fail
  refine (cs _).mono ?_
  rintro e w10 ⟨rfl, x⟩
  have z1 := x.size
  replace E := E.trans x
  replace C0 := cell_ext (x) C0
  replace C1 := cell_ext (x) C1
  replace C2 := cell_ext (x) C2
  replace C3 := cell_ext (x) C3
  clear x
  go_wp2_with fail
  go_ret
  exact ⟨rfl, E⟩
theorem funs_nil : Calls Try.prog 16 #[.pointer none] w fun e w' => e = .returned (.slice none 0 0) ∧ Ext w w' := by
  have E := Ext.refl w
  go_enter Try.func16, Try.ntmps16
  go_wp2_with fail
  go_ret
  exact ⟨rfl, E⟩
theorem funs_keys0 (w : World) : Calls Try.prog 27 #[.map none] w fun e w' => e = .returned (.func (.func 35) #[] #[.pointer (some ⟨w.heap.size, 0, none⟩)]) ∧ w' = w.alloc (.cells #[.map none] 60) := callsIn_wide.1 (it_maps_Keys_27 none w)
theorem funs_sorted0 (w : World) : Calls Try.prog 25 #[.func (.func 35) #[] #[.pointer (some ⟨w.heap.size, 0, none⟩)]] (w.alloc (.cells #[.map none] 60)) fun e w' => e = .returned (.slice none 0 0) ∧ Ext w w' := by
  refine (callsIn_wide.1 (it_slices_Sorted_keys_nil_25_27 w)).mono ?_
  rintro e w' ⟨v, ss, rfl, hs, _, hv, hb⟩
  exact ⟨by rw [hv.2 hs], ((Ext.refl w).alloc _).trans' (hb.mono (by simp))⟩
include hZ in
theorem funs_zero : Calls Try.prog 16 #[.pointer (some ⟨B, 0, none⟩)] w fun e w' => e = .returned (.slice none 0 0) ∧ Ext w w' := by
  have C0 := hZ.c0
  have C1 := hZ.c1
  have C2 := hZ.c2
  have C3 := hZ.c3
  have hBw : B < w.heap.size := World.block_lt_of_cell? _ _ C0
  clear hZ
  have ck := funs_keys0
  have cs := funs_sorted0
  have E := Ext.refl w
  go_enter Try.func16, Try.ntmps16
  go_wp2_with fail
  refine (ck _).mono ?_
  rintro e w9 ⟨rfl, rfl⟩
  go_wp2_with fail
  refine (cs _).mono ?_
  rintro e w10 ⟨rfl, x⟩
  have z1 := x.size
  replace E := E.trans x
  replace C0 := cell_ext (x) C0
  replace C1 := cell_ext (x) C1
  replace C2 := cell_ext (x) C2
  replace C3 := cell_ext (x) C3
  clear x
  go_wp2_with fail
  go_ret
  exact ⟨rfl, E⟩
end
end Go.Proofs.Ytdkgiklbmbkdaaa
