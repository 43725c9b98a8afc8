/- rebusref33's Set and Get; rebusref01.Texts. -/
import Derived.Test.YtdkgiklbmbkdaaaEl
namespace Go.Proofs.Ytdkgiklbmbkdaaa
open Go.ChangeShapes Go.WideShapes Go.RowKit Go.Maps Bv Fl
set_option maxHeartbeats 1000000
set_option maxRecDepth 100000
section
variable {P : Program} {ty : TypeId}
theorem run_storeVar_one (hi : (P.info? ty).map (·.size) = some 1) {w : World} {g k : Nat} {v u : Value} (h1 : v.oneCell' = true) (hc : w.cell? ⟨g, k, none⟩ = some u) (hf : w.frozen? ⟨g, k, none⟩ = false) : (storeVar ty ⟨g, k, none⟩ v).run P w = .ok () (w.setCell ⟨g, k, none⟩ v) := by
  have hv : v.cells = #[v] := by cases v <;> first | rfl | (simp [Value.oneCell'] at h1)
  have h0 : (⟨g, k, none⟩ : Addr).add 0 = ⟨g, k, none⟩ := by unfold Addr.add; rfl
  cases hq : P.info? ty with
  | none => simp [hq] at hi
  | some i =>
    have hs : i.size = 1 := by simpa [hq] using hi
    simp [storeVar, sizeOf, typeInfo, hq, hv, hs, storeCells, h0, run_store P w ⟨g, k, none⟩ v _ h1, hc, hf]
end
section
variable {P : Program} {ty : TypeId}
theorem run_storeVar_field (hi : (P.info? ty).map (·.size) = some 1) {n : Nat} {w : World} {B j : Nat} {cs cs' : Array Value} {v : Value} (h1 : v.oneCell' = true) (hl : Lay n w B (.agg cs)) (hr : Room n w B) (hj : j < n) (hcs : cs' = cs.setIfInBounds j v) :
    ∃ w', (storeVar ty ⟨B, j, none⟩ v).run P w = .ok () w' ∧ w.grownBy w' (some B) ∧ Lay n w' B (.agg cs') ∧ Room n w' B := by
  subst hcs
  obtain ⟨u, hu⟩ := Option.isSome_iff_exists.1 (hr j hj).1
  have hf := (hr j hj).2
  rw [Nat.zero_add] at hu hf
  refine ⟨w.setCells B j [v], run_storeVar_one hi h1 hu hf, grown_set (World.grownBy.refl w _) v, ?_, World.there_setCells hr B j [v]⟩
  obtain ⟨cs', e, hn, hc⟩ := hl
  cases e
  refine ⟨_, rfl, by simpa using hn, fun k x hk => ?_⟩
  rw [Array.toList_setIfInBounds] at hk
  by_cases e : k = j
  · subst e
    have hx : x = v := by
      rw [List.getElem?_set_self (by rw [Array.length_toList, hn]; exact hj)] at hk
      exact (Option.some.inj hk).symm
    subst hx
    have := World.cell?_setCells_in B [x] k w (fun i hi => by
      have h0 : i = 0 := by simpa using hi
      subst h0
      rw [Nat.add_zero, hu]; rfl) 0 (by simp)
    rw [Nat.zero_add]
    simpa using this
  · rw [List.getElem?_set_ne (fun h => e h.symm)] at hk
    rw [World.cell?_setCells_out B [v] j w _ (fun _ _ => by simp; omega)]
    exact hc k x hk
theorem wp_store_field (hi : (P.info? ty).map (·.size) = some 1) {n : Nat} {op : Oper} {a : Act} {w : World} {K : Act → World → Prop} {Q : Exit → Act → World → Prop} {x y : Operand} (ho : op.op = .store ty x y)
    {B j : Nat} (hx : a.eval x = .pointer (some ⟨B, j, none⟩)) {v : Value} (hy : a.eval y = v) {cs cs' : Array Value} (h1 : v.oneCell' = true) (hl : Lay n w B (.agg cs)) (hr : Room n w B) (hj : j < n) (hcs : cs' = cs.setIfInBounds j v)
    (h : ∀ w', w.grownBy w' (some B) → Lay n w' B (.agg cs') → Room n w' B → K (a.put op.dst undef) w') : op.wp P a w K Q := by
  obtain ⟨w', hrun, h2, h3, h4⟩ := run_storeVar_field (P := P) (ty := ty) hi h1 hl hr hj hcs
  unfold Oper.wp execOp
  simp only [ho, hx, hy, Instr.storeAt, Instr.sureAddr, Sem.run_bind, Sem.run_pure, Result.andThen_ok, hrun]
  exact h w' h2 h3 h4
end
theorem fszprs : (Try.prog.info? 31).map (·.size) = some 1 := by kernel_rfl
theorem sfield_prs {n : Nat} {ops : Array Oper} {rest : List Oper} {op : Oper} {a : Act} {w : World} {Q : Exit → Act → World → Prop} (hgd : op.guard = none) {x y : Operand} (ho : op.op = .store 31 x y)
    {B j : Nat} (hx : a.eval x = .pointer (some ⟨B, j, none⟩)) {v : Value} (hy : a.eval y = v) {cs cs' : Array Value} (h1 : v.oneCell' = true) (hl : Lay n w B (.agg cs)) (hr : Room n w B) (hj : j < n) (hcs : cs' = cs.setIfInBounds j v)
    (h : ∀ w', w.grownBy w' (some B) → Lay n w' B (.agg cs') → Room n w' B → wpList Try.prog ops Q rest (a.put op.dst undef) w') : wpList Try.prog ops Q (op :: rest) a w :=
  wpList_plain hgd fun _ hK => wp_store_field fszprs ho hx hy h1 hl hr hj hcs fun _ h1 h3 h4 => hK _ _ (h _ h1 h3 h4)
def zeroFr : Value := .agg #[.slice none 0 0, .slice none 0 0]
theorem zeroFr_flat : Flat 2 zeroFr := ⟨_, rfl, rfl, by simp [Value.oneCell']⟩
theorem fr_flat (a : Option Addr) (n c : Nat) (b : Option Addr) (m d : Nat) : Flat 2 (.agg #[.slice a n c, .slice b m d]) := ⟨_, rfl, rfl, by simp [Value.oneCell']⟩
def zeroAct : Value := .agg #[.int .i64 0, .int .u8 0, .string ByteArray.empty, .int .u8 0]
theorem zeroAct_flat : Flat 4 zeroAct := ⟨_, rfl, rfl, by simp [Value.oneCell']⟩
theorem act_flat (k : Int) (f : Int) (s : ByteArray) (n : Int) : Flat 4 (.agg #[.int .i64 k, .int .u8 f, .string s, .int .u8 n]) := ⟨_, rfl, rfl, by simp [Value.oneCell']⟩
theorem szF : (Try.prog.info? 33).map (·.size) = some 2 := by kernel_rfl
theorem rowF : ∃ d : TypeDesc, Try.prog.underlying 33 = some d ∧ d.isRow = true := ⟨_, Try.underlying33, rfl⟩
theorem zrF : ∃ i, Try.prog.info? 33 = some i ∧ i.zero = some zeroFr := by
  have h : (Try.prog.info? 33).bind (·.zero) = some zeroFr := by kernel_rfl
  obtain ⟨i, hi, hz⟩ := Option.bind_eq_some_iff.1 h
  exact ⟨i, hi, hz⟩
theorem ldF {w : World} {B : Nat} {v : Value} (h : Lay 2 w B v) : (loadVar 33 ⟨B, 0, none⟩).run Try.prog w = .ok v w := by
  obtain ⟨d, hu, hd⟩ := rowF
  exact run_loadVar_lay hu hd szF h
theorem loadF {op : Oper} {a : Act} {w : World} {K : Act → World → Prop} {Q : Exit → Act → World → Prop} {x : Operand} (ho : op.op = .load 33 x)
    {B : Nat} (hx : a.eval x = .pointer (some ⟨B, 0, none⟩)) {v : Value} (hl : Lay 2 w B v) (h : K (a.put op.dst v) w) : op.wp Try.prog a w K Q := by
  obtain ⟨d, hu, hd⟩ := rowF
  exact wp_load_lay hu hd szF ho hx hl h
theorem loadsF {ops : Array Oper} {rest : List Oper} {op : Oper} {a : Act} {w : World} {Q : Exit → Act → World → Prop} {x : Operand} (hgd : op.guard = none) (ho : op.op = .load 33 x)
    {B : Nat} (hx : a.eval x = .pointer (some ⟨B, 0, none⟩)) {v : Value} (hl : Lay 2 w B v) (h : wpList Try.prog ops Q rest (a.put op.dst v) w) : wpList Try.prog ops Q (op :: rest) a w :=
  wpList_plain hgd fun _ hK => loadF ho hx hl (hK _ _ h)
theorem yieldF {ops : Array Oper} {S : World → Prop} {op : Oper} {a : Act} {x : Operand} (hw : Region.wanted op (yielded ops a.tmps) = true) (ho : op.op = .load 33 x)
    {B : Nat} (hx : a.eval x = .pointer (some ⟨B, 0, none⟩)) {v : Value} (hS : ∀ w, S w → Lay 2 w B v) : YieldsIf Try.prog ops S op v a := by
  obtain ⟨d, hu, hd⟩ := rowF
  exact yields_load_lay hu hd szF hw ho hx hS
theorem storeF {op : Oper} {a : Act} {w : World} {K : Act → World → Prop} {Q : Exit → Act → World → Prop} {x y : Operand} (ho : op.op = .store 33 x y)
    {B : Nat} (hx : a.eval x = .pointer (some ⟨B, 0, none⟩)) {v : Value} (hy : a.eval y = v) (hr : Room 2 w B) (hf : Flat 2 v)
    (h : ∀ w', w.grownBy w' (some B) → Lay 2 w' B v → Room 2 w' B → K (a.put op.dst undef) w') : op.wp Try.prog a w K Q :=
  wp_store_lay szF ho hx hy hr hf h
theorem storesF {ops : Array Oper} {rest : List Oper} {op : Oper} {a : Act} {w : World} {Q : Exit → Act → World → Prop} {x y : Operand} (hgd : op.guard = none) (ho : op.op = .store 33 x y)
    {B : Nat} (hx : a.eval x = .pointer (some ⟨B, 0, none⟩)) {v : Value} (hy : a.eval y = v) (hr : Room 2 w B) (hf : Flat 2 v)
    (h : ∀ w', w.grownBy w' (some B) → Lay 2 w' B v → Room 2 w' B → wpList Try.prog ops Q rest (a.put op.dst undef) w') : wpList Try.prog ops Q (op :: rest) a w :=
  wpList_plain hgd fun _ hK => storeF ho hx hy hr hf fun _ h1 h3 h4 => hK _ _ (h _ h1 h3 h4)
theorem boxF {op : Oper} {a : Act} {w : World} {K : Act → World → Prop} {Q : Exit → Act → World → Prop} {x : Operand} (ho : op.op = .box 33 x) {v : Value} (hy : a.eval x = v) (hf : Flat 2 v)
    (h : ∀ B w', w.heap.size ≤ B → B < w'.heap.size → Ext w w' → Lay 2 w' B v → Room 2 w' B → K (a.put op.dst (.pointer (some ⟨B, 0, none⟩))) w') : op.wp Try.prog a w K Q :=
  wp_box_lay ho hy hf h
theorem boxsF {ops : Array Oper} {rest : List Oper} {op : Oper} {a : Act} {w : World} {Q : Exit → Act → World → Prop} {x : Operand} (hgd : op.guard = none) (ho : op.op = .box 33 x) {v : Value} (hy : a.eval x = v) (hf : Flat 2 v)
    (h : ∀ B w', w.heap.size ≤ B → B < w'.heap.size → Ext w w' → Lay 2 w' B v → Room 2 w' B → wpList Try.prog ops Q rest (a.put op.dst (.pointer (some ⟨B, 0, none⟩))) w') : wpList Try.prog ops Q (op :: rest) a w :=
  wpList_plain hgd fun _ hK => boxF ho hy hf fun _ _ h0 h1 h2 h3 h4 => hK _ _ (h _ _ h0 h1 h2 h3 h4)
theorem allocF {op : Oper} {a : Act} {w : World} {K : Act → World → Prop} {Q : Exit → Act → World → Prop} (ho : op.op = .alloc 33)
    (h : ∀ B w', w.heap.size ≤ B → B < w'.heap.size → Ext w w' → Lay 2 w' B zeroFr → Room 2 w' B → K (a.put op.dst (.pointer (some ⟨B, 0, none⟩))) w') : op.wp Try.prog a w K Q := by
  obtain ⟨i, hi, hz⟩ := zrF
  exact wp_alloc_lay hi hz zeroFr_flat ho h
theorem allocsF {ops : Array Oper} {rest : List Oper} {op : Oper} {a : Act} {w : World} {Q : Exit → Act → World → Prop} (hgd : op.guard = none) (ho : op.op = .alloc 33)
    (h : ∀ B w', w.heap.size ≤ B → B < w'.heap.size → Ext w w' → Lay 2 w' B zeroFr → Room 2 w' B → wpList Try.prog ops Q rest (a.put op.dst (.pointer (some ⟨B, 0, none⟩))) w') : wpList Try.prog ops Q (op :: rest) a w :=
  wpList_plain hgd fun _ hK => allocF ho fun _ _ h0 h1 h2 h3 h4 => hK _ _ (h _ _ h0 h1 h2 h3 h4)
theorem szT : (Try.prog.info? 29).map (·.size) = some 4 := by kernel_rfl
theorem rowT : ∃ d : TypeDesc, Try.prog.underlying 29 = some d ∧ d.isRow = true := ⟨_, Try.underlying29, rfl⟩
theorem zrT : ∃ i, Try.prog.info? 29 = some i ∧ i.zero = some zeroAct := by
  have h : (Try.prog.info? 29).bind (·.zero) = some zeroAct := by kernel_rfl
  obtain ⟨i, hi, hz⟩ := Option.bind_eq_some_iff.1 h
  exact ⟨i, hi, hz⟩
theorem ldT {w : World} {B : Nat} {v : Value} (h : Lay 4 w B v) : (loadVar 29 ⟨B, 0, none⟩).run Try.prog w = .ok v w := by
  obtain ⟨d, hu, hd⟩ := rowT
  exact run_loadVar_lay hu hd szT h
theorem loadT {op : Oper} {a : Act} {w : World} {K : Act → World → Prop} {Q : Exit → Act → World → Prop} {x : Operand} (ho : op.op = .load 29 x)
    {B : Nat} (hx : a.eval x = .pointer (some ⟨B, 0, none⟩)) {v : Value} (hl : Lay 4 w B v) (h : K (a.put op.dst v) w) : op.wp Try.prog a w K Q := by
  obtain ⟨d, hu, hd⟩ := rowT
  exact wp_load_lay hu hd szT ho hx hl h
theorem loadsT {ops : Array Oper} {rest : List Oper} {op : Oper} {a : Act} {w : World} {Q : Exit → Act → World → Prop} {x : Operand} (hgd : op.guard = none) (ho : op.op = .load 29 x)
    {B : Nat} (hx : a.eval x = .pointer (some ⟨B, 0, none⟩)) {v : Value} (hl : Lay 4 w B v) (h : wpList Try.prog ops Q rest (a.put op.dst v) w) : wpList Try.prog ops Q (op :: rest) a w :=
  wpList_plain hgd fun _ hK => loadT ho hx hl (hK _ _ h)
theorem yieldT {ops : Array Oper} {S : World → Prop} {op : Oper} {a : Act} {x : Operand} (hw : Region.wanted op (yielded ops a.tmps) = true) (ho : op.op = .load 29 x)
    {B : Nat} (hx : a.eval x = .pointer (some ⟨B, 0, none⟩)) {v : Value} (hS : ∀ w, S w → Lay 4 w B v) : YieldsIf Try.prog ops S op v a := by
  obtain ⟨d, hu, hd⟩ := rowT
  exact yields_load_lay hu hd szT hw ho hx hS
theorem storeT {op : Oper} {a : Act} {w : World} {K : Act → World → Prop} {Q : Exit → Act → World → Prop} {x y : Operand} (ho : op.op = .store 29 x y)
    {B : Nat} (hx : a.eval x = .pointer (some ⟨B, 0, none⟩)) {v : Value} (hy : a.eval y = v) (hr : Room 4 w B) (hf : Flat 4 v)
    (h : ∀ w', w.grownBy w' (some B) → Lay 4 w' B v → Room 4 w' B → K (a.put op.dst undef) w') : op.wp Try.prog a w K Q :=
  wp_store_lay szT ho hx hy hr hf h
theorem storesT {ops : Array Oper} {rest : List Oper} {op : Oper} {a : Act} {w : World} {Q : Exit → Act → World → Prop} {x y : Operand} (hgd : op.guard = none) (ho : op.op = .store 29 x y)
    {B : Nat} (hx : a.eval x = .pointer (some ⟨B, 0, none⟩)) {v : Value} (hy : a.eval y = v) (hr : Room 4 w B) (hf : Flat 4 v)
    (h : ∀ w', w.grownBy w' (some B) → Lay 4 w' B v → Room 4 w' B → wpList Try.prog ops Q rest (a.put op.dst undef) w') : wpList Try.prog ops Q (op :: rest) a w :=
  wpList_plain hgd fun _ hK => storeT ho hx hy hr hf fun _ h1 h3 h4 => hK _ _ (h _ h1 h3 h4)
theorem boxT {op : Oper} {a : Act} {w : World} {K : Act → World → Prop} {Q : Exit → Act → World → Prop} {x : Operand} (ho : op.op = .box 29 x) {v : Value} (hy : a.eval x = v) (hf : Flat 4 v)
    (h : ∀ B w', w.heap.size ≤ B → B < w'.heap.size → Ext w w' → Lay 4 w' B v → Room 4 w' B → K (a.put op.dst (.pointer (some ⟨B, 0, none⟩))) w') : op.wp Try.prog a w K Q :=
  wp_box_lay ho hy hf h
theorem boxsT {ops : Array Oper} {rest : List Oper} {op : Oper} {a : Act} {w : World} {Q : Exit → Act → World → Prop} {x : Operand} (hgd : op.guard = none) (ho : op.op = .box 29 x) {v : Value} (hy : a.eval x = v) (hf : Flat 4 v)
    (h : ∀ B w', w.heap.size ≤ B → B < w'.heap.size → Ext w w' → Lay 4 w' B v → Room 4 w' B → wpList Try.prog ops Q rest (a.put op.dst (.pointer (some ⟨B, 0, none⟩))) w') : wpList Try.prog ops Q (op :: rest) a w :=
  wpList_plain hgd fun _ hK => boxT ho hy hf fun _ _ h0 h1 h2 h3 h4 => hK _ _ (h _ _ h0 h1 h2 h3 h4)
theorem allocT {op : Oper} {a : Act} {w : World} {K : Act → World → Prop} {Q : Exit → Act → World → Prop} (ho : op.op = .alloc 29)
    (h : ∀ B w', w.heap.size ≤ B → B < w'.heap.size → Ext w w' → Lay 4 w' B zeroAct → Room 4 w' B → K (a.put op.dst (.pointer (some ⟨B, 0, none⟩))) w') : op.wp Try.prog a w K Q := by
  obtain ⟨i, hi, hz⟩ := zrT
  exact wp_alloc_lay hi hz zeroAct_flat ho h
theorem allocsT {ops : Array Oper} {rest : List Oper} {op : Oper} {a : Act} {w : World} {Q : Exit → Act → World → Prop} (hgd : op.guard = none) (ho : op.op = .alloc 29)
    (h : ∀ B w', w.heap.size ≤ B → B < w'.heap.size → Ext w w' → Lay 4 w' B zeroAct → Room 4 w' B → wpList Try.prog ops Q rest (a.put op.dst (.pointer (some ⟨B, 0, none⟩))) w') : wpList Try.prog ops Q (op :: rest) a w :=
  wpList_plain hgd fun _ hK => allocT ho fun _ _ h0 h1 h2 h3 h4 => hK _ _ (h _ _ h0 h1 h2 h3 h4)
theorem SlS.mono {w : World} {s n : Nat} {A : Option Addr} {xs : List Value} {S S' : Nat → Prop} (h : SlS w s A n xs S) (hS : ∀ i, i < w.heap.size → S i → S' i) : SlS w s A n xs S' := fun w2 hs hk => h w2 hs fun i hi h1 => hk i hi (hS i hi h1)
theorem rset_v_yes (A : Option Addr) (n c : Nat) (A2 : Option Addr) (n2 c2 : Nat) (V F : List Pr) (s : ByteArray) (z : Int) (w : World) (hn : Hid (n = V.length)) (hn2 : Hid (n2 = F.length)) (hb : n ≤ 1000) (hb2 : n2 ≤ 1000) (HV : Sl w 2 A n (prc V)) (HF : Sl w 2 A2 n2 (prc F)) (hs : HasN V s) : Calls Try.prog 6 #[(.agg #[.slice A n c, .slice A2 n2 c2]), .string s, .int .i64 z, .bool false] w fun e w' => ∃ B m b, e = .returned (.tuple #[.agg #[.slice B m b, .slice A2 n2 c2], .int .i64 0]) ∧ Hid (m = (putR V s z).length) ∧ SlS w' 2 B m (prc (putR V s z)) (New w.heap.size) ∧ Ext w w' := by
  have SV := SlS.all HV
  have SF := SlS.all HF
  clear HV HF
  have _u := And.intro hn (And.intro hn2 (And.intro hb hb2))
  clear _u
  have cf := fun i (h : Fnd V n s i) => fnd_yes h hn.out hs
  have E := Ext.refl w
  go_enter Try.func6, Try.ntmps6
  have TB4 : True := trivial
  have TB8 : True := trivial
  go_wp2_with (first | (clear TB4; refine boxsF (v := (.agg #[.slice A n c, .slice A2 n2 c2])) rfl rfl rfl (fr_flat _ _ _ _ _ _) ?_; intro B4 w4 bB4 cB4 XB4 LB4 RB4; have z1 := XB4.size; replace E := E.trans XB4; replace SV := SV.ext XB4; replace SF := SF.ext XB4; have cB4_0 := lay_cell LB4 (j := 0) rfl; have cB4_1 := lay_cell LB4 (j := 1) rfl) | (clear TB8; refine allocsF rfl rfl ?_; intro B8 w8 bB8 cB8 XB8 LB8 RB8; have z2 := XB8.size; replace E := E.trans XB8; replace SV := SV.ext XB8; replace SF := SF.ext XB8; replace LB4 := LB4.ext XB8; replace RB4 := RB4.ext XB8; replace cB4_0 := cell_ext (XB8) cB4_0; replace cB4_1 := cell_ext (XB8) cB4_1))
  refine (find_any A n c V s _ hn (by omega) SV.is).mono ?_
  rintro e w14 ⟨i, rfl, hf, x⟩
  have hi := cf i hf
  clear cf hf
  obtain ⟨k, hk, rfl, -⟩ := hi
  have z3 := x.size
  replace E := E.trans x
  replace SV := SV.ext x
  replace SF := SF.ext x
  replace LB4 := LB4.ext x
  replace RB4 := RB4.ext x
  replace cB4_0 := cell_ext (x) cB4_0
  replace cB4_1 := cell_ext (x) cB4_1
  replace LB8 := LB8.ext x
  replace RB8 := RB8.ext x
  clear x
  go_wp2_with fail
  refine (put_any A n c V s z _ hn (by omega) SV.is).mono ?_
  rintro e w44 ⟨B, m, b, rfl, hm, HR, x⟩
  clear SV SF
  have z4 := x.size
  replace E := E.trans x
  replace LB4 := LB4.ext x
  replace RB4 := RB4.ext x
  replace cB4_0 := cell_ext (x) cB4_0
  replace cB4_1 := cell_ext (x) cB4_1
  replace LB8 := LB8.ext x
  replace RB8 := RB8.ext x
  clear x
  have TG5 : True := trivial
  have TG7 : True := trivial
  go_wp2_with (first | (clear TG5; have hRl := (RB4).lt (Nat.zero_lt_succ _); refine sfield_prs rfl rfl (B := B4) (j := 0) (v := .slice B m b) (cs' := #[.slice B m b, .slice A2 n2 c2]) rfl rfl rfl LB4 RB4 (by omega) rfl ?_; clear LB4; clear cB4_0 cB4_1; intro s5 G5 LB4 RQ; have z6 := G5.size; replace E := grown_ext E G5 (by omega); replace LB8 := LB8.grown G5 (by omega); replace RB8 := RB8.grown G5 (by omega); replace HR := HR.grown G5 (by first | omega | (dsimp only [New]; omega)); clear RB4; have RB4 := RQ; clear RQ hRl G5; have cB4_0 := lay_cell LB4 (j := 0) rfl; have cB4_1 := lay_cell LB4 (j := 1) rfl) | (refine loadsF (B := B4) (by rfl) rfl rfl LB4 ?_) | (clear TG7; have hRl := (RB8).lt (Nat.zero_lt_succ _); refine storesF (B := B8) rfl rfl rfl (v := (.agg #[.slice B m b, .slice A2 n2 c2])) rfl RB8 (fr_flat _ _ _ _ _ _) ?_; clear LB8; intro s7 G7 LB8 RQ; have z8 := G7.size; replace E := grown_ext E G7 (by omega); replace LB4 := LB4.grown G7 (by omega); replace RB4 := RB4.grown G7 (by omega); replace HR := HR.grown G7 (by first | omega | (dsimp only [New]; omega)); replace cB4_0 := cell_grown (G7) cB4_0 (by show B4 ≠ _; omega); replace cB4_1 := cell_grown (G7) cB4_1 (by show B4 ≠ _; omega); clear RB8; have RB8 := RQ; clear RQ hRl))
  refine bodyPost_ret (results_lay2 rfl rfl rfl (ldF LB8)) rfl ?_
  exact ⟨B, m, b, rfl, hm, HR.mono (fun i hi h => by dsimp only [New] at *; omega), E⟩
theorem rset_v_no (A : Option Addr) (n c : Nat) (A2 : Option Addr) (n2 c2 : Nat) (V F : List Pr) (s : ByteArray) (z : Int) (w : World) (hn : Hid (n = V.length)) (hn2 : Hid (n2 = F.length)) (hb : n ≤ 1000) (hb2 : n2 ≤ 1000) (HV : Sl w 2 A n (prc V)) (HF : Sl w 2 A2 n2 (prc F)) (hs : ¬ HasN V s) (hsz : n + n2 < 64) : Calls Try.prog 6 #[(.agg #[.slice A n c, .slice A2 n2 c2]), .string s, .int .i64 z, .bool false] w fun e w' => ∃ B m b, e = .returned (.tuple #[.agg #[.slice B m b, .slice A2 n2 c2], .int .i64 0]) ∧ Hid (m = (putR V s z).length) ∧ SlS w' 2 B m (prc (putR V s z)) (New w.heap.size) ∧ Ext w w' := by
  have SV := SlS.all HV
  have SF := SlS.all HF
  clear HV HF
  have _u := And.intro hn (And.intro hn2 (And.intro hb hb2))
  clear _u
  have cf := fun i (h : Fnd V n s i) => fnd_no h hn.out hs
  have E := Ext.refl w
  go_enter Try.func6, Try.ntmps6
  have TB4 : True := trivial
  have TB8 : True := trivial
  go_wp2_with (first | (clear TB4; refine boxsF (v := (.agg #[.slice A n c, .slice A2 n2 c2])) rfl rfl rfl (fr_flat _ _ _ _ _ _) ?_; intro B4 w4 bB4 cB4 XB4 LB4 RB4; have z1 := XB4.size; replace E := E.trans XB4; replace SV := SV.ext XB4; replace SF := SF.ext XB4; have cB4_0 := lay_cell LB4 (j := 0) rfl; have cB4_1 := lay_cell LB4 (j := 1) rfl) | (clear TB8; refine allocsF rfl rfl ?_; intro B8 w8 bB8 cB8 XB8 LB8 RB8; have z2 := XB8.size; replace E := E.trans XB8; replace SV := SV.ext XB8; replace SF := SF.ext XB8; replace LB4 := LB4.ext XB8; replace RB4 := RB4.ext XB8; replace cB4_0 := cell_ext (XB8) cB4_0; replace cB4_1 := cell_ext (XB8) cB4_1))
  refine (find_any A n c V s _ hn (by omega) SV.is).mono ?_
  rintro e w14 ⟨i, rfl, hf, x⟩
  have hi := cf i hf
  clear cf hf
  subst hi
  have z3 := x.size
  replace E := E.trans x
  replace SV := SV.ext x
  replace SF := SF.ext x
  replace LB4 := LB4.ext x
  replace RB4 := RB4.ext x
  replace cB4_0 := cell_ext (x) cB4_0
  replace cB4_1 := cell_ext (x) cB4_1
  replace LB8 := LB8.ext x
  replace RB8 := RB8.ext x
  clear x
  go_wp2_with fail
  refine (put_any A n c V s z _ hn (by omega) SV.is).mono ?_
  rintro e w44 ⟨B, m, b, rfl, hm, HR, x⟩
  clear SV SF
  have z4 := x.size
  replace E := E.trans x
  replace LB4 := LB4.ext x
  replace RB4 := RB4.ext x
  replace cB4_0 := cell_ext (x) cB4_0
  replace cB4_1 := cell_ext (x) cB4_1
  replace LB8 := LB8.ext x
  replace RB8 := RB8.ext x
  clear x
  have TG5 : True := trivial
  have TG7 : True := trivial
  go_wp2_with (first | (clear TG5; have hRl := (RB4).lt (Nat.zero_lt_succ _); refine sfield_prs rfl rfl (B := B4) (j := 0) (v := .slice B m b) (cs' := #[.slice B m b, .slice A2 n2 c2]) rfl rfl rfl LB4 RB4 (by omega) rfl ?_; clear LB4; clear cB4_0 cB4_1; intro s5 G5 LB4 RQ; have z6 := G5.size; replace E := grown_ext E G5 (by omega); replace LB8 := LB8.grown G5 (by omega); replace RB8 := RB8.grown G5 (by omega); replace HR := HR.grown G5 (by first | omega | (dsimp only [New]; omega)); clear RB4; have RB4 := RQ; clear RQ hRl G5; have cB4_0 := lay_cell LB4 (j := 0) rfl; have cB4_1 := lay_cell LB4 (j := 1) rfl) | (refine loadsF (B := B4) (by rfl) rfl rfl LB4 ?_) | (clear TG7; have hRl := (RB8).lt (Nat.zero_lt_succ _); refine storesF (B := B8) rfl rfl rfl (v := (.agg #[.slice B m b, .slice A2 n2 c2])) rfl RB8 (fr_flat _ _ _ _ _ _) ?_; clear LB8; intro s7 G7 LB8 RQ; have z8 := G7.size; replace E := grown_ext E G7 (by omega); replace LB4 := LB4.grown G7 (by omega); replace RB4 := RB4.grown G7 (by omega); replace HR := HR.grown G7 (by first | omega | (dsimp only [New]; omega)); replace cB4_0 := cell_grown (G7) cB4_0 (by show B4 ≠ _; omega); replace cB4_1 := cell_grown (G7) cB4_1 (by show B4 ≠ _; omega); clear RB8; have RB8 := RQ; clear RQ hRl))
  refine bodyPost_ret (results_lay2 rfl rfl rfl (ldF LB8)) rfl ?_
  exact ⟨B, m, b, rfl, hm, HR.mono (fun i hi h => by dsimp only [New] at *; omega), E⟩
theorem rset_v_full (A : Option Addr) (n c : Nat) (A2 : Option Addr) (n2 c2 : Nat) (V F : List Pr) (s : ByteArray) (z : Int) (w : World) (hn : Hid (n = V.length)) (hn2 : Hid (n2 = F.length)) (hb : n ≤ 1000) (hb2 : n2 ≤ 1000) (HV : Sl w 2 A n (prc V)) (HF : Sl w 2 A2 n2 (prc F)) (hs : ¬ HasN V s) (hsz : 64 ≤ n + n2) : Calls Try.prog 6 #[(.agg #[.slice A n c, .slice A2 n2 c2]), .string s, .int .i64 z, .bool false] w fun e w' => e = .returned (.tuple #[(.agg #[.slice A n c, .slice A2 n2 c2]), .int .i64 26]) ∧ Ext w w' := by
  have SV := SlS.all HV
  have SF := SlS.all HF
  clear HV HF
  have _u := And.intro hn (And.intro hn2 (And.intro hb hb2))
  clear _u
  have cf := fun i (h : Fnd V n s i) => fnd_no h hn.out hs
  have E := Ext.refl w
  go_enter Try.func6, Try.ntmps6
  have TB4 : True := trivial
  have TB8 : True := trivial
  go_wp2_with (first | (clear TB4; refine boxsF (v := (.agg #[.slice A n c, .slice A2 n2 c2])) rfl rfl rfl (fr_flat _ _ _ _ _ _) ?_; intro B4 w4 bB4 cB4 XB4 LB4 RB4; have z1 := XB4.size; replace E := E.trans XB4; replace SV := SV.ext XB4; replace SF := SF.ext XB4; have cB4_0 := lay_cell LB4 (j := 0) rfl; have cB4_1 := lay_cell LB4 (j := 1) rfl) | (clear TB8; refine allocsF rfl rfl ?_; intro B8 w8 bB8 cB8 XB8 LB8 RB8; have z2 := XB8.size; replace E := E.trans XB8; replace SV := SV.ext XB8; replace SF := SF.ext XB8; replace LB4 := LB4.ext XB8; replace RB4 := RB4.ext XB8; replace cB4_0 := cell_ext (XB8) cB4_0; replace cB4_1 := cell_ext (XB8) cB4_1))
  refine (find_any A n c V s _ hn (by omega) SV.is).mono ?_
  rintro e w14 ⟨i, rfl, hf, x⟩
  have hi := cf i hf
  clear cf hf
  subst hi
  have z3 := x.size
  replace E := E.trans x
  replace SV := SV.ext x
  replace SF := SF.ext x
  replace LB4 := LB4.ext x
  replace RB4 := RB4.ext x
  replace cB4_0 := cell_ext (x) cB4_0
  replace cB4_1 := cell_ext (x) cB4_1
  replace LB8 := LB8.ext x
  replace RB8 := RB8.ext x
  clear x
  have TG4 : True := trivial
  go_wp2_with (first | (refine loadsF (B := B4) (by rfl) rfl rfl LB4 ?_) | (clear TG4; have hRl := (RB8).lt (Nat.zero_lt_succ _); refine storesF (B := B8) rfl rfl rfl (v := (.agg #[.slice A n c, .slice A2 n2 c2])) rfl RB8 (fr_flat _ _ _ _ _ _) ?_; clear LB8; intro s4 G4 LB8 RQ; have z5 := G4.size; replace E := grown_ext E G4 (by omega); replace SV := SV.grown G4 (by first | omega | (dsimp only; omega)); replace SF := SF.grown G4 (by first | omega | (dsimp only; omega)); replace LB4 := LB4.grown G4 (by omega); replace RB4 := RB4.grown G4 (by omega); replace cB4_0 := cell_grown (G4) cB4_0 (by show B4 ≠ _; omega); replace cB4_1 := cell_grown (G4) cB4_1 (by show B4 ≠ _; omega); clear RB8; have RB8 := RQ; clear RQ hRl))
  refine bodyPost_ret (results_lay2 rfl rfl rfl (ldF LB8)) rfl ?_
  exact ⟨rfl, E⟩
theorem rset_f_yes (A : Option Addr) (n c : Nat) (A2 : Option Addr) (n2 c2 : Nat) (V F : List Pr) (s : ByteArray) (z : Int) (w : World) (hn : Hid (n = V.length)) (hn2 : Hid (n2 = F.length)) (hb : n ≤ 1000) (hb2 : n2 ≤ 1000) (HV : Sl w 2 A n (prc V)) (HF : Sl w 2 A2 n2 (prc F)) (hs : HasN F s) : Calls Try.prog 6 #[(.agg #[.slice A n c, .slice A2 n2 c2]), .string s, .int .i64 z, .bool true] w fun e w' => ∃ B m b, e = .returned (.tuple #[.agg #[.slice A n c, .slice B m b], .int .i64 0]) ∧ Hid (m = (putR F s z).length) ∧ SlS w' 2 B m (prc (putR F s z)) (New w.heap.size) ∧ Ext w w' := by
  have SV := SlS.all HV
  have SF := SlS.all HF
  clear HV HF
  have _u := And.intro hn (And.intro hn2 (And.intro hb hb2))
  clear _u
  have cf := fun i (h : Fnd F n2 s i) => fnd_yes h hn2.out hs
  have E := Ext.refl w
  go_enter Try.func6, Try.ntmps6
  have TB4 : True := trivial
  have TB8 : True := trivial
  go_wp2_with (first | (clear TB4; refine boxsF (v := (.agg #[.slice A n c, .slice A2 n2 c2])) rfl rfl rfl (fr_flat _ _ _ _ _ _) ?_; intro B4 w4 bB4 cB4 XB4 LB4 RB4; have z1 := XB4.size; replace E := E.trans XB4; replace SV := SV.ext XB4; replace SF := SF.ext XB4; have cB4_0 := lay_cell LB4 (j := 0) rfl; have cB4_1 := lay_cell LB4 (j := 1) rfl) | (clear TB8; refine allocsF rfl rfl ?_; intro B8 w8 bB8 cB8 XB8 LB8 RB8; have z2 := XB8.size; replace E := E.trans XB8; replace SV := SV.ext XB8; replace SF := SF.ext XB8; replace LB4 := LB4.ext XB8; replace RB4 := RB4.ext XB8; replace cB4_0 := cell_ext (XB8) cB4_0; replace cB4_1 := cell_ext (XB8) cB4_1))
  refine (find_any A n c V s _ hn (by omega) SV.is).mono ?_
  rintro e w14 ⟨i0, rfl, -, x⟩
  have z3 := x.size
  replace E := E.trans x
  replace SV := SV.ext x
  replace SF := SF.ext x
  replace LB4 := LB4.ext x
  replace RB4 := RB4.ext x
  replace cB4_0 := cell_ext (x) cB4_0
  replace cB4_1 := cell_ext (x) cB4_1
  replace LB8 := LB8.ext x
  replace RB8 := RB8.ext x
  clear x
  go_wp2_with fail
  refine (find_any A2 n2 c2 F s _ hn2 (by omega) SF.is).mono ?_
  rintro e w19 ⟨i, rfl, hf, x⟩
  have hi := cf i hf
  clear cf hf
  obtain ⟨k, hk, rfl, -⟩ := hi
  have z4 := x.size
  replace E := E.trans x
  replace SV := SV.ext x
  replace SF := SF.ext x
  replace LB4 := LB4.ext x
  replace RB4 := RB4.ext x
  replace cB4_0 := cell_ext (x) cB4_0
  replace cB4_1 := cell_ext (x) cB4_1
  replace LB8 := LB8.ext x
  replace RB8 := RB8.ext x
  clear x
  go_wp2_with fail
  refine (put_any A2 n2 c2 F s z _ hn2 (by omega) SF.is).mono ?_
  rintro e w38 ⟨B, m, b, rfl, hm, HR, x⟩
  clear SV SF
  have z5 := x.size
  replace E := E.trans x
  replace LB4 := LB4.ext x
  replace RB4 := RB4.ext x
  replace cB4_0 := cell_ext (x) cB4_0
  replace cB4_1 := cell_ext (x) cB4_1
  replace LB8 := LB8.ext x
  replace RB8 := RB8.ext x
  clear x
  have TG6 : True := trivial
  have TG8 : True := trivial
  go_wp2_with (first | (clear TG6; have hRl := (RB4).lt (Nat.zero_lt_succ _); refine sfield_prs rfl rfl (B := B4) (j := 1) (v := .slice B m b) (cs' := #[.slice A n c, .slice B m b]) rfl rfl rfl LB4 RB4 (by omega) rfl ?_; clear LB4; clear cB4_0 cB4_1; intro s6 G6 LB4 RQ; have z7 := G6.size; replace E := grown_ext E G6 (by omega); replace LB8 := LB8.grown G6 (by omega); replace RB8 := RB8.grown G6 (by omega); replace HR := HR.grown G6 (by first | omega | (dsimp only [New]; omega)); clear RB4; have RB4 := RQ; clear RQ hRl G6; have cB4_0 := lay_cell LB4 (j := 0) rfl; have cB4_1 := lay_cell LB4 (j := 1) rfl) | (refine loadsF (B := B4) (by rfl) rfl rfl LB4 ?_) | (clear TG8; have hRl := (RB8).lt (Nat.zero_lt_succ _); refine storesF (B := B8) rfl rfl rfl (v := (.agg #[.slice A n c, .slice B m b])) rfl RB8 (fr_flat _ _ _ _ _ _) ?_; clear LB8; intro s8 G8 LB8 RQ; have z9 := G8.size; replace E := grown_ext E G8 (by omega); replace LB4 := LB4.grown G8 (by omega); replace RB4 := RB4.grown G8 (by omega); replace HR := HR.grown G8 (by first | omega | (dsimp only [New]; omega)); replace cB4_0 := cell_grown (G8) cB4_0 (by show B4 ≠ _; omega); replace cB4_1 := cell_grown (G8) cB4_1 (by show B4 ≠ _; omega); clear RB8; have RB8 := RQ; clear RQ hRl))
  refine bodyPost_ret (results_lay2 rfl rfl rfl (ldF LB8)) rfl ?_
  exact ⟨B, m, b, rfl, hm, HR.mono (fun i hi h => by dsimp only [New] at *; omega), E⟩
theorem rset_f_no (A : Option Addr) (n c : Nat) (A2 : Option Addr) (n2 c2 : Nat) (V F : List Pr) (s : ByteArray) (z : Int) (w : World) (hn : Hid (n = V.length)) (hn2 : Hid (n2 = F.length)) (hb : n ≤ 1000) (hb2 : n2 ≤ 1000) (HV : Sl w 2 A n (prc V)) (HF : Sl w 2 A2 n2 (prc F)) (hs : ¬ HasN F s) (hsz : n + n2 < 64) : Calls Try.prog 6 #[(.agg #[.slice A n c, .slice A2 n2 c2]), .string s, .int .i64 z, .bool true] w fun e w' => ∃ B m b, e = .returned (.tuple #[.agg #[.slice A n c, .slice B m b], .int .i64 0]) ∧ Hid (m = (putR F s z).length) ∧ SlS w' 2 B m (prc (putR F s z)) (New w.heap.size) ∧ Ext w w' := by
  have SV := SlS.all HV
  have SF := SlS.all HF
  clear HV HF
  have _u := And.intro hn (And.intro hn2 (And.intro hb hb2))
  clear _u
  have cf := fun i (h : Fnd F n2 s i) => fnd_no h hn2.out hs
  have E := Ext.refl w
  go_enter Try.func6, Try.ntmps6
  have TB4 : True := trivial
  have TB8 : True := trivial
  go_wp2_with (first | (clear TB4; refine boxsF (v := (.agg #[.slice A n c, .slice A2 n2 c2])) rfl rfl rfl (fr_flat _ _ _ _ _ _) ?_; intro B4 w4 bB4 cB4 XB4 LB4 RB4; have z1 := XB4.size; replace E := E.trans XB4; replace SV := SV.ext XB4; replace SF := SF.ext XB4; have cB4_0 := lay_cell LB4 (j := 0) rfl; have cB4_1 := lay_cell LB4 (j := 1) rfl) | (clear TB8; refine allocsF rfl rfl ?_; intro B8 w8 bB8 cB8 XB8 LB8 RB8; have z2 := XB8.size; replace E := E.trans XB8; replace SV := SV.ext XB8; replace SF := SF.ext XB8; replace LB4 := LB4.ext XB8; replace RB4 := RB4.ext XB8; replace cB4_0 := cell_ext (XB8) cB4_0; replace cB4_1 := cell_ext (XB8) cB4_1))
  refine (find_any A n c V s _ hn (by omega) SV.is).mono ?_
  rintro e w14 ⟨i0, rfl, -, x⟩
  have z3 := x.size
  replace E := E.trans x
  replace SV := SV.ext x
  replace SF := SF.ext x
  replace LB4 := LB4.ext x
  replace RB4 := RB4.ext x
  replace cB4_0 := cell_ext (x) cB4_0
  replace cB4_1 := cell_ext (x) cB4_1
  replace LB8 := LB8.ext x
  replace RB8 := RB8.ext x
  clear x
  go_wp2_with fail
  refine (find_any A2 n2 c2 F s _ hn2 (by omega) SF.is).mono ?_
  rintro e w19 ⟨i, rfl, hf, x⟩
  have hi := cf i hf
  clear cf hf
  subst hi
  have z4 := x.size
  replace E := E.trans x
  replace SV := SV.ext x
  replace SF := SF.ext x
  replace LB4 := LB4.ext x
  replace RB4 := RB4.ext x
  replace cB4_0 := cell_ext (x) cB4_0
  replace cB4_1 := cell_ext (x) cB4_1
  replace LB8 := LB8.ext x
  replace RB8 := RB8.ext x
  clear x
  go_wp2_with fail
  refine (put_any A2 n2 c2 F s z _ hn2 (by omega) SF.is).mono ?_
  rintro e w38 ⟨B, m, b, rfl, hm, HR, x⟩
  clear SV SF
  have z5 := x.size
  replace E := E.trans x
  replace LB4 := LB4.ext x
  replace RB4 := RB4.ext x
  replace cB4_0 := cell_ext (x) cB4_0
  replace cB4_1 := cell_ext (x) cB4_1
  replace LB8 := LB8.ext x
  replace RB8 := RB8.ext x
  clear x
  have TG6 : True := trivial
  have TG8 : True := trivial
  go_wp2_with (first | (clear TG6; have hRl := (RB4).lt (Nat.zero_lt_succ _); refine sfield_prs rfl rfl (B := B4) (j := 1) (v := .slice B m b) (cs' := #[.slice A n c, .slice B m b]) rfl rfl rfl LB4 RB4 (by omega) rfl ?_; clear LB4; clear cB4_0 cB4_1; intro s6 G6 LB4 RQ; have z7 := G6.size; replace E := grown_ext E G6 (by omega); replace LB8 := LB8.grown G6 (by omega); replace RB8 := RB8.grown G6 (by omega); replace HR := HR.grown G6 (by first | omega | (dsimp only [New]; omega)); clear RB4; have RB4 := RQ; clear RQ hRl G6; have cB4_0 := lay_cell LB4 (j := 0) rfl; have cB4_1 := lay_cell LB4 (j := 1) rfl) | (refine loadsF (B := B4) (by rfl) rfl rfl LB4 ?_) | (clear TG8; have hRl := (RB8).lt (Nat.zero_lt_succ _); refine storesF (B := B8) rfl rfl rfl (v := (.agg #[.slice A n c, .slice B m b])) rfl RB8 (fr_flat _ _ _ _ _ _) ?_; clear LB8; intro s8 G8 LB8 RQ; have z9 := G8.size; replace E := grown_ext E G8 (by omega); replace LB4 := LB4.grown G8 (by omega); replace RB4 := RB4.grown G8 (by omega); replace HR := HR.grown G8 (by first | omega | (dsimp only [New]; omega)); replace cB4_0 := cell_grown (G8) cB4_0 (by show B4 ≠ _; omega); replace cB4_1 := cell_grown (G8) cB4_1 (by show B4 ≠ _; omega); clear RB8; have RB8 := RQ; clear RQ hRl))
  refine bodyPost_ret (results_lay2 rfl rfl rfl (ldF LB8)) rfl ?_
  exact ⟨B, m, b, rfl, hm, HR.mono (fun i hi h => by dsimp only [New] at *; omega), E⟩
theorem rset_f_full (A : Option Addr) (n c : Nat) (A2 : Option Addr) (n2 c2 : Nat) (V F : List Pr) (s : ByteArray) (z : Int) (w : World) (hn : Hid (n = V.length)) (hn2 : Hid (n2 = F.length)) (hb : n ≤ 1000) (hb2 : n2 ≤ 1000) (HV : Sl w 2 A n (prc V)) (HF : Sl w 2 A2 n2 (prc F)) (hs : ¬ HasN F s) (hsz : 64 ≤ n + n2) : Calls Try.prog 6 #[(.agg #[.slice A n c, .slice A2 n2 c2]), .string s, .int .i64 z, .bool true] w fun e w' => e = .returned (.tuple #[(.agg #[.slice A n c, .slice A2 n2 c2]), .int .i64 26]) ∧ Ext w w' := by
  have SV := SlS.all HV
  have SF := SlS.all HF
  clear HV HF
  have _u := And.intro hn (And.intro hn2 (And.intro hb hb2))
  clear _u
  have cf := fun i (h : Fnd F n2 s i) => fnd_no h hn2.out hs
  have E := Ext.refl w
  go_enter Try.func6, Try.ntmps6
  have TB4 : True := trivial
  have TB8 : True := trivial
  go_wp2_with (first | (clear TB4; refine boxsF (v := (.agg #[.slice A n c, .slice A2 n2 c2])) rfl rfl rfl (fr_flat _ _ _ _ _ _) ?_; intro B4 w4 bB4 cB4 XB4 LB4 RB4; have z1 := XB4.size; replace E := E.trans XB4; replace SV := SV.ext XB4; replace SF := SF.ext XB4; have cB4_0 := lay_cell LB4 (j := 0) rfl; have cB4_1 := lay_cell LB4 (j := 1) rfl) | (clear TB8; refine allocsF rfl rfl ?_; intro B8 w8 bB8 cB8 XB8 LB8 RB8; have z2 := XB8.size; replace E := E.trans XB8; replace SV := SV.ext XB8; replace SF := SF.ext XB8; replace LB4 := LB4.ext XB8; replace RB4 := RB4.ext XB8; replace cB4_0 := cell_ext (XB8) cB4_0; replace cB4_1 := cell_ext (XB8) cB4_1))
  refine (find_any A n c V s _ hn (by omega) SV.is).mono ?_
  rintro e w14 ⟨i0, rfl, -, x⟩
  have z3 := x.size
  replace E := E.trans x
  replace SV := SV.ext x
  replace SF := SF.ext x
  replace LB4 := LB4.ext x
  replace RB4 := RB4.ext x
  replace cB4_0 := cell_ext (x) cB4_0
  replace cB4_1 := cell_ext (x) cB4_1
  replace LB8 := LB8.ext x
  replace RB8 := RB8.ext x
  clear x
  go_wp2_with fail
  refine (find_any A2 n2 c2 F s _ hn2 (by omega) SF.is).mono ?_
  rintro e w19 ⟨i, rfl, hf, x⟩
  have hi := cf i hf
  clear cf hf
  subst hi
  have z4 := x.size
  replace E := E.trans x
  replace SV := SV.ext x
  replace SF := SF.ext x
  replace LB4 := LB4.ext x
  replace RB4 := RB4.ext x
  replace cB4_0 := cell_ext (x) cB4_0
  replace cB4_1 := cell_ext (x) cB4_1
  replace LB8 := LB8.ext x
  replace RB8 := RB8.ext x
  clear x
  have TG5 : True := trivial
  go_wp2_with (first | (refine loadsF (B := B4) (by rfl) rfl rfl LB4 ?_) | (clear TG5; have hRl := (RB8).lt (Nat.zero_lt_succ _); refine storesF (B := B8) rfl rfl rfl (v := (.agg #[.slice A n c, .slice A2 n2 c2])) rfl RB8 (fr_flat _ _ _ _ _ _) ?_; clear LB8; intro s5 G5 LB8 RQ; have z6 := G5.size; replace E := grown_ext E G5 (by omega); replace SV := SV.grown G5 (by first | omega | (dsimp only; omega)); replace SF := SF.grown G5 (by first | omega | (dsimp only; omega)); replace LB4 := LB4.grown G5 (by omega); replace RB4 := RB4.grown G5 (by omega); replace cB4_0 := cell_grown (G5) cB4_0 (by show B4 ≠ _; omega); replace cB4_1 := cell_grown (G5) cB4_1 (by show B4 ≠ _; omega); clear RB8; have RB8 := RQ; clear RQ hRl))
  refine bodyPost_ret (results_lay2 rfl rfl rfl (ldF LB8)) rfl ?_
  exact ⟨rfl, E⟩
/-- the frames of the document's answer -/
def RF (w : World) (a : Addr) (V F : Nat → List Pr) (base : Nat) : Prop := ∀ i, i < 3 → ∃ A n c A2 n2 c2, w.cell? (a.add (i * 2)) = some (.slice A n c) ∧ w.cell? ⟨(a.add (i * 2)).block, (a.add (i * 2)).off + 1, none⟩ = some (.slice A2 n2 c2) ∧ Hid (n = (V i).length) ∧ Hid (n2 = (F i).length) ∧ SlS w 2 A n (prc (V i)) (New base) ∧ SlS w 2 A2 n2 (prc (F i)) (New base)
def RGet (L : Nat → List Pr) (s : ByteArray) (k : Nat) (m t : Int) : Prop := (m = -1 ∧ ∀ i, i ≤ k → ¬ HasN (L i) s) ∨ ∃ i, i ≤ k ∧ t = (i : Int) ∧ (∃ p ∈ L i, p.nm = s ∧ m = p.n) ∧ ∀ j, i < j → j ≤ k → ¬ HasN (L j) s
theorem rget_v (a : Addr) (V F : Nat → List Pr) (base k c : Nat) (hk : k < 3) (s : ByteArray) (w : World) (HR : RF w a V F base) (hL : ∀ i, i < 3 → (V i).length ≤ 1000) : Calls Try.prog 21 #[.slice (some a) (k + 1) c, .string s, .bool false] w fun e w' => ∃ m t, e = .returned (.tuple #[.int .i64 m, .int .i64 t]) ∧ RGet V s k m t ∧ Ext w w' := by
  have E := Ext.refl w
  go_enter Try.func21, Try.ntmps21
  go_wp2_with fail
  go_loopw [8] (fun i wr => ∃ z : Int, -1 ≤ z ∧ z ≤ k ∧ i = .int .i64 z ∧ Hid (∀ i : Nat, z < i → i ≤ k → ¬ HasN (V i) s) ∧ Ext w wr) (fun i _ => (intOf i + 1).toNat)
  case atStart => exact ⟨k, by omega, by omega, by go_num, fun i h1 h2 => absurd h1 (by omega), E⟩
  case round =>
    obtain ⟨z, hz1, hz2, rfl, hA, E'⟩ := hrel
    clear E
    have E := E'
    clear E'
    have z1 := E.size
    have hcs : (∃ j : Nat, z = j ∧ HasN (V j) s) ∨ (∃ j : Nat, z = j ∧ ¬ HasN (V j) s) ∨ z = -1 := by
      by_cases h : z = -1
      · exact .inr (.inr h)
      · exact (Classical.em (HasN (V z.toNat) s)).elim (fun h => .inl ⟨z.toNat, by omega, h⟩) (fun h => .inr (.inl ⟨z.toNat, by omega, h⟩))
    rcases hcs with ⟨j, rfl, hh⟩ | ⟨j, rfl, hh⟩ | rfl
    · obtain ⟨A, n, c1, A2, n2, c2, C0, C1, hn, hn2, SV, SF⟩ := HR j (by omega)
      have hl := hL j (by omega)
      rw [← hn.out] at hl
      replace C0 := cell_ext E C0
      replace C1 := cell_ext E C1
      replace SV := SV.ext E
      replace SF := SF.ext E
      clear HR hL
      have HS := SV
      clear SV SF
      clear hn2 C1
      have cf := fun w HS => find_any A n c1 (V j) s w hn (by omega) HS
      have hy := fun i (h : Fnd (V j) n s i) => fnd_yes h hn.out hh
      have HG : Hid (∀ p ∈ V j, p.nm = s → RGet V s k p.n j) := fun p hp e => .inr ⟨j, by omega, rfl, ⟨p, hp, e, rfl⟩, fun i h1 h2 => hA.out i (by omega) h2⟩
      clear hA
      go_wp2_with fail
      refine (cf _ HS.is).mono ?_
      rintro e w31 ⟨i, rfl, hf, x⟩
      obtain ⟨k2, hk2, rfl, hnm⟩ := hy i hf
      obtain ⟨aP, eA, D0, D1⟩ := pr_at HS.is hn.out hk2
      subst eA
      replace D1 := cell_ext x D1
      have HG2 := HG.out _ (get_mem (by have := hn.out; omega)) hnm
      clear hnm hf hy cf HG D0
      generalize (V j).getD k2 default = p at D1 HG2
      have z2 := x.size
      replace E := E.trans x
      replace C0 := cell_ext (x) C0
      replace HS := HS.ext x
      clear x
      go_wp2_with fail
      go_ret2
      exact ⟨_, _, rfl, HG2, E⟩
    · obtain ⟨A, n, c1, A2, n2, c2, C0, C1, hn, hn2, SV, SF⟩ := HR j (by omega)
      have hl := hL j (by omega)
      rw [← hn.out] at hl
      replace C0 := cell_ext E C0
      replace C1 := cell_ext E C1
      replace SV := SV.ext E
      replace SF := SF.ext E
      clear HR hL
      have HS := SV
      clear SV SF
      clear hn2 C1
      have cf := fun w HS => find_any A n c1 (V j) s w hn (by omega) HS
      have hy := fun i (h : Fnd (V j) n s i) => fnd_no h hn.out hh
      have hA2 : Hid (∀ i : Nat, (j : Int) - 1 < i → i ≤ k → ¬ HasN (V i) s) := fun i h1 h2 => (Nat.lt_or_eq_of_le (show j ≤ i by omega)).elim (fun h => hA.out i (by omega) h2) (fun e => e ▸ hh)
      clear hA
      go_wp2_with fail
      refine (cf _ HS.is).mono ?_
      rintro e w31 ⟨i, rfl, hf, x⟩
      obtain rfl := hy i hf
      clear hf hy cf
      have z3 := x.size
      replace E := E.trans x
      replace C0 := cell_ext (x) C0
      replace HS := HS.ext x
      clear x
      go_wp2_with fail
      exact ⟨⟨(j : Int) - 1, by omega, by omega, by go_num, hA2, E⟩, by simp [intOf]⟩
    · have HG2 : Hid (RGet V s k (-1) (-1)) := .inl ⟨rfl, fun i hi => hA.out i (by omega) hi⟩
      clear hA
      go_wp2_with fail
      go_ret2
      exact ⟨_, _, rfl, HG2, E⟩
theorem rget_f (a : Addr) (V F : Nat → List Pr) (base k c : Nat) (hk : k < 3) (s : ByteArray) (w : World) (HR : RF w a V F base) (hL : ∀ i, i < 3 → (F i).length ≤ 1000) : Calls Try.prog 21 #[.slice (some a) (k + 1) c, .string s, .bool true] w fun e w' => ∃ m t, e = .returned (.tuple #[.int .i64 m, .int .i64 t]) ∧ RGet F s k m t ∧ Ext w w' := by
  have E := Ext.refl w
  go_enter Try.func21, Try.ntmps21
  go_wp2_with fail
  go_loopw [8] (fun i wr => ∃ z : Int, -1 ≤ z ∧ z ≤ k ∧ i = .int .i64 z ∧ Hid (∀ i : Nat, z < i → i ≤ k → ¬ HasN (F i) s) ∧ Ext w wr) (fun i _ => (intOf i + 1).toNat)
  case atStart => exact ⟨k, by omega, by omega, by go_num, fun i h1 h2 => absurd h1 (by omega), E⟩
  case round =>
    obtain ⟨z, hz1, hz2, rfl, hA, E'⟩ := hrel
    clear E
    have E := E'
    clear E'
    have z1 := E.size
    have hcs : (∃ j : Nat, z = j ∧ HasN (F j) s) ∨ (∃ j : Nat, z = j ∧ ¬ HasN (F j) s) ∨ z = -1 := by
      by_cases h : z = -1
      · exact .inr (.inr h)
      · exact (Classical.em (HasN (F z.toNat) s)).elim (fun h => .inl ⟨z.toNat, by omega, h⟩) (fun h => .inr (.inl ⟨z.toNat, by omega, h⟩))
    rcases hcs with ⟨j, rfl, hh⟩ | ⟨j, rfl, hh⟩ | rfl
    · obtain ⟨A, n, c1, A2, n2, c2, C0, C1, hn, hn2, SV, SF⟩ := HR j (by omega)
      have hl := hL j (by omega)
      rw [← hn2.out] at hl
      replace C0 := cell_ext E C0
      replace C1 := cell_ext E C1
      replace SV := SV.ext E
      replace SF := SF.ext E
      clear HR hL
      have HS := SF
      clear SV SF
      clear hn
      have cf := fun w HS => find_any A2 n2 c2 (F j) s w hn2 (by omega) HS
      have hy := fun i (h : Fnd (F j) n2 s i) => fnd_yes h hn2.out hh
      have HG : Hid (∀ p ∈ F j, p.nm = s → RGet F s k p.n j) := fun p hp e => .inr ⟨j, by omega, rfl, ⟨p, hp, e, rfl⟩, fun i h1 h2 => hA.out i (by omega) h2⟩
      clear hA
      go_wp2_with fail
      refine (cf _ HS.is).mono ?_
      rintro e w31 ⟨i, rfl, hf, x⟩
      obtain ⟨k2, hk2, rfl, hnm⟩ := hy i hf
      obtain ⟨aP, eA, D0, D1⟩ := pr_at HS.is hn2.out hk2
      subst eA
      replace D1 := cell_ext x D1
      have HG2 := HG.out _ (get_mem (by have := hn2.out; omega)) hnm
      clear hnm hf hy cf HG D0
      generalize (F j).getD k2 default = p at D1 HG2
      have z2 := x.size
      replace E := E.trans x
      replace C0 := cell_ext (x) C0
      replace HS := HS.ext x
      replace C1 := cell_ext (x) C1
      clear x
      go_wp2_with fail
      go_ret2
      exact ⟨_, _, rfl, HG2, E⟩
    · obtain ⟨A, n, c1, A2, n2, c2, C0, C1, hn, hn2, SV, SF⟩ := HR j (by omega)
      have hl := hL j (by omega)
      rw [← hn2.out] at hl
      replace C0 := cell_ext E C0
      replace C1 := cell_ext E C1
      replace SV := SV.ext E
      replace SF := SF.ext E
      clear HR hL
      have HS := SF
      clear SV SF
      clear hn
      have cf := fun w HS => find_any A2 n2 c2 (F j) s w hn2 (by omega) HS
      have hy := fun i (h : Fnd (F j) n2 s i) => fnd_no h hn2.out hh
      have hA2 : Hid (∀ i : Nat, (j : Int) - 1 < i → i ≤ k → ¬ HasN (F i) s) := fun i h1 h2 => (Nat.lt_or_eq_of_le (show j ≤ i by omega)).elim (fun h => hA.out i (by omega) h2) (fun e => e ▸ hh)
      clear hA
      go_wp2_with fail
      refine (cf _ HS.is).mono ?_
      rintro e w31 ⟨i, rfl, hf, x⟩
      obtain rfl := hy i hf
      clear hf hy cf
      have z3 := x.size
      replace E := E.trans x
      replace C0 := cell_ext (x) C0
      replace HS := HS.ext x
      replace C1 := cell_ext (x) C1
      clear x
      go_wp2_with fail
      exact ⟨⟨(j : Int) - 1, by omega, by omega, by go_num, hA2, E⟩, by simp [intOf]⟩
    · have HG2 : Hid (RGet F s k (-1) (-1)) := .inl ⟨rfl, fun i hi => hA.out i (by omega) hi⟩
      clear hA
      go_wp2_with fail
      go_ret2
      exact ⟨_, _, rfl, HG2, E⟩
theorem texts_eq (A : Option Addr) (n c : Nat) (A2 : Option Addr) (c2 : Nat) (S : Nat → ByteArray) (w : World) (hn : n ≤ 1048576) (H1 : Sl w 1 A n (pre (fun k => .string (S k)) n)) (H2 : Sl w 1 A2 n (pre (fun k => .string (S k)) n)) : Calls Try.prog 23 #[.slice A n c, .slice A2 n c2] w fun e w' => e = .returned (.bool true) ∧ Ext w w' := by
  have hg : ∀ k, k < n → (pre (fun k => .string (S k)) n)[k]? = some (.string (S k)) := fun k hk => by simp [pre, hk]
  have E := Ext.refl w
  go_enter Try.func23, Try.ntmps23
  go_wp2_with fail
  go_loopw [5] (fun i wr => ∃ k : Nat, k ≤ n ∧ i = .int .i64 k ∧ Ext w wr) (fun i _ => n - (intOf i).toNat)
  case atStart => exact ⟨0, Nat.zero_le _, rfl, E⟩
  case round =>
    obtain ⟨k, hk, rfl, E'⟩ := hrel
    clear E
    have E := E'
    clear E'
    have z1 := E.size
    by_cases hlt : k < n
    · obtain ⟨a, ea, _, D1⟩ := (H1.ext E).2 (by omega)
      obtain ⟨a2, ea2, _, D2⟩ := (H2.ext E).2 (by omega)
      subst ea ea2
      replace D1 := D1 k _ (hg k hlt)
      replace D2 := D2 k _ (hg k hlt)
      clear H1 H2 hg
      generalize S k = t at D1 D2
      go_wp2_with fail
      go_region_held3 (fun w' => w'.cell? (a.add k) = some (.string t) ∧ w'.cell? (a2.add k) = some (.string t)) ((first | exact ⟨D1, D2⟩ | go_keep)) (fail)
      have hq2 : wr.heap.size ≤ wr.drew.heap.size := Nat.le_refl _
      have z3 := (Ext.refl wr).drew.size
      replace E := E.trans (Ext.refl wr).drew
      generalize wr.drew = wd2 at *
      go_wp2_with fail
      exact ⟨⟨k + 1, by omega, by go_num, E⟩, by simp [intOf]; omega⟩
    · clear H1 H2 hg
      go_wp2_with fail
      go_ret
      exact ⟨rfl, E⟩
end Go.Proofs.Ytdkgiklbmbkdaaa
