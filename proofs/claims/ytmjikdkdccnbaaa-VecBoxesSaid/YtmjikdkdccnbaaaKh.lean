/- Arrays in a row of one's own; what lies in each (VecBoxes). -/
import Derived.Test.YtmjikdkdccnbaaaKe
import Derived.Test.YtmjikdkdccnbaaaVn
namespace Go.Proofs.Ytmjikdkdccnbaaa
open Go.ChangeShapes Go.WideShapes Go.RowKit Bv Fl
set_option maxRecDepth 100000
set_option maxHeartbeats 1000000
theorem fm_length {α : Type} (con : α → List Value) (s : Nat) (hlen : ∀ x, (con x).length = s) (l : List α) : (l.flatMap con).length = l.length * s := by
  induction l with
  | nil => simp
  | cons a l ih => rw [List.flatMap_cons, List.length_append, ih, hlen, List.length_cons, Nat.add_mul, Nat.one_mul, Nat.add_comm]
theorem fm_get {α : Type} (con : α → List Value) (s : Nat) (hlen : ∀ x, (con x).length = s) : ∀ (l : List α) (i f : Nat) (hi : i < l.length), f < s → (l.flatMap con)[i * s + f]? = (con l[i])[f]?
  | [], i, _, hi, _ => by simp at hi
  | a :: l, 0, f, _, hf => by rw [List.flatMap_cons, Nat.zero_mul, Nat.zero_add, List.getElem?_append_left (by rw [hlen]; exact hf)]; rfl
  | a :: l, i + 1, f, hi, hf => by
    rw [List.flatMap_cons, List.getElem?_append_right (by rw [hlen, Nat.add_mul, Nat.one_mul]; omega), hlen, show (i + 1) * s + f - s = i * s + f by rw [Nat.add_mul, Nat.one_mul]; omega, fm_get con s hlen l i f (by simpa using hi) hf]
    rfl
/-- an array of one axis that holds letters: the block of its shape, its letters' slice -/
structure Bx where
  gS : Nat
  cA : Option Addr
  m : Nat
  cc : Nat
instance : Inhabited Bx := ⟨⟨0, none, 0, 0⟩⟩
def Bx.cells (b : Bx) : List Value := [.slice (some ⟨b.gS, 0, none⟩) 1 1, .int .i64 5, .slice none 0 0, .int .i64 0, .slice none 0 0, .slice none 0 0, .slice none 0 0, .slice b.cA b.m b.cc, .slice none 0 0]
def arrs (L : List Bx) : List Value := L.flatMap Bx.cells
theorem arrs_app (L : List Bx) (b : Bx) : arrs (L ++ [b]) = arrs L ++ b.cells := by simp [arrs]
theorem arrs_length (L : List Bx) : (arrs L).length = L.length * 9 := fm_length Bx.cells 9 (fun _ => rfl) L
theorem arrs_get (L : List Bx) {k f : Nat} (hk : k < L.length) (hf : f < 9) : (arrs L)[k * 9 + f]? = (L.getD k default).cells[f]? := by
  have h := fm_get Bx.cells 9 (fun _ => rfl) L k f hk hf
  rw [show L.getD k default = L[k] by simp [List.getD, hk]]
  exact h
theorem arrs_drop (L : List Bx) {k : Nat} (hk : k < L.length) : ((arrs L).drop (9 * k)).take 9 = (L.getD k default).cells := by
  apply List.ext_getElem?
  intro j
  by_cases hj : j < 9
  · rw [List.getElem?_take_of_lt hj, List.getElem?_drop, Nat.mul_comm 9 k]
    exact arrs_get L hk hj
  · rw [List.getElem?_eq_none (by simp; omega), List.getElem?_eq_none (by show 9 ≤ j; omega)]
theorem arrs_one (L : List Bx) : ∀ u ∈ arrs L, u.oneCell' = true := by
  intro u hu
  obtain ⟨b, _, hb⟩ := List.mem_flatMap.1 hu
  simp only [Bx.cells, List.mem_cons, List.not_mem_nil, or_false] at hb
  rcases hb with rfl | rfl | rfl | rfl | rfl | rfl | rfl | rfl | rfl <;> rfl
/-- the letters of each; of the blocks that there are, those of S alone are read -/
def BXs (w : World) (X : Nat → List Int) (L : List Bx) (S : Nat → Prop) : Prop := ∀ j, j < L.length → (L.getD j default).m = (X j).length ∧ SlS w 1 (L.getD j default).cA (L.getD j default).m (i32s (X j)) S
section
variable {w w' : World} {X : Nat → List Int} {L : List Bx} {S S' : Nat → Prop} {g : Nat}
theorem BXs.ext (h : BXs w X L S) (hx : Ext w w') : BXs w' X L S := fun j hj => ⟨(h j hj).1, (h j hj).2.ext hx⟩
theorem BXs.grown (h : BXs w X L S) (hg : w.grownBy w' (some g)) (hS : ¬ S g) : BXs w' X L S := fun j hj => ⟨(h j hj).1, (h j hj).2.grown hg hS⟩
theorem BXs.mono (h : BXs w X L S) (hS : ∀ i, i < w.heap.size → S i → S' i) : BXs w X L S' := fun j hj => ⟨(h j hj).1, (h j hj).2.mono hS⟩
end
def RowA (w : World) (base : Nat) (v : Value) (k : Nat) (xs : List Value) : Prop := w.ownsRow base 37 9 v k xs
theorem RowA.ext {w w' : World} {base k : Nat} {v : Value} {xs : List Value} (h : RowA w base v k xs) (hx : Ext w w') : RowA w' base v k xs := own_ext h hx
/-- blocks that are there, but the row's own -/
abbrev NotOwn (w : World) (v : Value) (i : Nat) : Prop := i < w.heap.size ∧ v.ownBlock ≠ some i
theorem SlS.app {w w' : World} {s n : Nat} {A : Option Addr} {xs : List Value} {v v' : Value} {S : Nat → Prop} (h : SlS w s A n xs S) (hS : ∀ i, i < w.heap.size → S i → v.ownBlock ≠ some i) (hg : w.grownBy w' v.ownBlock) (hat : v'.ownBlock = v.ownBlock ∨ v'.ownBlock = some w.heap.size) : SlS w' s A n xs (NotOwn w' v') := fun w2 hs hk => h w2 (Nat.le_trans hg.size hs) fun i hi hi' => by
  have e1 : w'.heap[i]? = w.heap[i]? := hg.block i hi (fun e => hS i hi hi' e.symm)
  rw [← e1]
  refine hk i (Nat.lt_of_lt_of_le hi hg.size) ⟨Nat.lt_of_lt_of_le hi hg.size, ?_⟩
  rcases hat with e | e
  · rw [e]; exact hS i hi hi'
  · rw [e]
    intro e2
    cases e2
    omega
theorem BXs.app {w w' : World} {X : Nat → List Int} {L : List Bx} {v v' : Value} {S S2 : Nat → Prop} (h : BXs w X L S) (hS : ∀ i, i < w.heap.size → S i → v.ownBlock ≠ some i) (hg : w.grownBy w' v.ownBlock) (hat : v'.ownBlock = v.ownBlock ∨ v'.ownBlock = some w.heap.size)
    {b : Bx} (hb : b.m = (X L.length).length) (hc : SlS w 1 b.cA b.m (i32s (X L.length)) S2) (hS2 : ∀ i, i < w.heap.size → S2 i → v.ownBlock ≠ some i) : BXs w' X (L ++ [b]) (NotOwn w' v') := by
  intro j hj
  by_cases e : j = L.length
  · subst e
    rw [show (L ++ [b]).getD L.length default = b by simp [List.getD]]
    exact ⟨hb, hc.app hS2 hg hat⟩
  · have hj2 : j < L.length := by simp at hj; omega
    rw [show (L ++ [b]).getD j default = L.getD j default by simp [List.getD, List.getElem?_append_left hj2]]
    exact ⟨(h j hj2).1, (h j hj2).2.app hS hg hat⟩
theorem infoArr2 : (Try.prog.info? 37).map (fun i => (i.zero, i.size, i.bytes)) = some (some zeroArr, 9, 184) := by kernel_rfl
theorem infoI2 : (Try.prog.info? 3).map (fun i => (i.zero, i.size, i.bytes)) = some (some (.int .i64 0), 1, 8) := by kernel_rfl
/-- a shape of one axis, laid -/
theorem lit_int {op : Oper} {a : Act} {w : World} {K : Act → World → Prop} {Q : Exit → Act → World → Prop} {x : Operand} {n : Int} (ho : op.op = .buildSlice 26 1 #[(0, x)]) (hx : a.eval x = .int .i64 n)
    (h : ∀ B w', w.heap.size ≤ B → B < w'.heap.size → Ext w w' → True → K (a.put op.dst (.slice (some ⟨B, 0, none⟩) 1 1)) w') : op.wp Try.prog a w K Q := by
  obtain ⟨i, hi, h2⟩ := Option.map_eq_some_iff.1 infoI2
  simp only [Prod.mk.injEq] at h2
  refine wp_buildSlice 26 3 1 #[(0, x)] ho #[.int .i64 n] i (.int .i64 0) Try.underlying26 hi h2.1 (by rw [h2.2.1]; decide) (by rw [h2.2.1]; decide) ?_ ?_
  · rw [h2.2.1]
    rw [show (#[((0 : Nat), x)].map fun (i, x) => (i, a.eval x)).toList = [(0, Value.int .i64 n)] by simp [hx]]
    kernel_rfl
  · exact h _ _ (Nat.le_refl _) (by simp) ((Ext.refl w).alloc _) trivial
/-- an array, laid for an append -/
theorem lit_arr {op : Oper} {a : Act} {w : World} {K : Act → World → Prop} {Q : Exit → Act → World → Prop} {x : Operand} {b : Bx} (ho : op.op = .buildSlice 24 1 #[(0, x)]) (hx : a.eval x = .agg b.cells.toArray)
    (h : ∀ B w', w.heap.size ≤ B → B < w'.heap.size → Ext w w' → Sl w' 9 (some ⟨B, 0, none⟩) 1 b.cells → K (a.put op.dst (.slice (some ⟨B, 0, none⟩) 1 1)) w') : op.wp Try.prog a w K Q := by
  obtain ⟨i, hi, h2⟩ := Option.map_eq_some_iff.1 infoArr2
  simp only [Prod.mk.injEq] at h2
  refine wp_buildSlice 24 37 1 #[(0, x)] ho b.cells.toArray i zeroArr Try.underlying24 hi h2.1 (by rw [h2.2.1]; decide) (by rw [h2.2.1]; decide) ?_ ?_
  · rw [h2.2.1]
    rw [show (#[((0 : Nat), x)].map fun (i, x) => (i, a.eval x)).toList = [(0, Value.agg b.cells.toArray)] by simp [hx]]
    kernel_rfl
  · exact h _ _ (Nat.le_refl _) (by simp) ((Ext.refl w).alloc _) (Sl.built w b.cells.toArray 37)
/-- an array, appended to a row of one's own -/
theorem app_bx {op : Oper} {a : Act} {w : World} {K : Act → World → Prop} {Q : Exit → Act → World → Prop} {sl x : Operand} (ho : op.op = .call { callee := .builtin .append, args := #[sl, x], argTypes := #[24, 24] })
    {base k : Nat} {v : Value} {xs : List Value} (hs : a.eval sl = v) (hown : RowA w base v k xs) {ad : Addr} {b : Bx} (hx : a.eval x = .slice (some ad) 1 1) (hr : Sl w 9 (some ad) 1 b.cells) (hlim : k ≤ 1048576) (hbase : base ≤ w.heap.size)
    (h : ∀ A' c' w', RowA w' base (.slice A' (k + 1) c') (k + 1) (xs ++ b.cells) → w.grownBy w' v.ownBlock → ((Value.slice A' (k + 1) c').ownBlock = v.ownBlock ∨ (Value.slice A' (k + 1) c').ownBlock = some w.heap.size) → w.heap.size ≤ w'.heap.size → K (a.put op.dst (.slice A' (k + 1) c')) w') : op.wp Try.prog a w K Q := by
  obtain ⟨i, hi, h2⟩ := Option.map_eq_some_iff.1 infoArr2
  simp only [Prod.mk.injEq] at h2
  obtain ⟨ad', e, _, hc⟩ := hr.2 (by omega)
  cases e
  have h1 : ∀ u ∈ b.cells, u.oneCell' = true := fun u hu => arrs_one [b] u (by simpa [arrs] using hu)
  obtain ⟨v', w', hrun, h3, h4, _, h5⟩ := run_append_own_at (P := Try.prog) w base 24 op.type 37 i zeroArr 9 184 Try.underlying24 hi h2.1 h2.2.1 h2.2.2 rfl (by omega) v k xs hown ad 1 1 b.cells rfl hc h1 (by simp only [maxLen]; omega) (by omega) hbase
  obtain ⟨A', c', rfl, _, _⟩ := own_form h3
  unfold Oper.wp execOp
  simp only [ho, resolve, invoke, builtin, Sem.run_bind, Sem.run_pure, Result.andThen_ok, List.map_toArray, List.map_cons, List.map_nil, hs, hx, hrun]
  exact h A' c' w' h3 h4 h5 h4.size
/-- a Vec inside a block, loaded -/
theorem yields_vec {ops : Array Oper} {S : World → Prop} {op : Oper} {a : Act} {x : Operand} {B o : Nat} {c0 c1 c2 c3 c4 c5 c6 c7 : Value} (hw : Region.wanted op (yielded ops a.tmps) = true) (ho : op.op = .load 34 x) (hx : a.eval x = .pointer (some ⟨B, o, none⟩)) (hS : ∀ w, S w → w.rangeAt B o [c0, c1, c2, c3, c4, c5, c6, c7]) : YieldsIf Try.prog ops S op (.agg #[c0, c1, c2, c3, c4, c5, c6, c7]) a := by
  obtain ⟨d, hu, hd⟩ := rowV
  exact yieldsIf_load_mid hw 34 x ho B o hx [c0, c1, c2, c3, c4, c5, c6, c7] d hS hu hd szV
/-- what holds in every later world -/
def Kp (P : World → Prop) (w : World) : Prop := ∀ w', Ext w w' → P w'
theorem Kp.ext {P : World → Prop} {w w' : World} (h : Kp P w) (hx : Ext w w') : Kp P w' := fun w2 h2 => h w2 (hx.trans h2)
theorem Kp.is {P : World → Prop} {w : World} (h : Kp P w) : P w := h w (Ext.refl w)
theorem boxes_s (A : Option Addr) (cs : List Value) (n c : Nat) (h1 : ∀ u ∈ cs, u.oneCell' = true) (w : World) (hl : n ≤ 1048576) (hs : Sl w 9 A n cs) : Calls Try.prog 10 #[.slice A n c] w fun e w' => ∃ v, e = .returned v ∧ VecS w' v (VD.boxes cs) (New w.heap.size) ∧ Ext w w' := by
  have hlen := hs.1
  have hc := fun w hs => cloneArr A n c cs w hs h1 (by omega)
  have HS := hs
  have H1 := Lib.hid h1
  have HL := Lib.hid hlen
  clear hs h1 hlen
  have E := Ext.refl w
  go_enter Try.func10, Try.ntmps10
  go_wp2_with (refine allocsV rfl rfl ?_; intro B2 w2 bB2 cB2 x L2 R2; have z1 := x.size; replace E := E.trans x; replace HS := HS.ext x; clear x)
  refine (hc _ HS).mono ?_
  rintro e w3 ⟨v, rfl, hown, x⟩
  have z2 := x.size
  replace E := E.trans x
  replace HS := HS.ext x
  replace L2 := L2.ext x
  replace R2 := R2.ext x
  clear x
  clear HS
  have hof := own_form hown
  obtain ⟨B, cb, rfl, -, -⟩ := own_form hown
  have V1 : VecS w3 (.agg #[.int .i64 6, .slice none 0 0, .int .i64 0, .slice none 0 0, .slice none 0 0, .slice none 0 0, .slice none 0 0, .slice B n cb]) (VD.boxes cs) (New w2.heap.size) := VecS.mk (.inr (.inr (.inr (.inr (.inr (.inr ⟨n, cs, B, cb, rfl, hl, HL.out, H1.out, rfl, Sl.own hown⟩)))))) (In.one (A := B) (n := n) (c := cb) (fun a ha => by obtain ⟨A', c', e', _, hA⟩ := hof; cases e'; exact (hA a ha).1) (.inr rfl) ⟨_, rfl⟩ (.inr rfl) (.inr rfl) (.inr rfl) (.inr rfl) (.inl rfl))
  have hF := V1.is.flat
  clear hown hof
  go_wp2_with (have hRl := (R2).lt (Nat.zero_lt_succ _); refine storesV (B := B2) rfl rfl rfl (v := (.agg #[.int .i64 6, .slice none 0 0, .int .i64 0, .slice none 0 0, .slice none 0 0, .slice none 0 0, .slice none 0 0, .slice B n cb])) rfl R2 hF ?_; clear L2; intro w4 g L2 RQ; have z3 := g.size; replace E := grown_ext E g (by omega); replace V1 := V1.grown g (by dsimp only [New]; omega); clear R2; have R2 := RQ; clear RQ hRl; clear g)
  exact bodyPost_ret (results_lay rfl rfl (ldV L2)) rfl ⟨_, rfl, V1.mono (fun i _ h => by dsimp only [New] at *; omega), E⟩
end Go.Proofs.Ytmjikdkdccnbaaa
