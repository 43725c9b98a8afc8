/- EnvPlays: the arguments opened; the document's row of frames; the frames' list. -/
import Derived.Test.YtdkgiklbmbkdaaaEp
import Derived.Test.YtdkgiklbmbkdaaaOs
namespace Go.Proofs.Ytdkgiklbmbkdaaa
open Go.ChangeShapes Go.WideShapes Go.RowKit Go.Maps Go.Deep Bv Fl
set_option maxHeartbeats 1000000
set_option maxRecDepth 100000
/-- an act: kind, frame, name, number -/
structure Ac where
  k : Int
  f : Int
  nm : ByteArray
  n : Int
instance : Inhabited Ac := ⟨⟨0, 0, ByteArray.empty, 0⟩⟩
def Ac.cells (x : Ac) : List Value := [.int .i64 x.k, .int .u8 x.f, .string x.nm, .int .u8 x.n]
def Ac.val (x : Ac) : Value := .agg #[.int .i64 x.k, .int .u8 x.f, .string x.nm, .int .u8 x.n]
structure Ac.ok (x : Ac) : Prop where
  k : (Lit.int .i64 x.k).wf = true
  f : (Lit.int .u8 x.f).wf = true
  nm : x.nm.size ≤ maxLen
  n : (Lit.int .u8 x.n).wf = true
def acc (l : List Ac) : List Value := l.flatMap Ac.cells
section
variable {H : Type} {enc : TypeId × Value → H} {P : Program} {w : World}
/-- cells that read as a slice of elements of s cells each -/
theorem slice_csN {α : Type} [Inhabited α] (con : α → List Value) (s : Nat) (hs : 0 < s) (hlen : ∀ x, (con x).length = s) (R : α → Prop) {t e : TypeId} {n : Nat} {cs : List Value} {x : DataW H × List MemPlace} (ht : P.underlying t = some (.slice e)) (hc : P.cellsOf e = s)
    (hcon : ∀ m cs y, m < n → DataW.trod enc P w 0 (fun _ => true) true m e cs = some y → ∃ x, cs = con x ∧ R x)
    (h : DataW.trod enc P w 0 (fun _ => true) true n t cs = some x) :
    ∃ (A : Option Addr) (l : List α) (c : Nat), cs = [.slice A l.length c] ∧ l.length ≤ c ∧ c ≤ maxLen ∧ Sl w s A l.length (l.flatMap con) ∧ ∀ x ∈ l, R x := by
  rcases DataW.trod_slice ht h with ⟨rfl, _⟩ | ⟨a, len, cap, elems, rest, m, rfl, rfl, _, _, hl, hm, hlel, hel, _, _⟩
  · exact ⟨none, [], 0, rfl, Nat.le_refl _, Nat.zero_le _, Sl.nil _ _ _, fun x hx => by cases hx⟩
  rw [hc] at hel
  have hx : ∀ i, i < len → ∃ x : α, w.cells? 0 (a.add (i * s)) s = some (con x) ∧ R x := fun i hi => by
    have := hel i hi
    rw [List.getElem?_eq_getElem (by omega)] at this
    obtain ⟨cs', h1, h2⟩ := Option.bind_eq_some_iff.1 this
    obtain ⟨x, rfl, hR⟩ := hcon _ _ _ (Nat.lt_succ_self _) h2
    exact ⟨x, h1, hR⟩
  obtain ⟨X, hX⟩ := choose_lt (α := α) (p := fun i y => w.cells? 0 (a.add (i * s)) s = some (con y) ∧ R y) hx
  have hXl : ((List.range len).map X).length = len := by simp
  refine ⟨some a, (List.range len).map X, cap, by rw [hXl], by rw [hXl]; exact hl, hm, ?_, ?_⟩
  · rw [hXl]
    refine ⟨by rw [fm_length con s hlen, hXl], fun h0 => ⟨a, rfl, ?_, fun j u hu => ?_⟩⟩
    · have h1 := (hX 0 (Nat.pos_of_ne_zero fun e => by rw [e] at h0; omega)).1
      have h2 := World.cells?_block h1 hs
      rwa [addr_block] at h2
    · have hj : j < len * s := by
        have h3 : j < (((List.range len).map X).flatMap con).length := by
          rcases Nat.lt_or_ge j (((List.range len).map X).flatMap con).length with h | h
          · exact h
          · rw [List.getElem?_eq_none h] at hu; cases hu
        rwa [fm_length con s hlen, hXl] at h3
      have hi : j / s < len := (Nat.div_lt_iff_lt_mul hs).2 hj
      have hf : j % s < s := Nat.mod_lt _ hs
      have e : j / s * s + j % s = j := Nat.div_add_mod' j s
      have hg := fm_get con s hlen ((List.range len).map X) (j / s) (j % s) (by rw [hXl]; exact hi) hf
      rw [e, hu] at hg
      simp only [List.getElem_map, List.getElem_range] at hg
      have h1 := (hX _ hi).1
      obtain ⟨_, hl2, hc2⟩ := World.cells?_some h1
      have h2 := hc2 (j % s) hf
      rw [addr_addE, e] at h2
      rw [h2, ← hg]
  · intro y hy
    obtain ⟨i, hi, rfl⟩ := List.mem_map.1 hy
    exact (hX i (by have := List.mem_range.1 hi; omega)).2
theorem el_string {e : TypeId} (he : P.underlying e = some .string) (n : Nat) (v : Value) (y : DataW H × List MemPlace) (h : DataW.trod enc P w 0 (fun _ => true) true n e [v] = some y) : ∃ x : ByteArray, v = .string x ∧ x.size ≤ maxLen := by
  obtain ⟨x, h1, _, h2⟩ := DataW.trod_string he h
  exact ⟨x, by simpa using h1, h2⟩
end
section
variable {H : Type} {enc : TypeId × Value → H} {w : World}
theorem act_cs (m : Nat) (cs : List Value) (y : DataW H × List MemPlace) (h : DataW.trod enc Try.prog w 0 (fun _ => true) true m 29 cs = some y) : ∃ x : Ac, cs = x.cells ∧ x.ok := by
  obtain ⟨xs, n, rfl, rfl, hl, hlen, hf⟩ := DataW.trod_struct Try.underlying29 h
  have k4 : Try.prog.cellsOf 29 = 4 := by kernel_rfl
  have ki : Try.prog.cellsOf 3 = 1 := by kernel_rfl
  have ku : Try.prog.cellsOf 5 = 1 := by kernel_rfl
  have ks : Try.prog.cellsOf 9 = 1 := by kernel_rfl
  rw [k4] at hl
  match xs, hlen, cs, hl with
  | [y0, y1, y2, y3], _, [c0, c1, c2, c3], _ =>
    have h0 : DataW.trod enc Try.prog w 0 (fun _ => true) true n 3 [c0] = some y0 := by have := hf 0 _ rfl; simpa [ki] using this
    have h1 : DataW.trod enc Try.prog w 0 (fun _ => true) true n 5 [c1] = some y1 := by have := hf 1 _ rfl; simpa [ku] using this
    have h2 : DataW.trod enc Try.prog w 0 (fun _ => true) true n 9 [c2] = some y2 := by have := hf 2 _ rfl; simpa [ks] using this
    have h3 : DataW.trod enc Try.prog w 0 (fun _ => true) true n 5 [c3] = some y3 := by have := hf 3 _ rfl; simpa [ku] using this
    obtain ⟨a0, rfl, w0⟩ := el_int Try.underlying3 _ _ _ h0
    obtain ⟨a1, rfl, w1⟩ := el_int Try.underlying5 _ _ _ h1
    obtain ⟨a2, rfl, w2⟩ := el_string Try.underlying9 _ _ _ h2
    obtain ⟨a3, rfl, w3⟩ := el_int Try.underlying5 _ _ _ h3
    exact ⟨⟨a0, a1, a2, a3⟩, rfl, ⟨w0, w1, w2, w3⟩⟩
/-- the argument acts -/
theorem acts_arg {r : Reach} {b0 : Nat} {v : Value} {d : DataW H} {ps : List MemPlace} (hval : Value.okWide Try.prog w r b0 22 v) (h : DataW.Trod enc Try.prog w 0 (fun _ => true) true 22 v d ps) :
    ∃ (A : Option Addr) (l : List Ac) (c : Nat), v = .slice A l.length c ∧ l.length ≤ c ∧ c ≤ maxLen ∧ Sl w 4 A l.length (acc l) ∧ ∀ x ∈ l, x.ok := by
  obtain ⟨a, len, cap, rfl⟩ := okWide_slice Try.underlying22 hval
  obtain ⟨fuel, hf⟩ := h
  obtain ⟨A, l, c, h1, h2⟩ := slice_csN Ac.cells 4 (by omega) (fun _ => rfl) Ac.ok Try.underlying22 (by kernel_rfl) (fun m cs y _ h => act_cs m cs y h) hf
  simp [Value.cells] at h1
  obtain ⟨rfl, rfl, rfl⟩ := h1
  exact ⟨a, l, cap, rfl, h2⟩
end
theorem cell_spotE {w : World} {p : Addr} {u : Value} (h : w.cell? p = some u) : p = ⟨p.block, p.off, none⟩ := by
  obtain ⟨b, o, q⟩ := p
  cases q with
  | none => rfl
  | some q =>
    unfold World.cell? at h
    split at h
    · simp at h
    · cases h
/-- an act of the argument, loaded -/
def ActAt (w : World) (p : Addr) (x : Ac) : Prop := ∀ j u, x.cells[j]? = some u → w.cell? (p.add j) = some u
theorem ActAt.ext {w w' : World} {p : Addr} {x : Ac} (h : ActAt w p x) (hx : Ext w w') : ActAt w' p x := fun j u hu => cell_ext hx (h j u hu)
theorem act_at {w : World} {A : Option Addr} {n k : Nat} {l : List Ac} (hn : n = l.length) (h : Sl w 4 A n (acc l)) (hk : k < n) : ∃ a, A = some a ∧ ActAt w (a.add (k * 4)) (l.getD k default) := by
  obtain ⟨a, e, _, hc⟩ := sl_at Ac.cells (by omega) (fun _ => rfl) hn h hk
  exact ⟨a, e, fun j u hu => hc j u hu⟩
theorem loads_act {ops : Array Oper} {rest : List Oper} {op : Oper} {a : Act} {w : World} {Q : Exit → Act → World → Prop} {x : Operand} (hgd : op.guard = none) (ho : op.op = .load 29 x)
    {p : Addr} (hx : a.eval x = .pointer (some p)) {y : Ac} (hl : ActAt w p y) (h : wpList Try.prog ops Q rest (a.put op.dst (.agg #[.int .i64 y.k, .int .u8 y.f, .string y.nm, .int .u8 y.n])) w) : wpList Try.prog ops Q (op :: rest) a w :=
  wpList_plain hgd fun _ hK => by
    have h0 : w.cell? p = some (.int .i64 y.k) := by have := hl 0 _ rfl; unfold Addr.add at this; simpa using this
    have hp := cell_spotE h0
    have hr : (loadVar 29 p).run Try.prog w = .ok y.val w := by
      have := run_loadVar_mid (P := Try.prog) w p.block p.off 29 y.cells _ (fun j v hv => by
        have := hl j v hv
        rw [hp, Addr.add_mid] at this
        exact this) Try.underlying29 rfl (by kernel_rfl)
      rw [← hp] at this
      exact this
    unfold Oper.wp execOp
    simp only [ho, hx, Instr.loadAt, Instr.sureAddr, Sem.run_bind, Sem.run_pure, Result.andThen_ok, hr]
    exact hK _ _ h
/-- the document's row of three frames may be written -/
def RM (w : World) (ar : Addr) : Prop := ar = ⟨ar.block, 0, none⟩ ∧ Room 6 w ar.block
theorem RM.ext {w w' : World} {ar : Addr} (h : RM w ar) (hx : Ext w w') : RM w' ar := ⟨h.1, h.2.ext hx⟩
theorem RM.grown {w w' : World} {ar : Addr} {g : Nat} (h : RM w ar) (hg : w.grownBy w' (some g)) (hne : ar.block ≠ g) : RM w' ar := ⟨h.1, h.2.grown hg hne⟩
theorem fr_addr {ar : Addr} (h : ar = ⟨ar.block, 0, none⟩) (k : Nat) : ar.add k = ⟨ar.block, k, none⟩ := by
  rw [h, Addr.add_mid, Nat.zero_add]
theorem store_fr {op : Oper} {a : Act} {w : World} {K : Act → World → Prop} {Q : Exit → Act → World → Prop} {x y : Operand} (ho : op.op = .store 33 x y) {ar : Addr} {k : Nat} (hk : k < 3)
    (hx : a.eval x = .pointer (some (ar.add (k * 2)))) {A : Option Addr} {n c : Nat} {A2 : Option Addr} {n2 c2 : Nat} (hy : a.eval y = .agg #[.slice A n c, .slice A2 n2 c2]) (hr : RM w ar) {V F : Nat → List Pr} {base : Nat} (hR : RF w ar V F base) (hb : ar.block < base) {V' F' : List Pr} (HV : FL w A n V' base) (HF : FL w A2 n2 F' base)
    (h : ∀ w', w.grownBy w' (some ar.block) → RM w' ar → RF w' ar (updF V k V') (updF F k F') base → K (a.put op.dst undef) w') : op.wp Try.prog a w K Q := by
  obtain ⟨har, hroom⟩ := hr
  have hsz : (Try.prog.info? 33).map (·.size) = some 2 := by kernel_rfl
  have hth : w.there ar.block (k * 2) 2 := fun j hj => by
    have := hroom (k * 2 + j) (by omega)
    rwa [Nat.zero_add] at this
  have hrun := run_storeVar_mid (P := Try.prog) w ar.block (k * 2) 33 #[.slice A n c, .slice A2 n2 c2] hth hsz (by simp [Value.oneCell'])
  have hg1 := grown_set (World.grownBy.refl w (some ar.block)) (j := k * 2) (.slice A n c)
  have hg : w.grownBy (w.setCells ar.block (k * 2) [.slice A n c, .slice A2 n2 c2]) (some ar.block) := grown_set hg1 (j := k * 2 + 1) (.slice A2 n2 c2)
  have hsame := World.rangeAt_setCells_same w ar.block (k * 2) [.slice A n c, .slice A2 n2 c2] hth
  have hthere := World.there_setCells hroom ar.block (k * 2) [.slice A n c, .slice A2 n2 c2]
  unfold Oper.wp execOp
  rw [fr_addr har] at hx
  simp only [ho, hx, hy, Instr.storeAt, Instr.sureAddr, Sem.run_bind, Sem.run_pure, Result.andThen_ok, hrun]
  refine h _ hg ⟨har, hthere⟩ fun i hi => ?_
  by_cases e : i = k
  · subst e
    rw [updF_same, updF_same]
    refine ⟨A, n, c, A2, n2, c2, ?_, ?_, HV.1, HF.1, HV.2.grown hg (by dsimp only [New]; omega), HF.2.grown hg (by dsimp only [New]; omega)⟩
    · rw [fr_addr har]; exact hsame 0 _ rfl
    · rw [fr_addr har]; exact hsame 1 _ rfl
  · rw [updF_other _ _ e, updF_other _ _ e]
    obtain ⟨B, m, d, B2, m2, d2, h1, h2, h3, h4, h5, h6⟩ := hR i hi
    have hother : ∀ q u, q ≠ k * 2 → q ≠ k * 2 + 1 → w.cell? ⟨ar.block, q, none⟩ = some u → (w.setCells ar.block (k * 2) [.slice A n c, .slice A2 n2 c2]).cell? ⟨ar.block, q, none⟩ = some u := fun q u n1 n2 hq => by
      rw [World.cell?_setCells_out ar.block _ (k * 2) w ⟨ar.block, q, none⟩ (fun _ _ => by simp; omega)]
      exact hq
    rw [fr_addr har] at h1 h2
    refine ⟨B, m, d, B2, m2, d2, ?_, ?_, h3, h4, h5.grown hg (by dsimp only [New]; omega), h6.grown hg (by dsimp only [New]; omega)⟩
    · rw [fr_addr har]; exact hother (i * 2) _ (by omega) (by omega) h1
    · rw [fr_addr har]; exact hother (i * 2 + 1) _ (by omega) (by omega) h2
theorem infoFr : (Try.prog.info? 33).map (fun i => (i.zero, i.size, i.bytes)) = some (some zeroFr, 2, 48) := by kernel_rfl
theorem maker_fr {ops : Array Oper} {rest : List Oper} {op : Oper} {a : Act} {w : World} {Q : Exit → Act → World → Prop} (hgd : op.guard = none) {x : Operand} (ho : op.op = .makeSlice 27 x x)
    (hx : a.eval x = .int .i64 3)
    (h : ∀ (ar : Addr) w', w.heap.size ≤ ar.block → ar.block < w'.heap.size → Ext w w' → RM w' ar → (∀ base, RF w' ar (fun _ => []) (fun _ => []) base) → wpList Try.prog ops Q rest (a.put op.dst (.slice (some ar) 3 3)) w') : wpList Try.prog ops Q (op :: rest) a w := by
  obtain ⟨i, hi', h2⟩ := Option.map_eq_some_iff.1 infoFr
  simp only [Prod.mk.injEq] at h2
  refine wpList_make_full w hgd x x 27 ho w.heap.size 33 i zeroFr 2 Try.underlying27 hi' h2.1 h2.2.1 .i64 .i64 _ _ 3 hx hx rfl rfl ?_ (by simp only [maxLen]; omega) (Nat.le_refl _) ?_
  · rw [h2.2.2]; omega
  · intro w' ho' hg
    have hX : Ext w w' := ext_none hg
    have hl := (World.ownsRow.lt ho' _ rfl).2
    have hxs : (madeCells zeroFr.cells (3 * 2)).toList = List.replicate 6 (.slice none 0 0) := by kernel_rfl
    rw [hxs] at ho'
    have hc : ∀ q, q < 6 → w'.cell? ⟨w.heap.size, q, none⟩ = some (.slice none 0 0) := fun q hq => by
      rw [World.ownsRow.cellAt ho' q (by omega)]
      match q, hq with
      | 0, _ | 1, _ | 2, _ | 3, _ | 4, _ | 5, _ => rfl
    refine h ⟨w.heap.size, 0, none⟩ w' (Nat.le_refl _) hl hX ⟨rfl, fun j hj => ⟨by rw [Nat.zero_add]; simp [hc j hj], by rw [Nat.zero_add]; exact World.ownsRow.frozenAt ho' j⟩⟩ fun base i hi => ?_
    refine ⟨none, 0, 0, none, 0, 0, ?_, ?_, rfl, rfl, fun _ _ _ => Sl.nil _ _ _, fun _ _ _ => Sl.nil _ _ _⟩
    · rw [Addr.add_mid]; exact hc _ (by omega)
    · rw [Addr.add_mid]; exact hc _ (by simp; omega)
theorem infoPe : (Try.prog.info? 24).map (fun i => (i.zero, i.size, i.bytes)) = some (some (.pointer none), 1, 8) := by kernel_rfl
theorem app_pe {ops : Array Oper} {rest : List Oper} {op : Oper} {a : Act} {w : World} {Q : Exit → Act → World → Prop} (hgd : op.guard = none) {sl x : Operand} (ho : op.op = .call { callee := .builtin .append, args := #[sl, x], argTypes := #[26, 26] })
    {g k c : Nat} {xs : List Value} (hs : a.eval sl = .slice (some ⟨g, 0, none⟩) k c) (hown : w.ownsRow 0 24 1 (.slice (some ⟨g, 0, none⟩) k c) k xs) {ad : Addr} {u : Value} (hx : a.eval x = .slice (some ad) 1 1) (hr : ∀ j v, [u][j]? = some v → w.cell? (ad.add j) = some v) (h1 : u.oneCell' = true)
    (hlim : k ≤ 1048576) (h : ∀ (gl : Nat) c' w', w'.ownsRow 0 24 1 (.slice (some ⟨gl, 0, none⟩) (k + 1) c') (k + 1) (xs ++ [u]) → w.grownBy w' (some g) → (gl = g ∨ gl = w.heap.size) → gl < w'.heap.size → wpList Try.prog ops Q rest (a.put op.dst (.slice (some ⟨gl, 0, none⟩) (k + 1) c')) w') : wpList Try.prog ops Q (op :: rest) a w := by
  obtain ⟨i, hi, h2⟩ := Option.map_eq_some_iff.1 infoPe
  simp only [Prod.mk.injEq] at h2
  refine wpList_append_own_at w hgd sl x 26 ho 0 24 i (.pointer none) 1 8 Try.underlying26 hi h2.1 h2.2.1 h2.2.2 rfl (by omega) _ k xs hs hown ad 1 1 [u] hx rfl hr (by intro v hv; simp at hv; subst hv; exact h1) (by simp only [maxLen]; omega) (by omega) (Nat.zero_le _) fun v' w' r1 r2 _ r4 => ?_
  obtain ⟨A, c', rfl, _, hA⟩ := own_form r1
  obtain ⟨al, rfl, hlt, _⟩ := (Sl.own r1).2 (by omega)
  have hal := (hA al rfl).2.2
  obtain ⟨gl, rfl⟩ : ∃ gl, al = ⟨gl, 0, none⟩ := ⟨_, hal⟩
  refine h gl c' w' r1 r2 ?_ hlt
  rcases r4 with r4 | r4 <;> simp only [Value.ownBlock, Option.some.injEq] at r4
  · exact .inl r4
  · exact .inr r4
theorem app_peL {ops : Array Oper} {rest : List Oper} {op : Oper} {a : Act} {w : World} {Q : Exit → Act → World → Prop} (hgd : op.guard = none) {sl x : Operand} (ho : op.op = .call { callee := .builtin .append, args := #[sl, x], argTypes := #[26, 26] })
    {g k c : Nat} {xs : List Value} (hs : a.eval sl = .slice (some ⟨g, 0, none⟩) k c) (hown : w.ownsRow 0 24 1 (.slice (some ⟨g, 0, none⟩) k c) k xs) {ad : Addr} {u : Value} (hx : a.eval x = .slice (some ad) 1 1) (hr : ∀ j v, [u][j]? = some v → w.cell? (ad.add j) = some v) (h1 : u.oneCell' = true)
    (hlim : k ≤ 1048576) (h : ∀ (al : Addr) c' w', (∀ j v, (xs ++ [u])[j]? = some v → w'.cell? (al.add j) = some v) → w.grownBy w' (some g) → (al.block = g ∨ al.block = w.heap.size) → al.block < w'.heap.size → wpList Try.prog ops Q rest (a.put op.dst (.slice (some al) (k + 1) c')) w') : wpList Try.prog ops Q (op :: rest) a w := by
  refine app_pe hgd ho hs hown hx hr h1 hlim fun gl c' w' r1 r2 r3 r4 => h ⟨gl, 0, none⟩ c' w' (fun j v hv => ?_) r2 r3 r4
  obtain ⟨b, eb, _, hc⟩ := (Sl.own r1).2 (by omega)
  cases eb
  exact hc j v hv
/-- a literal of one element is a row of one's own -/
theorem lit_own (w : World) (u : Value) (T : TypeId) : (w.alloc (.cells #[u] T)).ownsRow 0 T 1 (.slice (some ⟨w.heap.size, 0, none⟩) 1 1) 1 [u] :=
  ⟨rfl, .inr ⟨w.heap.size, 1, #[u], rfl, Nat.zero_le _, heap_alloc_new w _, Nat.le_refl _, by simp only [maxLen]; omega, rfl, rfl⟩⟩
theorem newP0 (w : World) : Calls Try.prog 5 #[.pointer none] w fun e w' => ∃ B bm bf, e = .returned (.pointer (some ⟨B, 0, none⟩)) ∧ (w.heap.size ≤ bm ∧ bm < bf ∧ bf < B ∧ B < w'.heap.size) ∧ w'.cell? ⟨B, 0, none⟩ = some (.pointer none) ∧ w'.cell? ⟨B, 1, none⟩ = some (.map (some bm)) ∧ w'.cell? ⟨B, 2, none⟩ = some (.map (some bf)) ∧ w'.cell? ⟨B, 3, none⟩ = some (.int .i64 0) ∧ OM w' bm 0 (.map []) ∧ OM w' bf 0 (.map []) ∧ Ext w w' := by
  refine (new_nil w).mono ?_
  rintro e w' ⟨rfl, h⟩
  have h0 : w'.cell? ⟨w.heap.size + 2, 0, none⟩ = some (.pointer none) := by subst h; simp [cell_new2]
  obtain ⟨h1, h2, h3, h4, h5, h6, _, _, h7⟩ := new_facts w _ _ _ h
  exact ⟨_, _, _, rfl, ⟨Nat.le_refl _, by omega, by omega, h6⟩, h0, h1, h2, h3, h4, h5, h7⟩
theorem newP (w : World) (P : Nat) (d : Int) (hd : 0 ≤ d ∧ d < 1000) (hc : w.cell? ⟨P, 3, none⟩ = some (.int .i64 d)) : Calls Try.prog 5 #[.pointer (some ⟨P, 0, none⟩)] w fun e w' => ∃ B bm bf, e = .returned (.pointer (some ⟨B, 0, none⟩)) ∧ (w.heap.size ≤ bm ∧ bm < bf ∧ bf < B ∧ B < w'.heap.size) ∧ w'.cell? ⟨B, 0, none⟩ = some (.pointer (some ⟨P, 0, none⟩)) ∧ w'.cell? ⟨B, 1, none⟩ = some (.map (some bm)) ∧ w'.cell? ⟨B, 2, none⟩ = some (.map (some bf)) ∧ w'.cell? ⟨B, 3, none⟩ = some (.int .i64 (d + 1)) ∧ OM w' bm 0 (.map []) ∧ OM w' bf 0 (.map []) ∧ Ext w w' := by
  refine (new_par w P d hd hc).mono ?_
  rintro e w' ⟨rfl, h⟩
  have h0 : w'.cell? ⟨w.heap.size + 2, 0, none⟩ = some (.pointer (some ⟨P, 0, none⟩)) := by subst h; simp [cell_new2]
  obtain ⟨h1, h2, h3, h4, h5, h6, _, _, h7⟩ := new_facts w _ _ _ h
  exact ⟨_, _, _, rfl, ⟨Nat.le_refl _, by omega, by omega, h6⟩, h0, h1, h2, h3, h4, h5, h7⟩
theorem wf_u8 {x : Int} (h : (Lit.int .u8 x).wf = true) : ∃ z : Nat, x = z ∧ z < 256 := by
  have h1 : IntKind.u8.min ≤ x ∧ x ≤ IntKind.u8.max := by simpa [Lit.wf] using h
  have h2 : 0 ≤ x ∧ x ≤ 255 := h1
  exact ⟨x.toNat, by omega, by omega⟩
theorem number_av (z : Nat) (hz : z < 256) (base : Nat) (w : World) (hb : base ≤ w.heap.size) : Calls Try.prog 8 #[.int .u8 (z : Int)] w fun e w' => ∃ v, e = .returned v ∧ AV w' v z base ∧ Ext w w' := by
  refine (number_any z hz w).mono ?_
  rintro e w' ⟨A1, n1, k1, bn, A3, n3, k3, A4, n4, k4, A5, n5, k5, A6, n6, k6, A7, n7, k7, rfl, hq, x⟩
  exact ⟨_, rfl, ⟨_, A1, n1, k1, bn, A3, n3, k3, A4, n4, k4, A5, n5, k5, A6, n6, k6, A7, n7, k7, rfl, hq.mono (fun i _ h => by dsimp only [New] at *; omega)⟩, x⟩
theorem updF_self {α : Type} (f : Nat → α) (k : Nat) : updF f k (f k) = f := by
  funext i
  by_cases e : i = k
  · subst e; rw [updF_same]
  · rw [updF_other _ _ e]
theorem EE.more {w : World} {base : Nat} {B bm bf : Nat → Nat} {al : Addr} {V F : Nat → List Pr} {N N' : Nat} {DV DF : Nat → DataW Value} (h : EE w base B bm bf al V F N DV DF) (hN : N ≤ N') : EE w base B bm bf al V F N' DV DF :=
  ⟨h.ord, h.c0, h.c1, h.c2, h.c3, h.l, fun i hi => (h.vs i hi).more hN, fun i hi => (h.fs i hi).more hN⟩
theorem upd_len {V F : Nat → List Pr} (h : ∀ i, i < 3 → (V i).length + (F i).length ≤ 64) {k : Nat} (hk : k < 3) (s : ByteArray) (z : Int) : (∀ i, i < 3 → (updF V k (upL (V k) (F k) s z) i).length + (F i).length ≤ 64) ∧ ∀ i, i < 3 → (V i).length + (updF F k (upL (F k) (V k) s z) i).length ≤ 64 := by
  refine ⟨fun i hi => ?_, fun i hi => ?_⟩
  · by_cases e : i = k
    · subst e; rw [updF_same]; exact upL_len (h i hi)
    · rw [updF_other _ _ e]; exact h i hi
  · by_cases e : i = k
    · subst e; rw [updF_same]; have := upL_len (s := s) (z := z) (show (F i).length + (V i).length ≤ 64 by have := h i hi; omega); omega
    · rw [updF_other _ _ e]; exact h i hi
theorem load_fr {op : Oper} {a : Act} {w : World} {K : Act → World → Prop} {Q : Exit → Act → World → Prop} {x : Operand} (ho : op.op = .load 33 x)
    {p : Addr} (hx : a.eval x = .pointer (some p)) {A : Option Addr} {n c : Nat} {A2 : Option Addr} {n2 c2 : Nat} (hS : w.cell? p = some (.slice A n c) ∧ w.cell? ⟨p.block, p.off + 1, none⟩ = some (.slice A2 n2 c2)) (h : K (a.put op.dst (.agg #[.slice A n c, .slice A2 n2 c2])) w) : op.wp Try.prog a w K Q := by
  obtain ⟨h0, h1⟩ := hS
  have hp := cell_spotE h0
  obtain ⟨d, hu, hd⟩ := rowF
  have hr : (loadVar 33 p).run Try.prog w = .ok (.agg #[.slice A n c, .slice A2 n2 c2]) w := by
    have := run_loadVar_mid (P := Try.prog) w p.block p.off 33 [.slice A n c, .slice A2 n2 c2] d (fun j v hv => by
      match j, hv with
      | 0, hv => cases hv; rw [Nat.add_zero, ← hp]; exact h0
      | 1, hv => cases hv; exact h1) hu hd (by kernel_rfl)
    rw [← hp] at this
    exact this
  unfold Oper.wp execOp
  simp only [ho, hx, Instr.loadAt, Instr.sureAddr, Sem.run_bind, Sem.run_pure, Result.andThen_ok, hr]
  exact h
theorem str_at {w : World} {A : Option Addr} {n k : Nat} {l : List ByteArray} (h : Sl w 1 A n (l.map Value.string)) (hn : n = l.length) (hk : k < n) : ∃ a, A = some a ∧ w.cell? (a.add k) = some (.string (l.getD k ByteArray.empty)) ∧ l.getD k ByteArray.empty ∈ l := by
  obtain ⟨a, u, e, _, hu, hc⟩ := h.at1 hk
  have hk2 : k < l.length := by omega
  rw [List.getElem?_map, List.getElem?_eq_getElem hk2] at hu
  cases hu
  have e2 : l.getD k ByteArray.empty = l[k] := by simp [List.getD, hk2]
  exact ⟨a, e, by rw [e2]; exact hc, by rw [e2]; exact List.getElem_mem _⟩
theorem addr_add0 (a : Addr) : a.add 0 = a := by unfold Addr.add; rfl
/-- three of them -/
def tri (a b c : Nat) : Nat → Nat := fun i => if i = 0 then a else if i = 1 then b else c
theorem mv_nil {w : World} {b base : Nat} (h : OM w b 0 (.map [])) : MV w b [] base 0 (.map []) := ⟨⟨0, Nat.le_refl _, h⟩, Rel.nil, fun p hp => by cases hp⟩
theorem mf_nil {w : World} {b B0 : Nat} (h : OM w b 0 (.map [])) : MF w b [] B0 0 (.map []) := ⟨⟨0, Nat.le_refl _, h⟩, Rel.nil, fun p hp => by cases hp⟩
theorem ee_start {w : World} {base : Nat} {B0 m0 f0 B1 m1 f1 B2 m2 f2 : Nat} {al : Addr} (o1 : B0 < B1) (o2 : B1 < B2)
    (a0 : w.cell? ⟨B0, 0, none⟩ = some (.pointer none)) (a1 : w.cell? ⟨B0, 1, none⟩ = some (.map (some m0))) (a2 : w.cell? ⟨B0, 2, none⟩ = some (.map (some f0))) (a3 : w.cell? ⟨B0, 3, none⟩ = some (.int .i64 0)) (am : OM w m0 0 (.map [])) (af : OM w f0 0 (.map []))
    (b0 : w.cell? ⟨B1, 0, none⟩ = some (.pointer (some ⟨B0, 0, none⟩))) (b1 : w.cell? ⟨B1, 1, none⟩ = some (.map (some m1))) (b2 : w.cell? ⟨B1, 2, none⟩ = some (.map (some f1))) (b3 : w.cell? ⟨B1, 3, none⟩ = some (.int .i64 (0 + 1))) (bm : OM w m1 0 (.map [])) (bf : OM w f1 0 (.map []))
    (c0 : w.cell? ⟨B2, 0, none⟩ = some (.pointer (some ⟨B1, 0, none⟩))) (c1 : w.cell? ⟨B2, 1, none⟩ = some (.map (some m2))) (c2 : w.cell? ⟨B2, 2, none⟩ = some (.map (some f2))) (c3 : w.cell? ⟨B2, 3, none⟩ = some (.int .i64 (1 + 1))) (cm : OM w m2 0 (.map [])) (cf : OM w f2 0 (.map []))
    (l : ∀ j u, [Value.pointer (some ⟨B0, 0, none⟩), .pointer (some ⟨B1, 0, none⟩), .pointer (some ⟨B2, 0, none⟩)][j]? = some u → w.cell? (al.add j) = some u) :
    EE w base (tri B0 B1 B2) (tri m0 m1 m2) (tri f0 f1 f2) al (fun _ => []) (fun _ => []) 0 (fun _ => .map []) (fun _ => .map []) := by
  have hc : ∀ {i : Nat}, i < 3 → i = 0 ∨ i = 1 ∨ i = 2 := fun h => by omega
  refine ⟨fun i hi => ?_, fun i hi => ?_, fun i hi => ?_, fun i hi => ?_, fun i hi => ?_, fun i hi => ?_, fun i hi => ?_, fun i hi => ?_⟩
  · have : i = 0 ∨ i = 1 := by omega
    rcases this with rfl | rfl
    · exact o1
    · exact o2
  · rcases hc hi with rfl | rfl | rfl
    · exact a0
    · exact b0
    · exact c0
  · rcases hc hi with rfl | rfl | rfl
    · exact a1
    · exact b1
    · exact c1
  · rcases hc hi with rfl | rfl | rfl
    · exact a2
    · exact b2
    · exact c2
  · rcases hc hi with rfl | rfl | rfl
    · exact a3
    · exact b3
    · exact c3
  · rcases hc hi with rfl | rfl | rfl
    · exact l 0 _ rfl
    · exact l 1 _ rfl
    · exact l 2 _ rfl
  · rcases hc hi with rfl | rfl | rfl
    · exact mv_nil am
    · exact mv_nil bm
    · exact mv_nil cm
  · rcases hc hi with rfl | rfl | rfl
    · exact mf_nil af
    · exact mf_nil bf
    · exact mf_nil cf
end Go.Proofs.Ytdkgiklbmbkdaaa
