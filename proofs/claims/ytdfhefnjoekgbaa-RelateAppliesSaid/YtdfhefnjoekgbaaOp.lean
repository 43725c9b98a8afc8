/- A plain array, opened: its shape, its items, and what lies in their boxes. -/
import Derived.Test.YtdfhefnjoekgbaaOs
import Derived.Test.YtdfhefnjoekgbaaSl
import Derived.Lib.SmallJoins
import Derived.Deep.Strs
namespace Go.Proofs.Ytdfhefnjoekgbaa
open Go.ChangeShapes Go.WideShapes Go.RowKit Go.Deep Bv Fl
set_option maxRecDepth 100000
/-- an item: kind, number, character, and its box's slice -/
structure It where
  kind : Int
  num : Nat
  chr : Int
  bA : Option Addr
  bn : Nat
  bc : Nat
instance : Inhabited It := ⟨⟨0, 0, 0, none, 0, 0⟩⟩
def It.cells (x : It) : List Value := [.int .i64 x.kind, .float .f64 x.num, .int .i32 x.chr, .slice x.bA x.bn x.bc]
/-- a plain array's header, with what its two slices hold -/
structure Pl where
  sA : Option Addr
  sh : List Int
  sc : Nat
  iA : Option Addr
  its : List It
  ic : Nat
  fill : Int
instance : Inhabited Pl := ⟨⟨none, [], 0, none, [], 0, 0⟩⟩
def It.val (x : It) : Value := .agg #[.int .i64 x.kind, .float .f64 x.num, .int .i32 x.chr, .slice x.bA x.bn x.bc]
def Pl.cells (p : Pl) : List Value := [.slice p.sA p.sh.length p.sc, .slice p.iA p.its.length p.ic, .int .i64 p.fill]
def Pl.val (p : Pl) : Value := .agg #[.slice p.sA p.sh.length p.sc, .slice p.iA p.its.length p.ic, .int .i64 p.fill]
def itc (l : List It) : List Value := l.flatMap It.cells
def plc (l : List Pl) : List Value := l.flatMap Pl.cells
structure It.ok (x : It) : Prop where
  kind : (Lit.int .i64 x.kind).wf = true
  num : (Lit.float .f64 x.num).wf = true
  chr : (Lit.int .i32 x.chr).wf = true
  len : x.bn ≤ maxLen
structure Flt (w : World) (p : Pl) : Prop where
  shS : Sl w 1 p.sA p.sh.length (i64s p.sh)
  itS : Sl w 4 p.iA p.its.length (itc p.its)
  shL : p.sh.length ≤ maxLen
  itL : p.its.length ≤ maxLen
  shW : ∀ x ∈ p.sh, (Lit.int .i64 x).wf = true
  itW : ∀ x ∈ p.its, x.ok
  fillW : (Lit.int .i64 p.fill).wf = true
theorem Flt.ext {w w' : World} {p : Pl} (h : Flt w p) (hx : Ext w w') : Flt w' p := ⟨h.shS.ext hx, h.itS.ext hx, h.shL, h.itL, h.shW, h.itW, h.fillW⟩
/-- a plain array whose boxes lie at most so deep -/
def Deep : Nat → World → Pl → Prop
  | 0, _, _ => False
  | n + 1, w, p => Flt w p ∧ ∀ x ∈ p.its, ∃ qs : List Pl, qs.length = x.bn ∧ Sl w 3 x.bA x.bn (plc qs) ∧ ∀ q ∈ qs, Deep n w q
theorem Deep.ext {w w' : World} (hx : Ext w w') : ∀ {n : Nat} {p : Pl}, Deep n w p → Deep n w' p
  | 0, _, h => h
  | n + 1, _, h => ⟨h.1.ext hx, fun x hm => by
    obtain ⟨qs, h1, h2, h3⟩ := h.2 x hm
    exact ⟨qs, h1, h2.ext hx, fun q hq => Deep.ext hx (h3 q hq)⟩⟩
theorem Deep.succ {w : World} : ∀ {n : Nat} {p : Pl}, Deep n w p → Deep (n + 1) w p
  | 0, _, h => h.elim
  | n + 1, _, h => ⟨h.1, fun x hm => by
    obtain ⟨qs, h1, h2, h3⟩ := h.2 x hm
    exact ⟨qs, h1, h2, fun q hq => Deep.succ (h3 q hq)⟩⟩
theorem Deep.mono {w : World} {n m : Nat} {p : Pl} (h : Deep n w p) (hnm : n ≤ m) : Deep m w p := by
  induction hnm with
  | refl => exact h
  | step _ ih => exact ih.succ
theorem fm_length {α : Type} (con : α → List Value) (s : Nat) (hlen : ∀ x, (con x).length = s) (l : List α) : (l.flatMap con).length = l.length * s := by
  induction l with
  | nil => simp
  | cons a l ih => rw [List.flatMap_cons, List.length_append, ih, hlen, List.length_cons, Nat.add_mul, Nat.one_mul, Nat.add_comm]
theorem fm_get {α : Type} (con : α → List Value) (s : Nat) (hlen : ∀ x, (con x).length = s) : ∀ (l : List α) (i f : Nat) (hi : i < l.length), f < s → (l.flatMap con)[i * s + f]? = (con l[i])[f]?
  | [], i, _, hi, _ => by simp at hi
  | a :: l, 0, f, _, hf => by rw [List.flatMap_cons, Nat.zero_mul, Nat.zero_add, List.getElem?_append_left (by rw [hlen]; exact hf)]; rfl
  | a :: l, i + 1, f, hi, hf => by
    rw [List.flatMap_cons, List.getElem?_append_right (by rw [hlen, Nat.add_mul, Nat.one_mul]; omega), hlen, show (i + 1) * s + f - s = i * s + f by rw [Nat.add_mul, Nat.one_mul]; omega, fm_get con s hlen l i f (by simpa using hi) hf]
    rfl
section
variable {H : Type} {enc : TypeId × Value → H} {P : Program} {w : World}
/-- cells that read as a slice of elements of s cells each -/
theorem slice_csN {α : Type} [Inhabited α] (con : α → List Value) (s : Nat) (hs : 0 < s) (hlen : ∀ x, (con x).length = s) (R : α → Prop) {t e : TypeId} {n : Nat} {cs : List Value} {x : DataW H × List MemPlace} (ht : P.underlying t = some (.slice e)) (hc : P.cellsOf e = s)
    (hcon : ∀ m cs y, m < n → DataW.trod enc P w 0 (fun _ => true) true m e cs = some y → ∃ x, cs = con x ∧ R x)
    (h : DataW.trod enc P w 0 (fun _ => true) true n t cs = some x) :
    ∃ (A : Option Addr) (l : List α) (c : Nat), cs = [.slice A l.length c] ∧ l.length ≤ c ∧ c ≤ maxLen ∧ Sl w s A l.length (l.flatMap con) ∧ ∀ x ∈ l, R x := by
  rcases DataW.trod_slice ht h with ⟨rfl, _⟩ | ⟨a, len, cap, elems, rest, m, rfl, rfl, _, _, hl, hm, hlel, hel, _, _⟩
  · exact ⟨none, [], 0, rfl, Nat.le_refl _, Nat.zero_le _, Sl.nil _ _ _, fun x hx => by cases hx⟩
  rw [hc] at hel
  have hx : ∀ i, i < len → ∃ x : α, w.cells? 0 (a.add (i * s)) s = some (con x) ∧ R x := fun i hi => by
    have := hel i hi
    rw [List.getElem?_eq_getElem (by omega)] at this
    obtain ⟨cs', h1, h2⟩ := Option.bind_eq_some_iff.1 this
    obtain ⟨x, rfl, hR⟩ := hcon _ _ _ (Nat.lt_succ_self _) h2
    exact ⟨x, h1, hR⟩
  obtain ⟨X, hX⟩ := choose_lt (α := α) (p := fun i y => w.cells? 0 (a.add (i * s)) s = some (con y) ∧ R y) hx
  have hXl : ((List.range len).map X).length = len := by simp
  refine ⟨some a, (List.range len).map X, cap, by rw [hXl], by rw [hXl]; exact hl, hm, ?_, ?_⟩
  · rw [hXl]
    refine ⟨by rw [fm_length con s hlen, hXl], fun h0 => ⟨a, rfl, ?_, fun j u hu => ?_⟩⟩
    · have h1 := (hX 0 (Nat.pos_of_ne_zero fun e => by rw [e] at h0; omega)).1
      have h2 := World.cells?_block h1 hs
      rwa [addr_block] at h2
    · have hj : j < len * s := by
        have h3 : j < (((List.range len).map X).flatMap con).length := by
          rcases Nat.lt_or_ge j (((List.range len).map X).flatMap con).length with h | h
          · exact h
          · rw [List.getElem?_eq_none h] at hu; cases hu
        rwa [fm_length con s hlen, hXl] at h3
      have hi : j / s < len := (Nat.div_lt_iff_lt_mul hs).2 hj
      have hf : j % s < s := Nat.mod_lt _ hs
      have e : j / s * s + j % s = j := Nat.div_add_mod' j s
      have hg := fm_get con s hlen ((List.range len).map X) (j / s) (j % s) (by rw [hXl]; exact hi) hf
      rw [e, hu] at hg
      simp only [List.getElem_map, List.getElem_range] at hg
      have h1 := (hX _ hi).1
      obtain ⟨_, hl2, hc2⟩ := World.cells?_some h1
      have h2 := hc2 (j % s) hf
      rw [addr_add, e] at h2
      rw [h2, ← hg]
  · intro y hy
    obtain ⟨i, hi, rfl⟩ := List.mem_map.1 hy
    exact (hX i (by have := List.mem_range.1 hi; omega)).2
end
section
variable {H : Type} {enc : TypeId × Value → H} {w : World}
theorem item_cs (K : Pl → Prop) (m : Nat) (hpl : ∀ k cs y, k < m → DataW.trod enc Try.prog w 0 (fun _ => true) true k 89 cs = some y → ∃ p : Pl, cs = p.cells ∧ K p)
    (cs : List Value) (y : DataW H × List MemPlace) (h : DataW.trod enc Try.prog w 0 (fun _ => true) true m 125 cs = some y) :
    ∃ x : It, cs = x.cells ∧ x.ok ∧ ∃ qs : List Pl, qs.length = x.bn ∧ Sl w 3 x.bA x.bn (plc qs) ∧ ∀ q ∈ qs, K q := by
  obtain ⟨xs, n, rfl, rfl, hl, hlen, hf⟩ := DataW.trod_struct Try.underlying125 h
  have k4 : Try.prog.cellsOf 125 = 4 := by kernel_rfl
  have ki : Try.prog.cellsOf 3 = 1 := by kernel_rfl
  have kf : Try.prog.cellsOf 81 = 1 := by kernel_rfl
  have kr : Try.prog.cellsOf 21 = 1 := by kernel_rfl
  have ks : Try.prog.cellsOf 123 = 1 := by kernel_rfl
  rw [k4] at hl
  match xs, hlen, cs, hl with
  | [y0, y1, y2, y3], _, [c0, c1, c2, c3], _ =>
    have h0 : DataW.trod enc Try.prog w 0 (fun _ => true) true n 3 [c0] = some y0 := by have := hf 0 _ rfl; simpa [ki] using this
    have h1 : DataW.trod enc Try.prog w 0 (fun _ => true) true n 81 [c1] = some y1 := by have := hf 1 _ rfl; simpa [kf] using this
    have h2 : DataW.trod enc Try.prog w 0 (fun _ => true) true n 21 [c2] = some y2 := by have := hf 2 _ rfl; simpa [kr] using this
    have h3 : DataW.trod enc Try.prog w 0 (fun _ => true) true n 123 [c3] = some y3 := by have := hf 3 _ rfl; simpa [ks] using this
    obtain ⟨a0, rfl, w0⟩ := el_int Try.underlying3 _ _ _ h0
    obtain ⟨a1, rfl, w1⟩ := el_float Try.underlying81 _ _ _ h1
    obtain ⟨a2, rfl, w2⟩ := el_int Try.underlying21 _ _ _ h2
    obtain ⟨A, l, c, e3, hlc, hcm, hS, hK⟩ := slice_csN Pl.cells 3 (by omega) (fun _ => rfl) K Try.underlying123 (by kernel_rfl) (fun k cs y hk hy => hpl k cs y (by omega) hy) h3
    simp only [List.cons.injEq, and_true] at e3
    subst e3
    exact ⟨⟨a0, a1, a2, A, l.length, c⟩, rfl, ⟨w0, w1, w2, Nat.le_trans hlc hcm⟩, l, rfl, hS, hK⟩
theorem plain_cs : ∀ (n : Nat) (cs : List Value) (y : DataW H × List MemPlace), DataW.trod enc Try.prog w 0 (fun _ => true) true n 89 cs = some y → ∃ p : Pl, cs = p.cells ∧ Deep n w p := by
  intro n
  induction n using Nat.strongRecOn with
  | _ n ih =>
    intro cs y h
    obtain ⟨xs, m, rfl, rfl, hl, hlen, hf⟩ := DataW.trod_struct Try.underlying89 h
    have k3 : Try.prog.cellsOf 89 = 3 := by kernel_rfl
    have ki : Try.prog.cellsOf 3 = 1 := by kernel_rfl
    have kn : Try.prog.cellsOf 50 = 1 := by kernel_rfl
    have ks : Try.prog.cellsOf 87 = 1 := by kernel_rfl
    rw [k3] at hl
    match xs, hlen, cs, hl with
    | [y0, y1, y2], _, [c0, c1, c2], _ =>
      have h0 : DataW.trod enc Try.prog w 0 (fun _ => true) true m 50 [c0] = some y0 := by have := hf 0 _ rfl; simpa [kn] using this
      have h1 : DataW.trod enc Try.prog w 0 (fun _ => true) true m 87 [c1] = some y1 := by have := hf 1 _ rfl; simpa [ks] using this
      have h2 : DataW.trod enc Try.prog w 0 (fun _ => true) true m 3 [c2] = some y2 := by have := hf 2 _ rfl; simpa [ki] using this
      obtain ⟨A, l, c, e0, hlc, hcm, hS, hW⟩ := slice_cs (fun (x : Int) => Value.int .i64 x) (fun x => (Lit.int .i64 x).wf = true) Try.underlying50 (by kernel_rfl) (el_int Try.underlying3) h0
      obtain ⟨B, q, d, e1, hqd, hdm, hT, hK⟩ := slice_csN It.cells 4 (by omega) (fun _ => rfl) (fun x => x.ok ∧ ∃ qs : List Pl, qs.length = x.bn ∧ Sl w 3 x.bA x.bn (plc qs) ∧ ∀ q ∈ qs, Deep m w q) Try.underlying87 (by kernel_rfl)
        (fun k cs y hk hy => by
          obtain ⟨x, h1, h2, h3⟩ := item_cs (Deep m w) k (fun j cs y hj hy => by
            obtain ⟨p, h1, h2⟩ := ih j (by omega) cs y hy
            exact ⟨p, h1, h2.mono (by omega)⟩) cs y hy
          exact ⟨x, h1, h2, h3⟩) h1
      obtain ⟨f, rfl, wf⟩ := el_int Try.underlying3 _ _ _ h2
      simp only [List.cons.injEq, and_true] at e0 e1
      subst e0
      subst e1
      exact ⟨⟨A, l, c, B, q, d, f⟩, rfl, ⟨hS, hT, Nat.le_trans hlc hcm, Nat.le_trans hqd hdm, hW, fun x hx => (hK x hx).1, wf⟩, fun x hx => (hK x hx).2⟩
theorem plain_arg {r : Reach} {b0 : Nat} {v : Value} {d : DataW H} {ps : List MemPlace} (hval : Value.okWide Try.prog w r b0 89 v) (h : DataW.Trod enc Try.prog w 0 (fun _ => true) true 89 v d ps) : ∃ (p : Pl) (n : Nat), v = p.val ∧ Deep n w p := by
  obtain ⟨cs, rfl, _⟩ := okWide_struct Try.underlying89 hval
  obtain ⟨n, hn⟩ := h
  obtain ⟨p, hp, hd⟩ := plain_cs n _ _ hn
  refine ⟨p, n, ?_, hd⟩
  have : cs.toList = p.cells := by simpa [Value.cells] using hp
  obtain ⟨l⟩ := cs
  simp only at this
  rw [this]
  rfl
end
end Go.Proofs.Ytdfhefnjoekgbaa
