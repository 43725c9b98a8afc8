/- Openings: what came in as a slice reads as a list; arguments read again; a row's last step. -/
import Derived.Test.YtdkgiklbmbkdaaaHp
import Derived.Deep.Slices
import Derived.ReadAgain
import Derived.ChangeBears
import Derived.Laws.Cover2
import Derived.OpenShut
import Derived.ChangeSame
import Derived.ChangeAt
import Derived.JoinedOf
import Derived.WideWitness
namespace Go.Proofs.Ytdkgiklbmbkdaaa
open Go.ChangeShapes Go.WideShapes Go.RowKit Go.Deep

theorem own : ownKnob Try.prog.godebug = none := by kernel_rfl

section
variable {H : Type} {enc : TypeId × Value → H} {P : Program} {w W W' : World}

/-- cells that read as a slice of elements of one cell -/
theorem slice_cs {α : Type} [Inhabited α] (con : α → Value) (R : α → Prop) {t e : TypeId} {fuel : Nat} {cs : List Value} {x : DataW H × List MemPlace} (ht : P.underlying t = some (.slice e)) (hc : P.cellsOf e = 1)
    (hcon : ∀ n v y, DataW.trod enc P w 0 (fun _ => true) true n e [v] = some y → ∃ x, v = con x ∧ R x)
    (h : DataW.trod enc P w 0 (fun _ => true) true fuel t cs = some x) :
    ∃ (A : Option Addr) (l : List α) (c : Nat), cs = [.slice A l.length c] ∧ l.length ≤ c ∧ c ≤ maxLen ∧ Sl w 1 A l.length (l.map con) ∧ ∀ x ∈ l, R x := by
  rcases open_slice1 ht hc h with ⟨rfl, _⟩ | ⟨a, len, cap, m, n, V, D, Pl, rfl, _, hl, hm, hmm, _, hx⟩
  · exact ⟨none, [], 0, rfl, Nat.le_refl _, Nat.zero_le _, Sl.nil _ _ _, fun x hx => by cases hx⟩
  simp only [if_true] at hmm
  subst hmm
  obtain ⟨X, hX⟩ := choose_lt (α := α) (p := fun i y => V i = con y ∧ R y) (fun i hi => hcon _ _ _ (hx i hi).2)
  have hlen : ((List.range len).map X).length = len := by simp
  refine ⟨some a, (List.range len).map X, m, by rw [hlen], by rw [hlen]; exact hl, hm, ?_, ?_⟩
  · rw [hlen]
    refine ⟨by simp, fun h0 => ⟨a, rfl, ?_, fun j u hu => ?_⟩⟩
    · have h1 := (hx 0 (by omega)).1
      rw [show a.add 0 = a from rfl] at h1
      exact World.block_lt_of_cell? _ _ h1
    · by_cases hj : j < len
      · simp [hj] at hu
        rw [← hu, (hx j (by omega)).1, (hX j (by omega)).1]
      · rw [List.getElem?_eq_none (by simp; omega)] at hu
        cases hu
  · intro y hy
    obtain ⟨i, hi, rfl⟩ := List.mem_map.1 hy
    exact (hX i (by have := List.mem_range.1 hi; omega)).2

/-- an argument that is such a slice -/
theorem slice_arg {α : Type} [Inhabited α] (con : α → Value) (R : α → Prop) {t e : TypeId} {r : Reach} {b0 : Nat} {v : Value} {d : DataW H} {ps : List MemPlace} (ht : P.underlying t = some (.slice e)) (hc : P.cellsOf e = 1)
    (hcon : ∀ n v y, DataW.trod enc P w 0 (fun _ => true) true n e [v] = some y → ∃ x, v = con x ∧ R x)
    (hval : Value.okWide P w r b0 t v) (h : DataW.Trod enc P w 0 (fun _ => true) true t v d ps) :
    ∃ (A : Option Addr) (l : List α) (c : Nat), v = .slice A l.length c ∧ l.length ≤ c ∧ c ≤ maxLen ∧ Sl w 1 A l.length (l.map con) ∧ ∀ x ∈ l, R x := by
  obtain ⟨a, len, cap, rfl⟩ := okWide_slice ht hval
  obtain ⟨fuel, hf⟩ := h
  obtain ⟨A, l, c, h1, h2⟩ := slice_cs con R ht hc hcon hf
  simp [Value.cells] at h1
  obtain ⟨rfl, rfl, rfl⟩ := h1
  exact ⟨a, l, cap, rfl, h2⟩

theorem el_int {e : TypeId} {k : IntKind} (he : P.underlying e = some (.int k)) (n : Nat) (v : Value) (y : DataW H × List MemPlace) (h : DataW.trod enc P w 0 (fun _ => true) true n e [v] = some y) : ∃ x, v = .int k x ∧ (Lit.int k x).wf = true := by
  obtain ⟨x, h1, _, h2⟩ := DataW.trod_int he h
  exact ⟨x, by simpa using h1, h2⟩
/-- what came in reads as it did -/
theorem args_again (hl : laidOutB P = true) (hm : mapsRowed P = true) (hz : ((List.range P.types.size).all fun t => match P.underlying t with | some (.slice e) => decide (0 < P.cellsOf e) | _ => true) = true)
    {ts : List TypeId} (hts : ts.all (fun t => decide (t < P.types.size)) = true) {vs : List Value} {ds : List (DataW H)} {ps : List MemPlace}
    (h : DataW.TrodAll enc P W 0 (fun _ => true) true ts vs ds ps) (hb : Below W.heap.size W W') (sp : Nat → Bool) (hsp : ∀ p ∈ ps, sp p.block = true) : DataW.TrodAll enc P W' 0 sp true ts vs ds ps := by
  have hlt := h.lt
  have h1 := DataW.TrodAll.respare (spare' := sp) (kids_rows hl hm) (slices_full_of P hz) (fun t ht => by simpa using List.all_eq_true.1 hts t ht) h hsp
  have hsame : ∀ p ∈ ps, W.sameAt W' p := by
    intro p hp
    have hp' := hlt p hp
    cases p with
    | cell b off => exact Below.cell (p := ⟨b, off, none⟩) hb hp'
    | map b => exact hb.block b hp'
  clear h hlt hsp
  induction ts generalizing vs ds ps with
  | nil => cases vs <;> cases ds <;> simp_all [DataW.TrodAll]
  | cons t ts ih =>
    match vs, ds, h1 with
    | v :: vs, d :: ds, ⟨p, q, ⟨n, hn⟩, hr, e⟩ =>
      subst e
      refine ⟨p, q, ⟨n, DataW.trod_carry n _ _ _ hn fun x hx => hsame x (List.mem_append_left _ hx)⟩, ?_, rfl⟩
      exact ih (by simp at hts ⊢; exact hts.2) hr (fun x hx => hsame x (List.mem_append_right _ hx))

/-- a law's last step: it has answered true, and nothing that was there has turned -/
theorem law_true {f : Func} {s : ChangeSpec} {apart fresh again : Bool} {args : Array Value} {ds : List (DataW H)} {ps : List MemPlace} {tb : TypeId}
    (hW : DataW.Whole enc P f.params.toList s.vars apart W args.toList ds [] ps) (hA : DataW.TrodAll enc P W 0 (fun _ => true) true f.params.toList args.toList ds ps)
    (hl : laidOutB P = true) (hm : mapsRowed P = true) (hz : ((List.range P.types.size).all fun t => match P.underlying t with | some (.slice e) => decide (0 < P.cellsOf e) | _ => true) = true)
    (hts : f.params.toList.all (fun t => decide (t < P.types.size)) = true) (hr : f.resultTypes = #[tb]) (htb : P.underlying tb = some .bool)
    (hsv : s.vars = []) (hs1 : (s.fn H (ds ++ [])).results = [.lit (.bool true)]) (hs2 : (s.fn H (ds ++ [])).args = ds) (hs3 : (s.fn H (ds ++ [])).vars = []) (hb : Below W.heap.size W W') :
    s.post enc P f apart fresh false again W args (.bool true) W' := by
  have hag : ∀ sp : Nat → Bool, (∀ p ∈ ps, sp p.block = true) → DataW.TrodAll enc P W' 0 sp true f.params.toList args.toList (s.fn H (ds ++ [])).args ps := fun sp hsp => by
    rw [hs2]; exact args_again hl hm hz hts hA hb sp hsp
  have hva : ∀ sp : Nat → Bool, DataW.TrodVars enc P W' sp s.vars (s.fn H (ds ++ [])).vars [] := fun sp => by rw [hsv, hs3]; rfl
  have hre : ∀ (b : Nat) (sp : Nat → Bool) (hd : Bool), DataW.TrodAll enc P W' b sp hd f.resultTypes.toList ((Value.bool true).resultList f.resultTypes.size) (s.fn H (ds ++ [])).results [] := fun b sp hd => by
    rw [hr, hs1]; exact trodAll_cons_mk (shut_bool htb _) trodAll_mk0
  have hlt : ∀ p ∈ ps, p.block < W.heap.size := hA.lt
  have hin : ∀ p ∈ ps, (fun b => decide (b < W.heap.size)) p.block = true := fun p hp => decide_eq_true (hlt p hp)
  refine ⟨ds, [], ps, [], ps, [], hW, hre _ _ _, hag _ hin, hva _, ?_, fun _ => ⟨?_, .lit (.bool true) :: ds, [], ps, ?_, fun p hp _ => hp⟩⟩
  · refine World.keptBut_mono (fun p hp => ⟨hp, Or.inr (Or.inl hp)⟩) (hb.frame (· ∈ ps))
  · exact ok_one hr rfl (okWide_bool_mk htb _)
  · obtain ⟨_, _, _, _, _, hfz, hnd⟩ := hW
    have h1 := hag (fun _ => true) (fun _ _ => rfl)
    rw [hs2] at h1
    rw [hr]
    refine ⟨ps, [], trodAll_cons_mk (p := []) (shut_bool htb _) h1, by rw [hsv]; rfl, by simp, fun b off hp => ?_, hnd⟩
    rw [hb.frozen (hlt _ hp)]
    exact hfz b off hp
end
end Go.Proofs.Ytdkgiklbmbkdaaa
