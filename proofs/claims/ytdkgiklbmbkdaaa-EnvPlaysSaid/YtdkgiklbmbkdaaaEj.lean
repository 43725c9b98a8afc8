/- plain laws: what put does to a list in order; names of a list. -/
import Derived.Test.YtdkgiklbmbkdaaaEh
namespace Go.Proofs.Ytdkgiklbmbkdaaa
open Go.ChangeShapes Go.WideShapes Go.RowKit Go.Maps Bv Fl
set_option maxHeartbeats 1000000
/-- a name's bytes -/
def Pr.key (p : Pr) : List UInt8 := p.nm.data.toList
theorem key_inj {s t : ByteArray} (h : s.data.toList = t.data.toList) : s = t := by
  cases s; cases t; congr; exact Array.toList_inj.1 h
theorem lt_le_ne {x y : List UInt8} (h : x ≤ y) (e : x ≠ y) : x < y := Classical.byContradiction fun hn => e (List.le_antisymm h (List.not_lt.1 hn))
/-- in order, no name twice -/
def Srt (l : List Pr) : Prop := l.Pairwise (fun p q => p.key < q.key)
def HasN (l : List Pr) (s : ByteArray) : Prop := ∃ p ∈ l, p.nm = s
theorem leB_iff {s t : ByteArray} : Go.Proofs.Ytdkgiklbmbkdaaa.leB s t = true ↔ s.data.toList ≤ t.data.toList := by
  unfold Go.Proofs.Ytdkgiklbmbkdaaa.leB
  rw [Go.Proofs.bytesLess_eq, Lib.toList_data, Lib.toList_data]
  simp only [Bool.or_eq_true, decide_eq_true_eq, beq_iff_eq]
  constructor
  · rintro (h | h)
    · exact List.le_of_lt h
    · rw [h]; exact List.le_refl _
  · intro h
    by_cases e : s.data.toList = t.data.toList
    · exact .inr e
    · exact .inl (lt_le_ne h e)
/-- what put tells -/
def putH (s : ByteArray) (z : Int) : List Pr → List Pr
  | [] => [⟨s, z⟩]
  | p :: l => if Go.Proofs.Ytdkgiklbmbkdaaa.leB s p.nm = true then ⟨s, z⟩ :: (p :: l).filter (fun q => decide (q.nm ≠ s)) else p :: putH s z l
theorem foldT (s : ByteArray) (z : Int) : ∀ (l : List Pr) (a : List Pr), l.foldl (putS s z) (a, true) = (a ++ l.filter (fun q => decide (q.nm ≠ s)), true)
  | [], a => by simp
  | p :: l, a => by
    rw [List.foldl_cons]
    by_cases h : p.nm = s
    · have e : putS s z (a, true) p = (a, true) := by simp [putS, h]
      rw [e, foldT s z l, List.filter_cons_of_neg (by simpa using h)]
    · have e : putS s z (a, true) p = (a ++ [p], true) := by simp [putS, h]
      rw [e, foldT s z l, List.filter_cons_of_pos (by simpa using h), List.append_assoc]; rfl
theorem foldF (s : ByteArray) (z : Int) : ∀ (l : List Pr) (a : List Pr), (if (l.foldl (putS s z) (a, false)).2 then (l.foldl (putS s z) (a, false)).1 else (l.foldl (putS s z) (a, false)).1 ++ [⟨s, z⟩]) = a ++ putH s z l
  | [], a => by simp [putH]
  | p :: l, a => by
    rw [List.foldl_cons]
    by_cases hl : Go.Proofs.Ytdkgiklbmbkdaaa.leB s p.nm = true
    · have e : putH s z (p :: l) = ⟨s, z⟩ :: (p :: l).filter (fun q => decide (q.nm ≠ s)) := by rw [putH, if_pos hl]
      rw [e]
      by_cases h : p.nm = s
      · have e2 : putS s z (a, false) p = (a ++ [⟨s, z⟩], true) := by have hl2 : Go.Proofs.Ytdkgiklbmbkdaaa.leB s s = true := (by rw [h] at hl; exact hl); simp [putS, h, hl2]
        rw [e2, foldT, List.filter_cons_of_neg (by simpa using h)]; simp
      · have e2 : putS s z (a, false) p = (a ++ [⟨s, z⟩] ++ [p], true) := by simp [putS, hl, h]
        rw [e2, foldT, List.filter_cons_of_pos (by simpa using h)]; simp
    · have h : p.nm ≠ s := fun e => hl (by rw [e]; exact leB_iff.2 (List.le_refl _))
      have e2 : putS s z (a, false) p = (a ++ [p], false) := by simp [putS, hl, h]
      rw [e2, foldF s z l, putH, if_neg hl, List.append_assoc]; rfl
theorem putR_eq (l : List Pr) (s : ByteArray) (z : Int) : putR l s z = putH s z l := by
  have h := foldF s z l []
  unfold putR putK
  rw [List.take_length, h, List.nil_append]
theorem putH_mem {s : ByteArray} {z : Int} {q : Pr} : ∀ {l : List Pr}, q ∈ putH s z l ↔ q = ⟨s, z⟩ ∨ (q ∈ l ∧ q.nm ≠ s)
  | [] => by simp [putH]
  | p :: l => by
    rw [putH]
    split
    · rw [List.mem_cons, List.mem_filter]; simp
    · rename_i hl
      have h : p.nm ≠ s := fun e => hl (by rw [e]; exact leB_iff.2 (List.le_refl _))
      rw [List.mem_cons, putH_mem, List.mem_cons]
      constructor
      · rintro (rfl | rfl | ⟨h1, h2⟩)
        · exact .inr ⟨.inl rfl, h⟩
        · exact .inl rfl
        · exact .inr ⟨.inr h1, h2⟩
      · rintro (rfl | ⟨rfl | h1, h2⟩)
        · exact .inr (.inl rfl)
        · exact .inl rfl
        · exact .inr (.inr ⟨h1, h2⟩)
theorem putH_srt {s : ByteArray} {z : Int} : ∀ {l : List Pr}, Srt l → Srt (putH s z l)
  | [], _ => by simp [putH, Srt]
  | p :: l, h => by
    have hc := List.pairwise_cons.1 h
    rw [putH]
    split
    · rename_i hl
      refine List.pairwise_cons.2 ⟨fun q hq => ?_, h.filter _⟩
      obtain ⟨hq1, hq2⟩ := List.mem_filter.1 hq
      have hq2 : q.nm ≠ s := by simpa using hq2
      have hle : s.data.toList ≤ p.key := leB_iff.1 hl
      have hpq : p.key ≤ q.key := by
        rcases List.mem_cons.1 hq1 with rfl | h2
        · exact List.le_refl _
        · exact List.le_of_lt (hc.1 q h2)
      exact lt_le_ne (List.le_trans hle hpq) fun e => hq2 (key_inj e.symm)
    · rename_i hl
      refine List.pairwise_cons.2 ⟨fun q hq => ?_, putH_srt hc.2⟩
      rcases putH_mem.1 hq with rfl | ⟨h2, _⟩
      · have : ¬ s.data.toList ≤ p.key := fun h => hl (leB_iff.2 h)
        exact List.not_le.1 this
      · exact hc.1 q h2
theorem putR_srt {l : List Pr} {s : ByteArray} {z : Int} (h : Srt l) : Srt (putR l s z) := by rw [putR_eq]; exact putH_srt h
theorem putR_mem {l : List Pr} {s : ByteArray} {z : Int} {q : Pr} : q ∈ putR l s z ↔ q = ⟨s, z⟩ ∨ (q ∈ l ∧ q.nm ≠ s) := by rw [putR_eq]; exact putH_mem
theorem srt_nodup {l : List Pr} (h : Srt l) : (l.map Pr.key).Nodup := List.pairwise_map.2 (h.imp fun {a b} hab e => by rw [e] at hab; exact List.lt_irrefl _ hab)
theorem srt_sorted {l : List Pr} (h : Srt l) : (l.map Pr.key).mergeSort (fun x y => decide (x ≤ y)) = l.map Pr.key :=
  List.mergeSort_of_pairwise (List.pairwise_map.2 (h.imp fun {a b} hab => by simpa using List.le_of_lt hab))
/-- is a name there? -/
theorem has_of {l : List Pr} {s : ByteArray} {k : Nat} (hk : k < l.length) (h : (l.getD k default).nm = s) : HasN l s := ⟨l[k], List.getElem_mem _, by simpa [List.getD, hk] using h⟩
theorem get_mem {l : List Pr} {k : Nat} (hk : k < l.length) : l.getD k default ∈ l := by simp [List.getD, hk]
theorem fnd_yes {l : List Pr} {n : Nat} {s : ByteArray} {i : Int} (h : Fnd l n s i) (hn : n = l.length) (hs : HasN l s) : ∃ k : Nat, k < n ∧ i = k ∧ (l.getD k default).nm = s := by
  rcases h with ⟨_, h⟩ | h
  · obtain ⟨p, hp, e⟩ := hs
    obtain ⟨k, hk, rfl⟩ := List.getElem_of_mem hp
    exact absurd (by simpa [List.getD, hk] using e) (h k (by omega))
  · exact h
theorem fnd_no {l : List Pr} {n : Nat} {s : ByteArray} {i : Int} (h : Fnd l n s i) (hn : n = l.length) (hs : ¬ HasN l s) : i = -1 := by
  rcases h with ⟨h, _⟩ | ⟨k, hk, _, e⟩
  · exact h
  · exact absurd (has_of (by omega) e) hs
/-- map D reads as the list -/
def Rel (D : DataW Value) (l : List Pr) : Prop := Srt l ∧ ∀ x, Maps.has D (.string x) = true ↔ ∃ p ∈ l, p.key = x
theorem Rel.has {D : DataW Value} {l : List Pr} (h : Rel D l) (s : ByteArray) : Maps.has D (.string s.data.toList) = true ↔ HasN l s := by
  rw [h.2]
  exact ⟨fun ⟨p, hp, e⟩ => ⟨p, hp, key_inj e⟩, fun ⟨p, hp, e⟩ => ⟨p, hp, by rw [← e]; rfl⟩⟩
theorem Rel.put {D : DataW Value} {l : List Pr} (h : Rel D l) (hD : IsMap D) (s : ByteArray) (z : Int) (v : Value) : Rel (D.put (.string s.data.toList) (.held v)) (putR l s z) := by
  refine ⟨putR_srt h.1, fun x => ?_⟩
  by_cases e : x = s.data.toList
  · subst e
    rw [has_put_same hD (show WideAt.IsKeyLit (.string s.data.toList) from trivial)]
    exact ⟨fun _ => ⟨⟨s, z⟩, putR_mem.2 (.inl rfl), rfl⟩, fun _ => rfl⟩
  · rw [has_put_other (by simpa using e), h.2 x]
    constructor
    · rintro ⟨p, hp, rfl⟩
      exact ⟨p, putR_mem.2 (.inr ⟨hp, fun h => e (by rw [← h]; rfl)⟩), rfl⟩
    · rintro ⟨p, hp, rfl⟩
      rcases putR_mem.1 hp with rfl | ⟨h1, _⟩
      · exact absurd rfl e
      · exact ⟨p, h1, rfl⟩
theorem Rel.nil : Rel (.map []) [] := ⟨List.Pairwise.nil, fun x => by simp [Maps.has]⟩
/-- the map's keys are the list's names -/
theorem Rel.perm {w : World} {b n : Nat} {D : DataW Value} {l : List Pr} (h : Rel D l) (hown : OM w b n D) : (l.map Pr.key).Perm (strKeys D) := by
  obtain ⟨es', hD', hko⟩ := World.ownsMap.keysOf hown
  obtain ⟨es, hD, hpw⟩ := World.ownsMap.tidy hown lawS
  obtain rfl : es = es' := by rw [hD] at hD'; simpa using hD'
  subst hD
  exact perm_strKeys hpw (fun p hp => by obtain ⟨v, hv⟩ := hko p hp; obtain ⟨x, _, hx, _⟩ := Maps.keyOf_str Try.underlying9 hv; exact ⟨x, hx⟩) (srt_nodup h.1) (fun x => by rw [h.2 x, List.mem_map])
theorem Rel.size {w : World} {b n : Nat} {D : DataW Value} {l : List Pr} (h : Rel D l) (hown : OM w b n D) : Maps.size D = l.length := by
  have := (h.perm hown).length_eq
  obtain ⟨es, hD, _⟩ := World.ownsMap.tidy hown lawS
  subst hD
  simpa [strKeys, Maps.size] using this.symm
theorem Rel.sort {w : World} {b n : Nat} {D : DataW Value} {l : List Pr} (h : Rel D l) (hown : OM w b n D) {ss : List (List UInt8)} (hs : ss.Perm (strKeys D)) : (ss.mergeSort (fun x y => decide (x ≤ y))).map encStr = l.map (fun p => .string p.nm) ∧ ss.length = l.length := by
  have hp := hs.trans (h.perm hown).symm
  refine ⟨?_, by simpa using hp.length_eq⟩
  rw [mergeSort_of_perm hp]
  show ((l.map Pr.key).mergeSort (fun x y => decide (x ≤ y))).map encStr = _
  rw [srt_sorted h.1, List.map_map]
  rfl
theorem pre_names (l : List Pr) {n : Nat} (hn : n = l.length) : pre (fun k => .string (l.getD k default).nm) n = l.map (fun p => .string p.nm) := by
  subst hn
  refine List.ext_getElem (by simp [pre]) fun i h1 h2 => ?_
  have : i < l.length := by simpa using h2
  simp [pre, this]
end Go.Proofs.Ytdkgiklbmbkdaaa
