/- Contracts of vec: Ints, Floats, None, Packed. -/
import Derived.Test.YtidnikndjhfgaaaVh
namespace Go.Proofs.Ytidnikndjhfgaaa
open Go.RowKit Bv Fl

attribute [local go_sem] run_store_f64
/-- are all numbers of a size of at most 2^53? -/
def allG (l : List Int) : Bool := l.all fun x => decide (G x)
theorem allG_true {l : List Int} (h : allG l = true) : ∀ x ∈ l, G x := by
  intro x hx
  unfold allG at h
  rw [List.all_eq_true] at h
  simpa using h x hx
theorem allG_false {l : List Int} {k : Nat} (hk : k < l.length) (h : ¬ G (l.getD k 0)) : allG l = false := by
  rw [Bool.eq_false_iff]
  intro ht
  exact h (allG_true ht _ (getD_mem hk))
def upG (l : List Int) (k : Nat) : Prop := ∀ j, j < k → G (l.getD j 0)
theorem upG_all {l : List Int} (h : upG l l.length) : allG l = true := by
  unfold allG
  rw [List.all_eq_true]
  intro x hx
  obtain ⟨j, hj, rfl⟩ := List.mem_iff_getElem.1 hx
  have := h j hj
  have e : l.getD j 0 = l[j] := by simp [List.getD, hj]
  rw [e] at this
  simpa using this
theorem upG_step {l : List Int} {k : Nat} (h : upG l k) (g : G (l.getD k 0)) : upG l (k + 1) := by
  intro j hj
  by_cases e : j = k
  · subst e; exact g
  · exact h j (by omega)

set_option maxHeartbeats 1000000
def IntsPost (b : Bool) (l : List Int) (n : Nat) (w : World) (e : Ending) (w' : World) : Prop :=
  ∃ B cb, e = .returned (.tuple #[if b then .agg #[.int .i64 3, .slice none 0 0, .int .i64 0, .slice none 0 0, .slice B n cb, .slice none 0 0, .slice none 0 0, .slice none 0 0] else zeroVec, .bool b]) ∧ (b = true → w'.ownsRow w.heap.size 2 1 (.slice B n cb) n (i64s l)) ∧ Ext w w'
theorem vints_own (A : Option Addr) (l : List Int) (n : Nat) (hn : n = l.length) (c : Nat) (w : World) (hl : n ≤ 1048576) (hs : Sl w 1 A n (i64s l)) : Calls Try.prog 92 #[.slice A n c] w (IntsPost (allG l) l n w) := by
  have hc := cloneI64 A n c (i64s l) (w.alloc (.cells #[.int .i64 0, .slice none 0 0, .int .i64 0, .slice none 0 0, .slice none 0 0, .slice none 0 0, .slice none 0 0, .slice none 0 0] 41)) (hs.alloc _) (i64s_one l) (by omega)
  have HS := Lib.hid hs
  have HN := Lib.hid hn
  clear hs hn
  obtain ⟨b, hb⟩ : ∃ b, allG l = b := ⟨_, rfl⟩
  rw [hb]
  have HB := Lib.hid hb
  clear hb
  go_enter Try.func92, Try.ntmps92
  go_wp2_with fail
  go_loop [8] (fun i => ∃ k : Nat, k ≤ n ∧ i = .int .i64 k ∧ upG l k) (fun i => n - (intOf i).toNat)
  case atStart => exact ⟨0, Nat.zero_le _, rfl, fun j hj => absurd hj (by omega)⟩
  case round =>
    obtain ⟨k, hk, rfl, hup⟩ := hrel
    have HU := Lib.hid hup
    clear hup
    by_cases hlt : k < n
    · obtain ⟨a, u, rfl, hab, hu, hcell⟩ := HS.out.at1 hlt
      rw [i64s_get (by rw [← HN.out]; exact hlt)] at hu
      cases hu
      have L0 : ∀ o, (w.alloc o).cell? (a.add k) = some (.int .i64 (l.getD k 0)) := fun o => (World.cell?_alloc_lt w o _ (by rw [addr_block]; exact hab)).trans hcell
      clear hcell
      by_cases hg : G (l.getD k 0)
      · have hup := Lib.hid (upG_step HU.out hg)
        obtain ⟨g1, g2⟩ := hg
        generalize l.getD k 0 = x at *
        clear HU hc
        go_wp2
        exact ⟨⟨k + 1, by omega, by go_num, hup.out⟩, by simp [intOf]; omega⟩
      · have hf := allG_false (by rw [← HN.out]; exact hlt) hg
        rw [HB.out] at hf
        subst hf
        have hor : 9007199254740992 < l.getD k 0 ∨ l.getD k 0 < -9007199254740992 := by unfold G at hg; omega
        clear hg hc
        generalize l.getD k 0 = x at *
        rcases hor with hx | hx
        all_goals
          go_wp2
          refine bodyPost_ret (v := .tuple #[.agg #[.int .i64 0, .slice none 0 0, .int .i64 0, .slice none 0 0, .slice none 0 0, .slice none 0 0, .slice none 0 0, .slice none 0 0], .bool false]) (by simp [results, Try.results92, go_sem]) rfl ⟨none, 0, rfl, (fun h => absurd h (by decide)), ?_⟩
          first | exact (Ext.refl w).alloc _ | (repeat (first | exact Ext.refl w | refine Ext.setCell ?_ (Nat.le_refl _) _ | refine Ext.alloc ?_ _))
    · have hkn : k = n := by omega
      subst hkn
      have hup := HU.out
      rw [HN.out] at hup
      have ht := upG_all hup
      rw [HB.out] at ht
      subst ht
      clear hup
      go_wp2_with fail
      refine hc.mono ?_
      rintro e w1 ⟨v, rfl, hown, hx⟩
      obtain ⟨B, cb, rfl, hcap, hB⟩ := own_form hown
      obtain ⟨hc1, hf1⟩ := hx.cells
      have HO := Lib.hid hown
      have HX := Lib.hid (((Ext.refl w).alloc _).trans hx)
      have hsz : w.heap.size + 1 ≤ w1.heap.size := by have := hx.size; simpa using this
      clear hown hx hB hc
      go_wp2
      refine bodyPost_ret (v := .tuple #[.agg #[.int .i64 3, .slice none 0 0, .int .i64 0, .slice none 0 0, .slice B k cb, .slice none 0 0, .slice none 0 0, .slice none 0 0], .bool true]) (by simp [results, Try.results92, go_sem, hc1]) rfl ⟨B, cb, rfl, fun _ => ?_, ?_⟩
      · refine own_base (base := w.heap.size + 1) ?_ (Nat.le_succ _)
        repeat (refine ownsRow_setCell_below ?_ (by simp) _)
        simpa using HO.out
      · repeat (refine Ext.setCell ?_ (Nat.le_refl _) _)
        exact HX.out
theorem vints_any (A : Option Addr) (l : List Int) (n : Nat) (hn : n = l.length) (c : Nat) (w : World) (hl : n ≤ 1048576) (hs : Sl w 1 A n (i64s l)) : Calls Try.prog 92 #[.slice A n c] w fun e w' => ∃ v, e = .returned (.tuple #[v, .bool (allG l)]) ∧ IsVec w' v (if allG l then VD.ints l else VD.none) ∧ Ext w w' := by
  refine (vints_own A l n hn c w hl hs).mono ?_
  rintro e w' ⟨B, cb, rfl, hown, hx⟩
  subst hn
  refine ⟨_, rfl, ?_, hx⟩
  cases h : allG l
  · exact IsVec.zero _
  · exact .inr (.inr (.inr (.inl ⟨l, B, cb, rfl, hl, allG_true h, rfl, Sl.own (hown h)⟩)))
end Go.Proofs.Ytidnikndjhfgaaa
