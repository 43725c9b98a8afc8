/- Contracts of vec: Floats, None, Packed. -/
import Derived.Test.YtidnikndjhfgaaaVi
namespace Go.Proofs.Ytidnikndjhfgaaa
open Go.RowKit Bv Fl

attribute [local go_sem] run_store_f64
/-- are all words numbers? -/
def allF (l : List Nat) : Bool := l.all fun x => decide (fin x)
theorem allF_true {l : List Nat} (h : allF l = true) : ∀ x ∈ l, fin x := by
  intro x hx
  unfold allF at h
  rw [List.all_eq_true] at h
  simpa using h x hx
theorem allF_false {l : List Nat} {k : Nat} (hk : k < l.length) (h : ¬ fin (l.getD k 0)) : allF l = false := by
  rw [Bool.eq_false_iff]
  intro ht
  exact h (allF_true ht _ (getD_memN hk))
def upF (l : List Nat) (k : Nat) : Prop := ∀ j, j < k → fin (l.getD j 0)
theorem upF_all {l : List Nat} (h : upF l l.length) : allF l = true := by
  unfold allF
  rw [List.all_eq_true]
  intro x hx
  obtain ⟨j, hj, rfl⟩ := List.mem_iff_getElem.1 hx
  have := h j hj
  have e : l.getD j 0 = l[j] := by simp [List.getD, hj]
  rw [e] at this
  simpa using this
theorem upF_step {l : List Nat} {k : Nat} (h : upF l k) (g : fin (l.getD k 0)) : upF l (k + 1) := by
  intro j hj
  by_cases e : j = k
  · subst e; exact g
  · exact h j (by omega)
def dnL (l : List Nat) : List Nat := l.map dn
theorem dnL_length (l : List Nat) : (dnL l).length = l.length := by simp [dnL]
theorem dnL_fill (l : List Nat) : f64s (dnL l) = fillL (fun k => .float .f64 (dn (l.getD k 0))) (.float .f64 0) l.length l.length := by
  rw [fillL_full]
  apply List.ext_getElem?
  intro i
  by_cases h : i < l.length
  · simp [f64s, dnL, h]
  · rw [List.getElem?_eq_none (by simp [f64s, dnL]; omega), List.getElem?_eq_none (by simp; omega)]
theorem dnL_tidy {l : List Nat} (h : ∀ x ∈ l, x < 18446744073709551616) : ∀ x ∈ dnL l, tidy x := by
  intro x hx
  unfold dnL at hx
  rw [List.mem_map] at hx
  obtain ⟨y, hy, rfl⟩ := hx
  exact dn_tidy y (h y hy)

set_option maxHeartbeats 1000000
def FloatsPost (b : Bool) (l : List Nat) (n : Nat) (w : World) (e : Ending) (w' : World) : Prop :=
  ∃ B cb, e = .returned (.tuple #[if b then .agg #[.int .i64 4, .slice none 0 0, .int .i64 0, .slice none 0 0, .slice none 0 0, .slice B n cb, .slice none 0 0, .slice none 0 0] else zeroVec, .bool b]) ∧ (b = true → w'.ownsRow w.heap.size 56 1 (.slice B n cb) n (f64s (dnL l))) ∧ Ext w w'
theorem vfloats_own (A : Option Addr) (l : List Nat) (n : Nat) (hn : n = l.length) (c : Nat) (w : World) (hl : n ≤ 1048576) (hs : Sl w 1 A n (f64s l)) : Calls Try.prog 67 #[.slice A n c] w (FloatsPost (allF l) l n w) := by
  obtain ⟨i0, hi0, hz0, hz1, hz2⟩ := info_parts infoF
  have hsz : i0.bytes * n ≤ 281474976710656 := by rw [hz2]; omega
  have hfull := dnL_fill l
  rw [← hn] at hfull
  have HS := Lib.hid hs
  have HN := Lib.hid hn
  have HF := Lib.hid hfull
  clear hs hn hfull
  obtain ⟨b, hb⟩ : ∃ b, allF l = b := ⟨_, rfl⟩
  rw [hb]
  have HB := Lib.hid hb
  clear hb
  go_enter Try.func67, Try.ntmps67
  go_wp2_with (at_make; refine wpList_make_full _ rfl _ _ 37 rfl (w.heap.size + 1) 56 i0 (.float .f64 0) 1 Try.underlying37 hi0 hz0 hz1 .i64 .i64 _ _ n rfl rfl rfl rfl hsz (by simp only [maxLen]; omega) (by simp) ?_)
  intro w1 hown hg
  have hx1 := ext_none hg
  have HR : Hid (w1.ownsRow (w.heap.size + 1) 56 1 (.slice (some ⟨w.heap.size + 1, 0, none⟩) n n) n (fillL (fun k => .float .f64 (dn (l.getD k 0))) (.float .f64 0) n 0)) := by
    have e := made_zero (.float .f64 0) n (fun k => .float .f64 (dn (l.getD k 0)))
    rw [e] at hown; exact hown
  have HB1 : Hid (Below (w.heap.size + 1) (w.alloc (.cells #[.int .i64 0, .slice none 0 0, .int .i64 0, .slice none 0 0, .slice none 0 0, .slice none 0 0, .slice none 0 0, .slice none 0 0] 41)) w1) := hx1.mono (by simp)
  clear hown hg hx1 hsz
  go_wp2_with fail
  go_loopw [14] (fun i wr => ∃ k : Nat, k ≤ n ∧ i = .int .i64 k ∧ upF l k ∧ wr.ownsRow (w.heap.size + 1) 56 1 (.slice (some ⟨w.heap.size + 1, 0, none⟩) n n) n (fillL (fun k => .float .f64 (dn (l.getD k 0))) (.float .f64 0) n k) ∧ Below (w.heap.size + 1) (w.alloc (.cells #[.int .i64 0, .slice none 0 0, .int .i64 0, .slice none 0 0, .slice none 0 0, .slice none 0 0, .slice none 0 0, .slice none 0 0] 41)) wr) (fun i _ => n - (intOf i).toNat)
  case atStart => exact ⟨0, Nat.zero_le _, rfl, fun j hj => absurd hj (by omega), HR.out, HB1.out⟩
  case round =>
    obtain ⟨k, hk, rfl, hup, hown, hbel⟩ := hrel
    have HU := Lib.hid hup
    clear hup
    have HX : Hid (Ext w wr) := ((Ext.refl w).alloc _).trans' (hbel.mono (by omega))
    have hcs : ∀ o, wr.cell? ⟨w.heap.size, o, none⟩ = (w.alloc (.cells #[.int .i64 0, .slice none 0 0, .int .i64 0, .slice none 0 0, .slice none 0 0, .slice none 0 0, .slice none 0 0, .slice none 0 0] 41)).cell? ⟨w.heap.size, o, none⟩ := fun o => Below.cell (p := ⟨w.heap.size, o, none⟩) hbel (by simp)
    have hfs : ∀ o, wr.frozen? ⟨w.heap.size, o, none⟩ = (w.alloc (.cells #[.int .i64 0, .slice none 0 0, .int .i64 0, .slice none 0 0, .slice none 0 0, .slice none 0 0, .slice none 0 0, .slice none 0 0] 41)).frozen? ⟨w.heap.size, o, none⟩ := fun o => Below.frozen (p := ⟨w.heap.size, o, none⟩) hbel (by simp)
    by_cases hlt : k < n
    · obtain ⟨a, u, rfl, hab, hu, hcell⟩ := HS.out.at1 hlt
      rw [f64s_get (by rw [← HN.out]; exact hlt)] at hu
      cases hu
      have L0 : wr.cell? (a.add k) = some (.float .f64 (l.getD k 0)) := (Below.cell HX.out (by rw [addr_block]; exact hab)).trans hcell
      have ct := tidy_any (l.getD k 0) wr
      clear hcell
      by_cases hg : fin (l.getD k 0)
      · have hup := Lib.hid (upF_step HU.out hg)
        rw [decide_eq_true hg] at ct
        have F0 : wr.cell? ⟨w.heap.size + 1, k, none⟩ = some (.float .f64 0) := by
          rw [hown.cellAt k (by omega)]; exact fillL_get _ _ hlt
        have F1 : wr.frozen? ⟨w.heap.size + 1, k, none⟩ = false := hown.frozenAt k
        have hst := (hown.stored k (.float .f64 (dn (l.getD k 0)))).1
        rw [fillL_set (fun k => .float .f64 (dn (l.getD k 0))) (.float .f64 0) hlt] at hst
        have H1 := Lib.hid hst
        have H2 := Lib.hid (hbel.setCell (p := ⟨w.heap.size + 1, k, none⟩) (Nat.le_refl _) (.float .f64 (dn (l.getD k 0))))
        clear hst hown hbel HU hg hcs hfs
        generalize l.getD k 0 = x at *
        go_wp2_with fail
        refine ct.mono ?_
        rintro e w4 ⟨rfl, rfl⟩
        go_wp2
        exact ⟨⟨k + 1, by omega, by go_num, hup.out, H1.out, H2.out⟩, by simp [intOf]; omega⟩
      · have hf := allF_false (by rw [← HN.out]; exact hlt) hg
        rw [HB.out] at hf
        subst hf
        rw [decide_eq_false hg] at ct
        clear hg hown hbel
        generalize l.getD k 0 = x at *
        go_wp2_with fail
        refine ct.mono ?_
        rintro e w4 ⟨rfl, rfl⟩
        go_wp2
        refine bodyPost_ret (v := .tuple #[.agg #[.int .i64 0, .slice none 0 0, .int .i64 0, .slice none 0 0, .slice none 0 0, .slice none 0 0, .slice none 0 0, .slice none 0 0], .bool false]) (by simp [results, Try.results67, go_sem, hcs]) rfl ⟨none, 0, rfl, (fun h => absurd h (by decide)), ?_⟩
        repeat (first | refine Ext.setCell ?_ (Nat.le_refl _) _ | refine Ext.alloc ?_ _)
        exact HX.out
    · have hkn : k = n := by omega
      subst hkn
      have hup := HU.out
      rw [HN.out] at hup
      have ht := upF_all hup
      rw [HB.out] at ht
      subst ht
      have HO := Lib.hid hown
      clear hup hown hbel
      go_wp2
      refine bodyPost_ret (v := .tuple #[.agg #[.int .i64 4, .slice none 0 0, .int .i64 0, .slice none 0 0, .slice none 0 0, .slice (some ⟨w.heap.size + 1, 0, none⟩) k k, .slice none 0 0, .slice none 0 0], .bool true]) (by simp [results, Try.results67, go_sem, hcs]) rfl ⟨_, k, rfl, fun _ => ?_, ?_⟩
      · refine own_base (base := w.heap.size + 1) ?_ (Nat.le_succ _)
        repeat (refine ownsRow_setCell_below ?_ (by simp) _)
        rw [HF.out]
        exact HO.out
      · repeat (refine Ext.setCell ?_ (Nat.le_refl _) _)
        exact HX.out
theorem vfloats_any (A : Option Addr) (l : List Nat) (n : Nat) (hn : n = l.length) (hw : ∀ x ∈ l, x < 18446744073709551616) (c : Nat) (w : World) (hl : n ≤ 1048576) (hs : Sl w 1 A n (f64s l)) : Calls Try.prog 67 #[.slice A n c] w fun e w' => ∃ v, e = .returned (.tuple #[v, .bool (allF l)]) ∧ IsVec w' v (if allF l then VD.floats (dnL l) else VD.none) ∧ Ext w w' := by
  refine (vfloats_own A l n hn c w hl hs).mono ?_
  rintro e w' ⟨B, cb, rfl, hown, hx⟩
  subst hn
  refine ⟨_, rfl, ?_, hx⟩
  cases h : allF l
  · exact IsVec.zero _
  · have ho := hown h
    refine .inr (.inr (.inr (.inr (.inl ⟨dnL l, B, cb, rfl, by rw [dnL_length]; exact hl, dnL_tidy hw, ?_, ?_⟩))))
    · rw [dnL_length]; rfl
    · rw [dnL_length]; exact Sl.own ho
/-- what holds nothing holds nothing in every world -/
theorem IsVec.empty {w : World} {v : Value} {d : VD} (h : IsVec w v d) (hd : d = VD.chars [] ∨ d = VD.boxes [] ∨ d = VD.bits []) (w' : World) : IsVec w' v d := by
  rcases hd with rfl | rfl | rfl
  · rcases h with ⟨h, _⟩ | ⟨l, A, c, h, _⟩ | ⟨l, A, c, h, _⟩ | ⟨l, A, c, h, _⟩ | ⟨l, A, c, h, _⟩ | ⟨l, A, c, h, hl, hv, hs⟩ | ⟨n, cs, A, c, h, _⟩
    · cases h
    · cases h
    · cases h
    · cases h
    · cases h
    · obtain rfl : [] = l := by cases h; rfl
      exact .inr (.inr (.inr (.inr (.inr (.inl ⟨[], A, c, rfl, hl, hv, Sl.nil _ _ _⟩)))))
    · cases h
  · rcases h with ⟨h, _⟩ | ⟨l, A, c, h, _⟩ | ⟨l, A, c, h, _⟩ | ⟨l, A, c, h, _⟩ | ⟨l, A, c, h, _⟩ | ⟨l, A, c, h, _⟩ | ⟨n, cs, A, c, h, hn, hl, h1, hv, hs⟩
    · cases h
    · cases h
    · cases h
    · cases h
    · cases h
    · cases h
    · obtain rfl : [] = cs := by cases h; rfl
      have hn0 : n = 0 := by
        have h9 := hl
        simp at h9
        omega
      subst hn0
      exact .inr (.inr (.inr (.inr (.inr (.inr ⟨0, [], A, c, rfl, hn, hl, h1, hv, Sl.nil _ _ _⟩)))))
  · rcases h with ⟨h, _⟩ | ⟨l, A, c, h, hl, hv, hs⟩ | ⟨l, A, c, h, _⟩ | ⟨l, A, c, h, _⟩ | ⟨l, A, c, h, _⟩ | ⟨l, A, c, h, _⟩ | ⟨n, cs, A, c, h, _⟩
    · cases h
    · obtain rfl : [] = l := by cases h; rfl
      exact .inr (.inl ⟨[], A, c, rfl, hl, hv, Sl.nil _ _ _⟩)
    · cases h
    · cases h
    · cases h
    · cases h
    · cases h
/-- the fields' shapes -/
theorem IsVec.shape {w : World} {v : Value} {d : VD} (h : IsVec w v d) : ∃ a1 n1 k1 bn a3 n3 k3 a4 n4 k4 a5 n5 k5 a6 n6 k6 a7 n7 k7, v = .agg #[.int .i64 (d.kind : Int), .slice a1 n1 k1, .int .i64 bn, .slice a3 n3 k3, .slice a4 n4 k4, .slice a5 n5 k5, .slice a6 n6 k6, .slice a7 n7 k7] := by
  rcases h with ⟨rfl, rfl⟩ | ⟨l, A, c, rfl, _, rfl, _⟩ | ⟨l, A, c, rfl, _, _, rfl, _⟩ | ⟨l, A, c, rfl, _, _, rfl, _⟩ | ⟨l, A, c, rfl, _, _, rfl, _⟩ | ⟨l, A, c, rfl, _, rfl, _⟩ | ⟨n, cs, A, c, rfl, _, _, _, rfl, _⟩
  all_goals exact ⟨_, _, _, _, _, _, _, _, _, _, _, _, _, _, _, _, _, _, _, rfl⟩
/-- what None leaves -/
def NonePost (d : VD) (w : World) (e : Ending) (w' : World) : Prop := ∃ v, e = .returned v ∧ IsVec w' v d ∧ Ext w w'
/-- what None holds -/
def noneD (cls : Int) : VD := if cls = 1 then VD.chars [] else if cls = 2 then VD.boxes [] else VD.bits []
end Go.Proofs.Ytidnikndjhfgaaa
