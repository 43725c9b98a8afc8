/- Contracts of vec: the makers. -/
import Derived.Test.YtidnikndjhfgaaaVg
namespace Go.Proofs.Ytidnikndjhfgaaa
open Go.RowKit Bv Fl

/-- the zero Vec's cells -/
def zeroVec : Value := .agg #[.int .i64 0, .slice none 0 0, .int .i64 0, .slice none 0 0, .slice none 0 0, .slice none 0 0, .slice none 0 0, .slice none 0 0]
theorem IsVec.zero (w : World) : IsVec w zeroVec VD.none := .inl ⟨rfl, rfl⟩

set_option maxHeartbeats 1000000
theorem vchars_own (A : Option Addr) (l : List Int) (n : Nat) (hn : n = l.length) (c : Nat) (w : World) (hl : n ≤ 1048576) (hs : Sl w 1 A n (i32s l)) : Calls Try.prog 44 #[.slice A n c] w fun e w' => ∃ B cb, e = .returned (.agg #[.int .i64 5, .slice none 0 0, .int .i64 0, .slice none 0 0, .slice none 0 0, .slice none 0 0, .slice B n cb, .slice none 0 0]) ∧ w'.ownsRow w.heap.size 21 1 (.slice B n cb) n (i32s l) ∧ Ext w w' := by
  have hc := cloneI32 A n c (i32s l) (w.alloc (.cells #[.int .i64 0, .slice none 0 0, .int .i64 0, .slice none 0 0, .slice none 0 0, .slice none 0 0, .slice none 0 0, .slice none 0 0] 41)) (hs.alloc _) (i32s_one l) (by omega)
  clear hs hn
  go_enter Try.func44, Try.ntmps44
  go_wp2_with fail
  refine hc.mono ?_
  rintro e w1 ⟨v, rfl, hown, hx⟩
  obtain ⟨B, cb, rfl, hcap, hB⟩ := own_form hown
  obtain ⟨hc1, hf1⟩ := hx.cells
  have HO := Lib.hid hown
  have HX := Lib.hid (((Ext.refl w).alloc _).trans hx)
  have hsz : w.heap.size + 1 ≤ w1.heap.size := by have := hx.size; simpa using this
  clear hown hx hB hc
  go_wp2
  refine bodyPost_ret (v := .agg #[.int .i64 5, .slice none 0 0, .int .i64 0, .slice none 0 0, .slice none 0 0, .slice none 0 0, .slice B n cb, .slice none 0 0]) (by simp [results, Try.results44, go_sem, hc1]) rfl ⟨B, cb, rfl, ?_, ?_⟩
  · refine own_base (base := w.heap.size + 1) ?_ (Nat.le_succ _)
    repeat (refine ownsRow_setCell_below ?_ (by simp) _)
    simpa using HO.out
  · repeat (refine Ext.setCell ?_ (Nat.le_refl _) _)
    exact HX.out
theorem vsmalls_own (A : Option Addr) (l : List Int) (n : Nat) (hn : n = l.length) (c : Nat) (w : World) (hl : n ≤ 1048576) (hs : Sl w 1 A n (i8s l)) : Calls Try.prog 105 #[.slice A n c] w fun e w' => ∃ B cb, e = .returned (.agg #[.int .i64 2, .slice none 0 0, .int .i64 0, .slice B n cb, .slice none 0 0, .slice none 0 0, .slice none 0 0, .slice none 0 0]) ∧ w'.ownsRow w.heap.size 116 1 (.slice B n cb) n (i8s l) ∧ Ext w w' := by
  have hc := cloneI8 A n c (i8s l) (w.alloc (.cells #[.int .i64 0, .slice none 0 0, .int .i64 0, .slice none 0 0, .slice none 0 0, .slice none 0 0, .slice none 0 0, .slice none 0 0] 41)) (hs.alloc _) (i8s_one l) (by omega)
  clear hs hn
  go_enter Try.func105, Try.ntmps105
  go_wp2_with fail
  refine hc.mono ?_
  rintro e w1 ⟨v, rfl, hown, hx⟩
  obtain ⟨B, cb, rfl, hcap, hB⟩ := own_form hown
  obtain ⟨hc1, hf1⟩ := hx.cells
  have HO := Lib.hid hown
  have HX := Lib.hid (((Ext.refl w).alloc _).trans hx)
  have hsz : w.heap.size + 1 ≤ w1.heap.size := by have := hx.size; simpa using this
  clear hown hx hB hc
  go_wp2
  refine bodyPost_ret (v := .agg #[.int .i64 2, .slice none 0 0, .int .i64 0, .slice B n cb, .slice none 0 0, .slice none 0 0, .slice none 0 0, .slice none 0 0]) (by simp [results, Try.results105, go_sem, hc1]) rfl ⟨B, cb, rfl, ?_, ?_⟩
  · refine own_base (base := w.heap.size + 1) ?_ (Nat.le_succ _)
    repeat (refine ownsRow_setCell_below ?_ (by simp) _)
    simpa using HO.out
  · repeat (refine Ext.setCell ?_ (Nat.le_refl _) _)
    exact HX.out
theorem vchars_any (A : Option Addr) (l : List Int) (n : Nat) (hn : n = l.length) (c : Nat) (w : World) (hl : n ≤ 1048576) (hs : Sl w 1 A n (i32s l)) : Calls Try.prog 44 #[.slice A n c] w fun e w' => ∃ v, e = .returned v ∧ IsVec w' v (VD.chars l) ∧ Ext w w' := by
  refine (vchars_own A l n hn c w hl hs).mono ?_
  rintro e w' ⟨B, cb, rfl, hown, hx⟩
  subst hn
  exact ⟨_, rfl, .inr (.inr (.inr (.inr (.inr (.inl ⟨l, B, cb, rfl, hl, rfl, Sl.own hown⟩))))), hx⟩
theorem vsmalls_any (A : Option Addr) (l : List Int) (n : Nat) (hn : n = l.length) (hb : ∀ x ∈ l, -128 ≤ x ∧ x ≤ 127) (c : Nat) (w : World) (hl : n ≤ 1048576) (hs : Sl w 1 A n (i8s l)) : Calls Try.prog 105 #[.slice A n c] w fun e w' => ∃ v, e = .returned v ∧ IsVec w' v (VD.smalls l) ∧ Ext w w' := by
  refine (vsmalls_own A l n hn c w hl hs).mono ?_
  rintro e w' ⟨B, cb, rfl, hown, hx⟩
  subst hn
  exact ⟨_, rfl, .inr (.inr (.inl ⟨l, B, cb, rfl, hl, hb, rfl, Sl.own hown⟩)), hx⟩
theorem vboxes_any (A : Option Addr) (cs : List Value) (n c : Nat) (h1 : ∀ u ∈ cs, u.oneCell' = true) (w : World) (hl : n ≤ 1048576) (hs : Sl w 9 A n cs) : Calls Try.prog 99 #[.slice A n c] w fun e w' => ∃ v, e = .returned v ∧ IsVec w' v (VD.boxes cs) ∧ Ext w w' := by
  have hlen := hs.1
  have hc := cloneArr A n c cs (w.alloc (.cells #[.int .i64 0, .slice none 0 0, .int .i64 0, .slice none 0 0, .slice none 0 0, .slice none 0 0, .slice none 0 0, .slice none 0 0] 41)) (hs.alloc _) h1 (by omega)
  have H1 := Lib.hid h1
  have HL := Lib.hid hlen
  clear hs h1 hlen
  go_enter Try.func99, Try.ntmps99
  go_wp2_with fail
  refine hc.mono ?_
  rintro e w1 ⟨v, rfl, hown, hx⟩
  obtain ⟨B, cb, rfl, hcap, hB⟩ := own_form hown
  obtain ⟨hc1, hf1⟩ := hx.cells
  have HO := Lib.hid hown
  have HX := Lib.hid (((Ext.refl w).alloc _).trans hx)
  have hsz : w.heap.size + 1 ≤ w1.heap.size := by have := hx.size; simpa using this
  clear hown hx hB hc
  go_wp2
  refine bodyPost_ret (v := .agg #[.int .i64 6, .slice none 0 0, .int .i64 0, .slice none 0 0, .slice none 0 0, .slice none 0 0, .slice none 0 0, .slice B n cb]) (by simp [results, Try.results99, go_sem, hc1]) rfl ⟨_, rfl, .inr (.inr (.inr (.inr (.inr (.inr ⟨n, cs, B, cb, rfl, hl, HL.out, H1.out, rfl, ?_⟩))))), ?_⟩
  · refine Sl.own (base := w.heap.size + 1) (e := 43) (c := cb) ?_
    repeat (refine ownsRow_setCell_below ?_ (by simp) _)
    simpa using HO.out
  · repeat (refine Ext.setCell ?_ (Nat.le_refl _) _)
    exact HX.out
theorem vbits_any (v : Value) (l : List Bool) (w : World) (h : IsB w v l) : Calls Try.prog 102 #[v] w fun e w' => ∃ v', e = .returned v' ∧ IsVec w' v' (VD.bits l) ∧ Ext w w' := by
  obtain ⟨hl, A, c, rfl, hs⟩ := h
  have HS := Lib.hid hs
  clear hs
  generalize hm : wc l.length = m at *
  have HM := Lib.hid hm
  clear hm
  go_enter Try.func102, Try.ntmps102
  go_wp2
  refine bodyPost_ret (v := .agg #[.int .i64 1, .slice A m c, .int .i64 (l.length : Int), .slice none 0 0, .slice none 0 0, .slice none 0 0, .slice none 0 0, .slice none 0 0]) (by simp [results, Try.results102, go_sem]) rfl ⟨_, rfl, .inr (.inl ⟨l, A, c, rfl, hl, by rw [HM.out], ?_⟩), ?_⟩
  · rw [HM.out]
    exact (HS.out.alloc _).alloc _
  · exact ((Ext.refl w).alloc _).alloc _
end Go.Proofs.Ytidnikndjhfgaaa
