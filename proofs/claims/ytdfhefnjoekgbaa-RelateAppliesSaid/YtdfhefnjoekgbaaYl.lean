/- An item loaded; Tidy's items. -/
import Derived.Test.YtdfhefnjoekgbaaYi
import Derived.Test.YtdfhefnjoekgbaaYk
namespace Go.Proofs.Ytdfhefnjoekgbaa
open Go.ChangeShapes Go.WideShapes Go.RowKit Bv Fl
set_option maxHeartbeats 2000000
set_option maxRecDepth 100000
theorem cell_spot {w : World} {a : Addr} {u : Value} (h : w.cell? a = some u) : a = ⟨a.block, a.off, none⟩ := by
  obtain ⟨b, o, s⟩ := a
  cases s with
  | none => rfl
  | some s =>
    unfold World.cell? at h
    split at h
    · simp at h
    · cases h
theorem load_it {op : Oper} {a : Act} {w : World} {K : Act → World → Prop} {Q : Exit → Act → World → Prop} {x : Operand} (ho : op.op = .load 125 x)
    {p : Addr} (hx : a.eval x = .pointer (some p)) {y : It} (hl : ItAt w p y) (h : K (a.put op.dst y.val) w) : op.wp Try.prog a w K Q := by
  have hp := cell_spot hl.c0
  have hr : (loadVar 125 p).run Try.prog w = .ok y.val w := by
    have := run_loadVar_mid (P := Try.prog) w p.block p.off 125 y.cells _ (fun j v hv => by
      match j, hv with
      | 0, hv => cases hv; rw [Nat.add_zero, ← hp]; exact hl.c0
      | 1, hv => cases hv; exact hl.c1
      | 2, hv => cases hv; exact hl.c2
      | 3, hv => cases hv; exact hl.c3) Try.underlying125 rfl (by kernel_rfl)
    rw [← hp] at this
    exact this
  unfold Oper.wp execOp
  simp only [ho, hx, Instr.loadAt, Instr.sureAddr, Sem.run_bind, Sem.run_pure, Result.andThen_ok, hr]
  exact h
theorem rd_const {P : Prop} (h : P) (w : World) (S : Nat → Prop) : Rd (fun _ => P) w S := fun _ _ _ => h
theorem SlS.item {w : World} {A : Option Addr} {n : Nat} {L : List It} {S : Nat → Prop} (h : SlS w 4 A n (itc L) S) (hl : L.length = n) {k : Nat} (hk : k < n) : ∃ a, A = some a ∧ Rd (fun w' => ItAt w' (a.add (k * 4)) (L.getD k default)) w S := by
  obtain ⟨a, ea, _⟩ := it_at hl.symm h.is hk
  refine ⟨a, ea, fun w' hs hk' => ?_⟩
  obtain ⟨a', ea', hi⟩ := it_at hl.symm (h w' hs hk') hk
  rw [ea] at ea'
  cases ea'
  exact hi
/-- what Tidy makes of an item -/
def TdX (p : Pl) (k : Nat) (x : It) : Prop := (p.fill = 0 → x = ⟨0, dn (p.its.getD k default).num, 0, none, 0, 0⟩) ∧ (p.fill = 1 → x = ⟨1, 0, (p.its.getD k default).chr, none, 0, 0⟩)
theorem tidy_its (n : Nat) (w0 w : World) (p : Pl) (h : GoodD n w0 p) (hx0 : Ext w0 w) : Calls Try.prog 51 #[p.val] w (TdP (TdX p) p.sA p.sh.length p.sc p.its.length p.fill w) := by
  by_cases h2 : p.fill = 2
  · refine (tidy_all n w0 w p h hx0).mono ?_
    rintro e w2 ⟨A', c', L, rfl, hl, _, hS, hx⟩
    exact ⟨A', c', L, rfl, hl, fun _ _ => ⟨fun h => by omega, fun h => by omega⟩, hS, hx⟩
  · cases n with
    | zero => exact h.elim
    | succ n =>
      obtain ⟨hfl, h0, h2', hp1, hp2, hit⟩ := h
      have hm2 : p.its.length ≤ 1048576 := by rw [← hp2]; exact prV_le _
      have hI : Hid (∀ w2, Ext w w2 → ∀ k, k < p.its.length → ∃ a, p.iA = some a ∧ ItAt w2 (a.add (k * 4)) (p.its.getD k default)) := fun w2 h2 k hk => it_at rfl (hfl.itS.ext (hx0.trans h2)) hk
      have h3 : p.fill = 0 ∨ p.fill = 1 := by omega
      unfold Pl.val
      rcases h3 with e | e
      · have hv := tidy_0 p.sA p.sh.length p.sc p.iA p.its.length p.ic w hm2 (fun k => p.its.getD k default) hI (fun k hk => by
          obtain ⟨h1, h2, _⟩ := hit _ (getD_memA hk)
          exact ⟨by rw [h1]; exact e, h2 e⟩)
        rw [e]
        refine hv.mono ?_
        rintro e2 w2 ⟨A', c', L, rfl, hl, hP, hS, hx⟩
        exact ⟨A', c', L, rfl, hl, fun k hk => ⟨fun _ => hP k hk, fun h => by omega⟩, hS, hx⟩
      · have hv := tidy_1 p.sA p.sh.length p.sc p.iA p.its.length p.ic w hm2 (fun k => p.its.getD k default) hI (fun k hk => by rw [(hit _ (getD_memA hk)).1]; exact e)
        rw [e]
        refine hv.mono ?_
        rintro e2 w2 ⟨A', c', L, rfl, hl, hP, hS, hx⟩
        exact ⟨A', c', L, rfl, hl, fun k hk => ⟨fun h => by omega, fun _ => hP k hk⟩, hS, hx⟩
theorem GoodD.fills {n : Nat} {w : World} {p : Pl} (h : GoodD n w p) : Flt w p ∧ 0 ≤ p.fill ∧ p.fill ≤ 2 := by
  cases n with
  | zero => exact h.elim
  | succ n => exact ⟨h.1, h.2.1, h.2.2.1⟩
theorem OfP.flat {p : Pl} {v : Value} {w : World} (h0 : 0 ≤ p.fill) (h2 : p.fill ≤ 2) (h : OfP p v w) : Flat 8 v := by
  have h3 : p.fill = 0 ∨ p.fill = 1 ∨ p.fill = 2 := by omega
  rcases h3 with e | e | e
  · exact (h.1 e).flat
  · exact (h.2.1 e).flat
  · obtain ⟨cs, _, hv⟩ := h.2.2 e
    exact hv.flat
theorem OfP.cls {p : Pl} {v : Value} {w : World} (h0 : 0 ≤ p.fill) (h2 : p.fill ≤ 2) (h : OfP p v w) (w' : World) (hx : Ext w w') : Calls Try.prog 56 #[v] w' fun e w2 => e = .returned (.int .i64 p.fill) ∧ Ext w' w2 := by
  have h3 : p.fill = 0 ∨ p.fill = 1 ∨ p.fill = 2 := by omega
  rcases h3 with e | e | e
  · rw [e]; exact nclass_any v _ _ w' ((h.1 e).ext hx)
  · rw [e]; exact vclass_any v _ w' ((h.2.1 e).ext hx)
  · obtain ⟨cs, _, hv⟩ := h.2.2 e
    rw [e]; exact vclass_any v _ w' (hv.ext hx)
theorem plN_get (p : Pl) {i : Nat} (h : i < p.its.length) : (plN p).getD i 0 = dn (p.its.getD i default).num := by simp [plN, dnL, List.getD, h]
theorem plC_get (p : Pl) {i : Nat} (h : i < p.its.length) : (plC p).getD i 0 = (p.its.getD i default).chr := by simp [plC, List.getD, h]
theorem plN_len (p : Pl) : (plN p).length = p.its.length := by simp [plN, dnL]
theorem plC_len (p : Pl) : (plC p).length = p.its.length := by simp [plC]
end Go.Proofs.Ytdfhefnjoekgbaa
