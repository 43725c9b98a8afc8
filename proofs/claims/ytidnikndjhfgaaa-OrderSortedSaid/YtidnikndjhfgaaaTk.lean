/- rebusref07.Tidy of elements that have an order. -/
import Derived.Test.YtidnikndjhfgaaaTj
namespace Go.Proofs.Ytidnikndjhfgaaa
open Go.ChangeShapes Go.WideShapes Go.RowKit Bv Fl
set_option maxHeartbeats 2000000
set_option maxRecDepth 100000
/-- items that have an order, and of which blocks they read -/
structure OIS (w : World) (A : Option Addr) (n : Nat) (L : List It) (X : List Int) (S : Nat → Prop) : Prop where
  lenL : L.length = n
  len : n = X.length
  lim : n ≤ 1048576
  sl : SlS w 4 A n (itc L) S
  below : ∀ x y, x < n → y < n → ∀ w', Calls Try.prog 28 #[(L.getD x default).val, (L.getD y default).val] w' fun e w2 => e = .returned (.bool (decide (X.getD x 0 < X.getD y 0))) ∧ Ext w' w2
section
variable {w w' : World} {A : Option Addr} {n g : Nat} {L : List It} {X : List Int} {S S' : Nat → Prop}
theorem OIS.is (h : OIS w A n L X S) : OI w A n (fun k => L.getD k default) X := ⟨h.len, h.lim, fun _ hx _ hk => it_at h.lenL.symm (h.sl.is.ext hx) hk, h.below⟩
theorem OIS.ext (h : OIS w A n L X S) (hx : Ext w w') : OIS w' A n L X S := ⟨h.lenL, h.len, h.lim, h.sl.ext hx, h.below⟩
theorem OIS.grown (h : OIS w A n L X S) (hg : w.grownBy w' (some g)) (hS : ¬ S g) : OIS w' A n L X S := ⟨h.lenL, h.len, h.lim, h.sl.grown hg hS, h.below⟩
theorem OIS.now (h : OIS w A n L X S) : OIS w A n L X (fun i => S i ∧ i < w.heap.size) := ⟨h.lenL, h.len, h.lim, fun w2 hs hk => h.sl w2 hs fun i hi hS => hk i hi ⟨hS, hi⟩, h.below⟩
end
def TdO (p : Pl) (w : World) (e : Ending) (w' : World) : Prop := ∃ A' c' L, e = .returned (.agg #[.slice p.sA p.sh.length p.sc, .slice A' p.its.length c', .int .i64 p.fill]) ∧ OIS w' A' p.its.length L (plK p) (New w.heap.size) ∧ Ext w w'
theorem tidy_p (n : Nat) (w0 w : World) (p : Pl) (h : GoodD n w0 p) (hx0 : Ext w0 w) (hf : p.fill < 2) : Calls Try.prog 15 #[p.val] w (TdO p w) := by
  cases n with
  | zero => exact h.elim
  | succ n =>
    obtain ⟨hfl, h0, h2, hp1, hp2, hit⟩ := h
    have hm2 : p.its.length ≤ 1048576 := by rw [← hp2]; exact prV_le _
    have hlen : p.its.length = (plK p).length := by simp [plK]
    have hI : Hid (∀ w2, Ext w w2 → ∀ k, k < p.its.length → ∃ a, p.iA = some a ∧ ItAt w2 (a.add (k * 4)) (p.its.getD k default)) := fun w2 h2 k hk => it_at rfl (hfl.itS.ext (hx0.trans h2)) hk
    have hX : ∀ k, k < p.its.length → (plK p).getD k 0 = if p.fill = 0 then key (dn (p.its.getD k default).num) else (p.its.getD k default).chr := fun k hk => by
      unfold plK
      simp [List.getD, hk]
    have hfl2 : p.fill = 0 ∨ p.fill = 1 := by omega
    rcases hfl2 with e | e
    · have hv := tidy_0 p.sA p.sh.length p.sc p.iA p.its.length p.ic w hm2 (fun k => p.its.getD k default) hI (fun k hk => by
        obtain ⟨h1, h2, _⟩ := hit _ (getD_memA hk)
        exact ⟨by rw [h1]; exact e, h2 e⟩)
      have hval : p.val = .agg #[.slice p.sA p.sh.length p.sc, .slice p.iA p.its.length p.ic, .int .i64 0] := by unfold Pl.val; rw [e]
      rw [hval]
      refine hv.mono ?_
      rintro e2 w2 ⟨A', c', L, rfl, hl, hL, hS, hx⟩
      refine ⟨A', c', L, by rw [e], ⟨hl, hlen, hm2, hS, fun x y hx hy w' => ?_⟩, hx⟩
      have tx : ∀ k, k < p.its.length → tidy (dn (p.its.getD k default).num) := fun k hk => by
        have h3 := (hfl.itW _ (getD_memA hk)).num
        exact dn_tidy _ (by simpa [Lit.wf] using h3)
      rw [hL x hx, hL y hy, hX x hx, hX y hy, if_pos e, if_pos e]
      exact below_num _ _ _ _ _ _ _ _ _ _ _ (tx x hx).1.nn (tx y hy).1.nn w'
    · have hv := tidy_1 p.sA p.sh.length p.sc p.iA p.its.length p.ic w hm2 (fun k => p.its.getD k default) hI (fun k hk => by rw [(hit _ (getD_memA hk)).1]; exact e)
      have hval : p.val = .agg #[.slice p.sA p.sh.length p.sc, .slice p.iA p.its.length p.ic, .int .i64 1] := by unfold Pl.val; rw [e]
      rw [hval]
      refine hv.mono ?_
      rintro e2 w2 ⟨A', c', L, rfl, hl, hL, hS, hx⟩
      refine ⟨A', c', L, by rw [e], ⟨hl, hlen, hm2, hS, fun x y hx hy w' => ?_⟩, hx⟩
      rw [hL x hx, hL y hy, hX x hx, hX y hy, if_neg (by omega), if_neg (by omega)]
      exact below_chr 1 (by decide) _ _ _ _ _ _ _ _ _ _ _ w'
end Go.Proofs.Ytidnikndjhfgaaa
