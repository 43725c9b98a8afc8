/- Contracts of squeeze at characters and boxes; Chars, Boxes with what they read. -/
import Derived.Test.YtdfhefnjoekgbaaQm
namespace Go.Proofs.Ytdfhefnjoekgbaa
open Go.ChangeShapes Go.WideShapes Go.RowKit Bv Fl
attribute [local go_sem ↓] Go.wp_at_zero Go.wp_at_succ
attribute [local go_sem] run_store_f64
/-- of another class than numbers -/
def Other (d : VD) : Prop := d.kind = 5 ∨ d.kind = 6
theorem Other.cls {d : VD} (h : Other d) : ((d.cls : Int) != 0) = true := by
  have : d.cls = 1 ∨ d.cls = 2 := by
    unfold VD.cls
    rcases h with h | h <;> rw [h]
    · exact .inl rfl
    · exact .inr rfl
  rcases this with h | h <;> rw [h] <;> rfl
set_option maxHeartbeats 1000000
set_option maxRecDepth 100000
/-- Chars, and what the new Vec reads -/
theorem chars_s (A : Option Addr) (l : List Int) (n : Nat) (hn : n = l.length) (c : Nat) (w : World) (hl : n ≤ 1048576) (hs : Sl w 1 A n (i32s l)) : Calls Try.prog 26 #[.slice A n c] w fun e w' => ∃ B cb, e = .returned (.agg #[.int .i64 5, .slice none 0 0, .int .i64 0, .slice none 0 0, .slice none 0 0, .slice none 0 0, .slice B n cb, .slice none 0 0]) ∧ VecS w' (.agg #[.int .i64 5, .slice none 0 0, .int .i64 0, .slice none 0 0, .slice none 0 0, .slice none 0 0, .slice B n cb, .slice none 0 0]) (VD.chars l) (New w.heap.size) ∧ Ext w w' := by
  refine (vchars_own A l n hn c w hl hs).mono ?_
  rintro e w' ⟨B, cb, rfl, hown, hx⟩
  refine ⟨B, cb, rfl, VecS.mk ?_ (In.one (A := B) (n := n) (c := cb) (fun a ha => ?_) (.inr rfl) ⟨_, rfl⟩ (.inr rfl) (.inr rfl) (.inr rfl) (.inl rfl) (.inr rfl)), hx⟩
  · subst hn
    exact .inr (.inr (.inr (.inr (.inr (.inl ⟨l, B, cb, rfl, hl, rfl, Sl.own hown⟩)))))
  · obtain ⟨A', c', e', _, hA⟩ := own_form hown
    cases e'
    exact (hA a ha).1
theorem boxes_s (A : Option Addr) (cs : List Value) (n c : Nat) (h1 : ∀ u ∈ cs, u.oneCell' = true) (w : World) (hl : n ≤ 1048576) (hs : Sl w 9 A n cs) : Calls Try.prog 27 #[.slice A n c] w fun e w' => ∃ v, e = .returned v ∧ VecS w' v (VD.boxes cs) (New w.heap.size) ∧ Ext w w' := by
  have hlen := hs.1
  have hc := fun w hs => cloneArr A n c cs w hs h1 (by omega)
  have HS := hs
  have H1 := Lib.hid h1
  have HL := Lib.hid hlen
  clear hs h1 hlen
  have E := Ext.refl w
  go_enter Try.func27, Try.ntmps27
  go_wp2_with (refine allocsV rfl rfl ?_; intro B2 w2 bB2 cB2 x L2 R2; have z1 := x.size; replace E := E.trans x; replace HS := HS.ext x; clear x)
  refine (hc _ HS).mono ?_
  rintro e w3 ⟨v, rfl, hown, x⟩
  have z2 := x.size
  replace E := E.trans x
  replace HS := HS.ext x
  replace L2 := L2.ext x
  replace R2 := R2.ext x
  clear x
  clear HS
  have hof := own_form hown
  obtain ⟨B, cb, rfl, -, -⟩ := own_form hown
  have V1 : VecS w3 (.agg #[.int .i64 6, .slice none 0 0, .int .i64 0, .slice none 0 0, .slice none 0 0, .slice none 0 0, .slice none 0 0, .slice B n cb]) (VD.boxes cs) (New w2.heap.size) := VecS.mk (.inr (.inr (.inr (.inr (.inr (.inr ⟨n, cs, B, cb, rfl, hl, HL.out, H1.out, rfl, Sl.own hown⟩)))))) (In.one (A := B) (n := n) (c := cb) (fun a ha => by obtain ⟨A', c', e', _, hA⟩ := hof; cases e'; exact (hA a ha).1) (.inr rfl) ⟨_, rfl⟩ (.inr rfl) (.inr rfl) (.inr rfl) (.inr rfl) (.inl rfl))
  have hF := V1.is.flat
  clear hown hof
  go_wp2_with (have hRl := (R2).lt (Nat.zero_lt_succ _); refine storesV (B := B2) rfl rfl rfl (v := (.agg #[.int .i64 6, .slice none 0 0, .int .i64 0, .slice none 0 0, .slice none 0 0, .slice none 0 0, .slice none 0 0, .slice B n cb])) rfl R2 hF ?_; clear L2; intro w4 g L2 RQ; have z3 := g.size; replace E := grown_ext E g (by omega); replace V1 := V1.grown g (by dsimp only [New]; omega); clear R2; have R2 := RQ; clear RQ hRl; clear g)
  exact bodyPost_ret (results_lay rfl rfl (ldV L2)) rfl ⟨_, rfl, V1.mono (fun i _ h => by dsimp only [New] at *; omega), E⟩
end Go.Proofs.Ytdfhefnjoekgbaa
