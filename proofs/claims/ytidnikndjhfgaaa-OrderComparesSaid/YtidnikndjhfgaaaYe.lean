/- rebusref07.Check in one contract. -/
import Derived.Test.YtidnikndjhfgaaaYd
namespace Go.Proofs.Ytidnikndjhfgaaa
open Go.ChangeShapes Go.WideShapes Go.RowKit Bv Fl
set_option maxHeartbeats 4000000
set_option maxRecDepth 100000
theorem plcheck : ∀ (n : Nat) (w : World) (p : Pl) (dp : Int), 0 ≤ dp → dp ≤ 40 → Deep n w p → ∃ z : Int, (z = 0 → GoodD dp.toNat w p) ∧ ∀ w1, Ext w w1 → Calls Try.prog 48 #[p.val, .int .i64 dp] w1 fun e w' => e = .returned (.int .i64 z) ∧ Ext w1 w' := by
  intro n
  induction n with
  | zero => intro w p dp _ _ h; exact h.elim
  | succ n ih =>
    intro w p dp hd0 hd1 h
    by_cases h1 : dp = 0
    · exact ⟨1, fun h => absurd h (by decide), fun w1 hx => chk_a _ _ _ _ _ _ _ _ _ h1⟩
    have h1' : (dp == 0) = false := by simpa using h1
    by_cases h2 : p.fill < 0
    · exact ⟨1, fun h => absurd h (by decide), fun w1 hx => chk_b _ _ _ _ _ _ _ _ _ h1' h2⟩
    by_cases h3 : 2 < p.fill
    · exact ⟨1, fun h => absurd h (by decide), fun w1 hx => chk_c _ _ _ _ _ _ _ _ _ h1' h2 h3⟩
    have cp := fun w1 (hx : Ext w w1) => fun w' (hy : Ext w1 w') => rprod_any p.sA p.sh p.sh.length rfl p.sc w' (h.1.shS.ext (hx.trans hy))
    by_cases h4 : prE p.sh = 0
    · by_cases h5 : prV p.sh = p.its.length
      · have h4' : (prE p.sh != 0) = false := by simpa using h4
        have h5' : ((prV p.sh : Int) != (p.its.length : Int)) = false := by simpa using (show (prV p.sh : Int) = (p.its.length : Int) by omega)
        have hm2 : p.its.length ≤ 1048576 := by rw [← h5]; exact prV_le _
        have hz : ∀ k, ∃ z : Int, k < p.its.length → (p.its.getD k default).bn = 1 → ∃ b q, (p.its.getD k default).bA = some b ∧ Sl w 3 (some b) 1 (plc [q]) ∧ (z = 0 → GoodD (dp - 1).toNat w q) ∧ ∀ w1, Ext w w1 → Calls Try.prog 48 #[q.val, .int .i64 (dp - 1)] w1 fun e w' => e = .returned (.int .i64 z) ∧ Ext w1 w' := fun k => by
          by_cases hk : k < p.its.length ∧ (p.its.getD k default).bn = 1
          · obtain ⟨qs, e1, e2, e3⟩ := h.2 _ (getD_memA hk.1)
            rw [hk.2] at e1 e2
            match qs, e1 with
            | [q], _ =>
              obtain ⟨b, eb, _⟩ := pl_at rfl e2 (show 0 < 1 by omega)
              obtain ⟨z, hz1, hz2⟩ := ih w q (dp - 1) (by omega) (by omega) (e3 q (by simp))
              exact ⟨z, fun _ _ => ⟨b, q, eb, eb ▸ e2, hz1, hz2⟩⟩
          · exact ⟨0, fun a b => absurd ⟨a, b⟩ hk⟩
        obtain ⟨ZS, hZS⟩ : ∃ ZS : Nat → Int, ∀ k, k < p.its.length → (p.its.getD k default).bn = 1 → ∃ b q, (p.its.getD k default).bA = some b ∧ Sl w 3 (some b) 1 (plc [q]) ∧ (ZS k = 0 → GoodD (dp - 1).toNat w q) ∧ ∀ w1, Ext w w1 → Calls Try.prog 48 #[q.val, .int .i64 (dp - 1)] w1 fun e w' => e = .returned (.int .i64 (ZS k)) ∧ Ext w1 w' :=
          ⟨fun k => Classical.choose (hz k), fun k => Classical.choose_spec (hz k)⟩
        refine ⟨if chE p.fill (fun k => p.its.getD k default) ZS p.its.length ≠ 0 then chE p.fill (fun k => p.its.getD k default) ZS p.its.length else if chF (fun k => p.its.getD k default) p.its.length then 0 else 1, fun hz0 => ?_, fun w1 hx => ?_⟩
        · split at hz0
          · exact absurd hz0 (by assumption)
          · rename_i he
            have he := Decidable.not_not.1 he
            split at hz0
            · rename_i hf
              obtain ⟨d1, hd1⟩ : ∃ d1, dp.toNat = d1 + 1 := ⟨dp.toNat - 1, by omega⟩
              rw [show (dp - 1).toNat = d1 by omega] at hZS
              rw [hd1]
              refine ⟨h.1, by omega, by omega, h4, h5, fun x hx => ?_⟩
              obtain ⟨k, hk, rfl⟩ := List.getElem_of_mem hx
              have hg : p.its.getD k default = p.its[k] := by simp [List.getD, hk]
              have hst := chE_zero he k hk
              have hfk := chF_all hf k hk
              try simp only at hst hfk
              have hZk := hZS k hk
              rw [hg] at hst hfk hZk
              unfold stE at hst
              split at hst
              · cases hst
              · rename_i hn
                have hk1 : p.its[k].kind = p.fill := Decidable.not_not.1 fun e => hn (.inl e)
                refine ⟨hk1, fun e => hfk (by rw [hk1]; exact e), fun e => ?_⟩
                have hk2 : p.its[k].kind = 2 := by rw [hk1]; exact e
                have hb : p.its[k].bn = 1 := Decidable.not_not.1 fun e => hn (.inr ⟨hk2, e⟩)
                rw [if_pos hk2] at hst
                obtain ⟨b, q, eb, e2, e3, _⟩ := hZk hb
                exact ⟨b, q, hb, eb, eb ▸ e2, e3 hst⟩
            · cases hz0
        · refine chk_f p.sA p.sh.length p.sc p.iA p.its.length p.ic p.fill dp w1 h1' h2 h3 (prV p.sh) (prE p.sh) (cp w1 hx) h4' h5' (by omega) hm2 (fun k => p.its.getD k default) ZS _ (chF (fun k => p.its.getD k default) p.its.length) ?_ ?_ ?_ ?_
          · intro w' hy k hk
            exact it_at rfl (h.1.itS.ext (hx.trans hy)) hk
          · intro k hk _ _ hb
            obtain ⟨b, q, eb, e2, _, e4⟩ := hZS k hk hb
            refine ⟨b, q, eb, fun w' hy => ⟨?_, e4 w' (hx.trans hy)⟩⟩
            obtain ⟨b', eb', hP⟩ := pl_at rfl (e2.ext (hx.trans hy)) (show 0 < 1 by omega)
            cases eb'
            exact hP
          · intro k hk hne
            have := chE_stay hne hk
            rw [if_pos (by rw [this]; exact hne), this]
          · intro he
            refine ⟨rfl, ?_⟩
            rw [if_neg (by rw [he]; decide)]
      · have h4' : (prE p.sh != 0) = false := by simpa using h4
        have h5' : ((prV p.sh : Int) != (p.its.length : Int)) = true := by simpa using (show ¬ (prV p.sh : Int) = (p.its.length : Int) by omega)
        exact ⟨23, fun h => absurd h (by decide), fun w1 hx => chk_e _ _ _ _ _ _ _ _ _ h1' h2 h3 (prV p.sh) (prE p.sh) (cp w1 hx) h4' h5'⟩
    · have h4' : (prE p.sh != 0) = true := by simpa using h4
      exact ⟨prE p.sh, fun h => absurd h h4, fun w1 hx => chk_d _ _ _ _ _ _ _ _ _ h1' h2 h3 (prV p.sh) (prE p.sh) (cp w1 hx) h4'⟩
end Go.Proofs.Ytidnikndjhfgaaa
