/- VecBoxes, whole. -/
import Derived.Test.YtmjikdkdccnbaaaKi
namespace Go.Proofs.Ytmjikdkdccnbaaa
open Go.ChangeShapes Go.WideShapes Go.RowKit Bv Fl
set_option maxHeartbeats 1000000
set_option maxRecDepth 100000
theorem vboxes_long (A : Option Addr) (n c : Nat) (i : Int) (w : World) (hn : ¬ n ≤ 60) : Calls Try.prog 3 #[.slice A n c, .int .i64 i] w fun e w' => e = .returned (.bool true) ∧ Ext w w' := by
  have aw := awake_any
  have E := Ext.refl w
  go_enter Try.func3, Try.ntmps3
  go_wp2_with fail
  refine (aw _).mono ?_
  rintro e w13 ⟨rfl, x⟩
  have z1 := x.size
  replace E := E.trans x
  clear x
  go_wp2_with fail
  go_ret
  exact ⟨rfl, E⟩
/-- a slice's header and its letters -/
abbrev Tx := Option Addr × List Int × Nat
theorem vecBoxes_walk (w : World) (A : Option Addr) (l : List Tx) (c : Nat) (_ : l.length ≤ c) (_ : c ≤ maxLen) (hs : Sl w 1 A l.length (l.map fun (x : Tx) => Value.slice x.1 x.2.1.length x.2.2)) (hw : ∀ x ∈ l, x.2.1.length ≤ x.2.2 ∧ x.2.2 ≤ maxLen ∧ Sl w 1 x.1 x.2.1.length (x.2.1.map fun (z : Int) => Value.int .i32 z)) (i : Int) (_ : (Lit.int .i64 i).wf = true) :
    Calls Try.prog 3 #[.slice A l.length c, .int .i64 i] w fun e w' => e = .returned (.bool true) ∧ Ext w w' := by
  by_cases hn : l.length ≤ 60
  · have HL : Hid (∀ w', Ext w w' → ∀ k, k < l.length → ∃ a, A = some a ∧ w'.cell? (a.add k) = some (.slice (l.getD k default).1 (l.getD k default).2.1.length (l.getD k default).2.2) ∧ Sl w' 1 (l.getD k default).1 (l.getD k default).2.1.length (i32s (l.getD k default).2.1)) := fun w' hx k hk => by
      obtain ⟨a, u, e, _, hu, hc⟩ := (hs.ext hx).at1 hk
      have hm : l.getD k default ∈ l := by
        rw [show l.getD k default = l[k] by simp [List.getD, hk]]
        exact List.getElem_mem hk
      refine ⟨a, e, ?_, (hw _ hm).2.2.ext hx⟩
      rw [hc, ← hu]
      simp [List.getD, hk]
    have one : ∀ {B : Option Addr} {n b base : Nat} {w : World} {T : TypeId} {xs : List Value}, w.ownsRow base T 1 (.slice B n b) n xs → ∀ a, B = some a → New base a.block := fun ho a ha => by
      subst ha
      exact (World.ownsRow.lt ho a.block rfl).1
    refine vboxes_main A l.length c (fun k => (l.getD k default).1) (fun k => (l.getD k default).2.1) (fun k => (l.getD k default).2.2) i w hn HL (fun k B b w' h60 h => ?_) (fun oA oc L w' S hL h => ?_)
      (fun v L w' h => vkind_any v _ w' h) (fun v L w' h => vclass_any v _ w' h) (fun v L w' hL h => ?_) (fun v L w' hL h => ?_) (fun v L w' h => vnums_none v _ w' h (by show ¬ (2 = 0); omega)) (fun v L k w' hL hk h => ?_)
      (fun v L w' hL hi h => vbox_none v _ i w' h ?_) (fun k v w' h => ?_) (fun k B b B' b' w' h1 h h' => runes_yes B B' _ _ b b' rfl w' h1 h h') (fun w' => ?_) awake_any
    · refine (vchars_own B _ _ rfl b w' (by omega) h).mono ?_
      rintro e w2 ⟨B2, cb, rfl, hown, hx⟩
      exact ⟨B2, cb, rfl, fun w3 h3 k3 => (Sl.own hown).reach h3 k3 fun a ha _ => one hown a ha, hx⟩
    · exact boxes_s oA (arrs L) l.length oc (arrs_one L) w' (by omega) h.is
    · refine (vlen_any v _ w' h).mono ?_
      rintro e w2 ⟨rfl, hx⟩
      exact ⟨by rw [VD.len_boxes (arrs L) l.length (by rw [arrs_length, hL.out])], hx⟩
    · refine (varrays_any v (arrs L) w' h).mono ?_
      rintro e w2 ⟨v', rfl, hown, hx⟩
      rw [arrs_length, hL.out, Nat.mul_div_cancel _ (by omega)] at hown
      have hS : ∀ B b, v' = .slice B l.length b → SlS w2 9 B l.length (arrs L) (New w'.heap.size) := fun B b e => by
        subst e
        exact fun w3 h3 k3 => (Sl.own hown).reach h3 k3 fun a ha _ => by
          subst ha
          exact (World.ownsRow.lt hown a.block rfl).1
      rcases hown.2 with ⟨h1, h2⟩ | ⟨g, cap, cur, h1, _⟩
      · refine ⟨none, 0, 0, ?_, fun h0 => ?_, ?_, hx⟩
        · rw [h1, h2]
        · omega
        · exact hS _ _ (by rw [h1, h2])
      · exact ⟨_, cap, g, by rw [h1], fun _ => rfl, hS _ _ h1, hx⟩
    · have hd := arrs_drop L (k := k) (by rw [hL.out]; exact hk)
      generalize L.getD k default = b at hd ⊢
      obtain ⟨gS, cA, m, cc⟩ := b
      exact vbox_in v (arrs L) k w' h (by rw [arrs_length, hL.out]; omega) _ _ _ _ _ _ _ _ _ _ _ _ _ _ _ _ _ _ _ _ _ _ _ hd
    · rintro ⟨_, h0, h1⟩
      rw [VD.len_boxes (arrs L) l.length (by rw [arrs_length, hL.out])] at h1
      exact hi ⟨h0, h1⟩
    · refine (vtext_any v _ w' h).mono ?_
      rintro e w2 ⟨v', rfl, hown, hx⟩
      obtain ⟨B, b, g, rfl, _, _, _, hS⟩ := RowN.of hown hx.size
      exact ⟨B, b, rfl, hS, hx⟩
    · exact vkind_any _ VD.none w' (IsVec.zero w')
  · exact vboxes_long A l.length c i w hn
end Go.Proofs.Ytmjikdkdccnbaaa
