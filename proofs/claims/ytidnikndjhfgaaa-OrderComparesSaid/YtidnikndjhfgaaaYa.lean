/- rebusref07.Count. -/
import Derived.Test.YtidnikndjhfgaaaQs
namespace Go.Proofs.Ytidnikndjhfgaaa
open Go.ChangeShapes Go.WideShapes Go.RowKit Bv Fl
set_option maxHeartbeats 2000000
set_option maxRecDepth 100000
/-- an element of s cells of a slice -/
theorem sl_at {α : Type} [Inhabited α] (con : α → List Value) {s : Nat} (hs : 0 < s) (hlen : ∀ x, (con x).length = s) {w : World} {A : Option Addr} {n : Nat} {l : List α} (hn : n = l.length) (h : Sl w s A n (l.flatMap con)) {k : Nat} (hk : k < n) :
    ∃ a, A = some a ∧ a.block < w.heap.size ∧ ∀ f u, (con (l.getD k default))[f]? = some u → w.cell? ((a.add (k * s)).add f) = some u := by
  obtain ⟨a, e, hb, hc⟩ := h.2 (Nat.mul_pos (by omega) hs)
  refine ⟨a, e, hb, fun f u hu => ?_⟩
  rw [addr_add]
  refine hc _ _ ?_
  have hf : f < s := by
    have := (List.getElem?_eq_some_iff.1 hu).1
    rwa [hlen] at this
  rw [fm_get con s hlen l k f (by omega) hf]
  rwa [show l.getD k default = l[k]'(by omega) by simp [List.getD, show k < l.length by omega]] at hu
/-- an item's cells -/
structure ItAt (w : World) (b : Addr) (x : It) : Prop where
  c0 : w.cell? b = some (.int .i64 x.kind)
  c1 : w.cell? ⟨b.block, b.off + 1, none⟩ = some (.float .f64 x.num)
  c2 : w.cell? ⟨b.block, b.off + 2, none⟩ = some (.int .i32 x.chr)
  c3 : w.cell? ⟨b.block, b.off + 3, none⟩ = some (.slice x.bA x.bn x.bc)
theorem it_at {w : World} {A : Option Addr} {l : List It} {n : Nat} (hn : n = l.length) (h : Sl w 4 A n (itc l)) {k : Nat} (hk : k < n) : ∃ a, A = some a ∧ ItAt w (a.add (k * 4)) (l.getD k default) := by
  obtain ⟨a, e, _, hc⟩ := sl_at It.cells (by omega) (fun _ => rfl) hn h hk
  exact ⟨a, e, ⟨hc 0 _ rfl, hc 1 _ rfl, hc 2 _ rfl, hc 3 _ rfl⟩⟩
structure PlOf (w : World) (b : Addr) (q : Pl) : Prop where
  c0 : w.cell? b = some (.slice q.sA q.sh.length q.sc)
  c1 : w.cell? ⟨b.block, b.off + 1, none⟩ = some (.slice q.iA q.its.length q.ic)
  c2 : w.cell? ⟨b.block, b.off + 2, none⟩ = some (.int .i64 q.fill)
theorem pl_at {w : World} {A : Option Addr} {l : List Pl} {n : Nat} (hn : n = l.length) (h : Sl w 3 A n (plc l)) {k : Nat} (hk : k < n) : ∃ a, A = some a ∧ PlOf w (a.add (k * 3)) (l.getD k default) := by
  obtain ⟨a, e, _, hc⟩ := sl_at Pl.cells (by omega) (fun _ => rfl) hn h hk
  exact ⟨a, e, ⟨hc 0 _ rfl, hc 1 _ rfl, hc 2 _ rfl⟩⟩
theorem getD_memA {α : Type} [Inhabited α] {l : List α} {k : Nat} (h : k < l.length) : l.getD k default ∈ l := by
  rw [List.getD_eq_getElem?_getD, List.getElem?_eq_getElem h]; exact List.getElem_mem h
theorem plcount_any : ∀ (d : Nat) (w : World) (p : Pl) (most : Int), Deep d w p → Calls Try.prog 24 #[p.val, .int .i64 most] w fun e w' => ∃ z, e = .returned (.int .i64 z) ∧ Ext w w' := by
  intro d
  induction d with
  | zero => intro w p most h; exact h.elim
  | succ d ih =>
    intro w p most h
    have HD : Hid (∀ w', Ext w w' → ∀ k, k < p.its.length → ∃ a, p.iA = some a ∧ ItAt w' (a.add (k * 4)) (p.its.getD k default) ∧ ∀ j, j < (p.its.getD k default).bn → ∃ b q, (p.its.getD k default).bA = some b ∧ PlOf w' (b.add (j * 3)) q ∧ Deep d w' q) := fun w' hx k hk => by
      obtain ⟨a, e, hI⟩ := it_at rfl (h.1.itS.ext hx) hk
      obtain ⟨qs, h1, h2, h3⟩ := h.2 _ (getD_memA hk)
      refine ⟨a, e, hI, fun j hj => ?_⟩
      obtain ⟨b, e2, hP⟩ := pl_at h1.symm (h2.ext hx) hj
      exact ⟨b, _, e2, hP, (h3 _ (getD_memA (by omega))).ext hx⟩
    have b1 := h.1.shL
    have b2 := h.1.itL
    simp only [maxLen] at b1 b2
    have b3 : Hid (∀ x ∈ p.its, x.bn ≤ maxLen) := fun x hx => (h.1.itW x hx).len
    clear h
    obtain ⟨sA, sh, sc, iA, its, ic, fl⟩ := p
    simp only at HD b1 b2 b3
    unfold Pl.val
    simp only
    have HB : Hid (∀ k, k < its.length → (its.getD k default).bn ≤ 9223372036854775807) := fun k hk => by
      have := b3.out _ (getD_memA hk)
      simpa [maxLen] using this
    clear b3
    obtain ⟨IT, hIT⟩ : ∃ IT : Nat → It, (fun k => its.getD k default) = IT := ⟨_, rfl⟩
    have hIT' : ∀ k, its.getD k default = IT k := fun k => by rw [← hIT]
    simp only [hIT'] at HD HB
    clear hIT hIT'
    generalize sh.length = ns at *
    generalize its.length = m at *
    clear sh its
    have hF := pl_flat sA ns sc iA m ic fl
    have E := Ext.refl w
    go_enter Try.func24, Try.ntmps24
    have TB2 : True := trivial
    go_wp2_with (clear TB2; refine boxsP (v := (.agg #[.slice sA ns sc, .slice iA m ic, .int .i64 fl])) rfl rfl rfl hF ?_; intro B2 w2 bB2 cB2 XB2 LB2 RB2; have z1 := XB2.size; replace E := E.trans XB2; have cB2_0 := lay_cell LB2 (j := 0) rfl; have cB2_1 := lay_cell LB2 (j := 1) rfl; clear LB2 RB2)
    go_loopw [5, 6] (fun x i wr => ∃ (z : Int) (k : Nat), k ≤ m ∧ x = .int .i64 z ∧ i = .int .i64 k ∧ Ext w2 wr) (fun _ i _ => m - (intOf i).toNat)
    case atStart => exact ⟨_, 0, Nat.zero_le _, rfl, rfl, Ext.refl _⟩
    case round =>
      obtain ⟨z, k, hk, rfl, rfl, HX⟩ := hrel
      have z2 := HX.size
      replace E := E.trans HX
      replace cB2_0 := cell_ext (HX) cB2_0
      replace cB2_1 := cell_ext (HX) cB2_1
      have hc : (k < m ∧ decide (z ≤ most) = true) ∨ (k < m ∧ decide (z ≤ most) = false) ∨ ¬ k < m := by
        by_cases a : k < m
        · cases b : decide (z ≤ most)
          · exact .inr (.inl ⟨a, rfl⟩)
          · exact .inl ⟨a, rfl⟩
        · exact .inr (.inr a)
      rcases hc with ⟨hlt, hm⟩ | ⟨hlt, hm⟩ | hlt
      · obtain ⟨a, ea, -, -⟩ := HD.out _ E k hlt
        subst ea
        have hbn := HB.out k hlt
        go_wp2_with fail
        generalize wr = wq3 at *
        go_loopw [5, 7] (fun x i wr => ∃ (y : Int) (j : Nat), j ≤ (IT k).bn ∧ x = .int .i64 y ∧ i = .int .i64 j ∧ Ext wq3 wr) (fun _ i _ => (IT k).bn - (intOf i).toNat)
        case atStart => exact ⟨z, 0, Nat.zero_le _, rfl, rfl, Ext.refl _⟩
        case round =>
          obtain ⟨y, j, hj, rfl, rfl, HY⟩ := hrel
          have z4 := HY.size
          replace E := E.trans HY
          replace cB2_0 := cell_ext (HY) cB2_0
          replace cB2_1 := cell_ext (HY) cB2_1
          replace HX := HX.trans HY
          have hc2 : (j < (IT k).bn ∧ decide (y ≤ most) = true) ∨ (j < (IT k).bn ∧ decide (y ≤ most) = false) ∨ ¬ j < (IT k).bn := by
            by_cases a : j < (IT k).bn
            · cases b : decide (y ≤ most)
              · exact .inr (.inl ⟨a, rfl⟩)
              · exact .inl ⟨a, rfl⟩
            · exact .inr (.inr a)
          rcases hc2 with ⟨hlt2, hm⟩ | ⟨hlt2, hm⟩ | hlt2
          · obtain ⟨a', ea, hI, hQ⟩ := HD.out _ E k hlt
            cases ea
            obtain ⟨b, q, eb, hP, hDq⟩ := hQ j hlt2
            have D3 := hI.c3
            rw [eb] at D3
            have D4 := hP.c0
            have D5 := hP.c1
            have D6 := hP.c2
            have hcq := fun w' (hx : Ext wr w') => ih w' q most (hDq.ext hx)
            have hq : q.val = .agg #[.slice q.sA q.sh.length q.sc, .slice q.iA q.its.length q.ic, .int .i64 q.fill] := rfl
            rw [hq] at hcq
            clear hI hQ hP hDq eb hq
            go_wp2_with fail
            refine (hcq _ (by first | exact HYx | exact Ext.refl _)).mono ?_
            rintro e w55 ⟨z2, rfl, x⟩
            have z5 := x.size
            replace E := E.trans x
            replace cB2_0 := cell_ext (x) cB2_0
            replace cB2_1 := cell_ext (x) cB2_1
            replace HX := HX.trans x
            replace HY := HY.trans x
            clear x
            go_wp2_with fail
            exact ⟨⟨_, j + 1, by omega, rfl, by go_num, HY⟩, by simp [intOf]; omega⟩
          · obtain ⟨a', ea, hI, hQ⟩ := HD.out _ E k hlt
            cases ea
            have D3 := hI.c3
            clear hI hQ
            go_wp2_with fail
            exact ⟨⟨_, k + 1, by omega, rfl, by go_num, HX⟩, by simp [intOf]; omega⟩
          · obtain ⟨a', ea, hI, hQ⟩ := HD.out _ E k hlt
            cases ea
            have D3 := hI.c3
            clear hI hQ
            go_wp2_with fail
            exact ⟨⟨_, k + 1, by omega, rfl, by go_num, HX⟩, by simp [intOf]; omega⟩
      · go_wp2_with fail
        go_ret
        exact ⟨_, rfl, E⟩
      · have TT := trivial
        go_wp2_with fail
        go_ret
        exact ⟨_, rfl, E⟩
end Go.Proofs.Ytidnikndjhfgaaa
