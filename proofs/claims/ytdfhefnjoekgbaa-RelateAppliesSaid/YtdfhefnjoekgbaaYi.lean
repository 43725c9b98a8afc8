/- rebusref07.Tidy of boxes, and of all plain arrays. -/
import Derived.Test.YtdfhefnjoekgbaaYf
namespace Go.Proofs.Ytdfhefnjoekgbaa
open Go.ChangeShapes Go.WideShapes Go.RowKit Bv Fl
set_option maxHeartbeats 4000000
set_option maxRecDepth 100000
/-- what Tidy makes of what lies in a box -/
def TdQ (w : World) (e : Ending) (w' : World) : Prop := ∃ r0 r1 r2 : Value, e = .returned (.agg #[r0, r1, r2]) ∧ Flat 3 (.agg #[r0, r1, r2]) ∧ Ext w w'
section
variable (sA : Option Addr) (ns sc : Nat) (iA : Option Addr) (m ic : Nat) (w : World) (hm2 : m ≤ 1048576) (IT : Nat → It)
  (HI : Hid (∀ w', Ext w w' → ∀ k, k < m → ∃ a, iA = some a ∧ ItAt w' (a.add (k * 4)) (IT k)))
  (HQ : Hid (∀ k, k < m → (IT k).bn = 1 ∧ ∃ b q, (IT k).bA = some b ∧ ∀ w', Ext w w' → PlOf w' b q ∧ Calls Try.prog 51 #[q.val] w' (TdQ w')))
include hm2 HI HQ
theorem tidy_2 (hkd : ∀ k, k < m → (IT k).kind = 2) : Calls Try.prog 51 #[(.agg #[.slice sA ns sc, .slice iA m ic, .int .i64 2])] w (TdP (fun _ _ => True) sA ns sc m 2 w) := by
  have HKD := Lib.hid hkd
  clear hkd
  have hF := pl_flat sA ns sc iA m ic 2
  have E := Ext.refl w
  go_enter Try.func51, Try.ntmps51
  have TB1 : True := trivial
  have TB2 : True := trivial
  have TB3 : True := trivial
  have TG4 : True := trivial
  go_wp2_with (first | (clear TB1; refine boxsP (v := (.agg #[.slice sA ns sc, .slice iA m ic, .int .i64 2])) rfl rfl rfl hF ?_; intro B1 w1 bB1 cB1 XB1 LB1 RB1; have z1 := XB1.size; replace E := E.trans XB1; have cB1_0 := lay_cell LB1 (j := 0) rfl; have cB1_1 := lay_cell LB1 (j := 1) rfl; have cB1_2 := lay_cell LB1 (j := 2) rfl; clear LB1 RB1) | (clear TB2; refine allocsP rfl rfl ?_; intro B2 w2 bB2 cB2 XB2 LB2 RB2; have z2 := XB2.size; replace E := E.trans XB2; replace cB1_0 := cell_ext (XB2) cB1_0; replace cB1_1 := cell_ext (XB2) cB1_1; replace cB1_2 := cell_ext (XB2) cB1_2) | (clear TB3; refine allocsP rfl rfl ?_; intro B3 w3 bB3 cB3 XB3 LB3 RB3; have z3 := XB3.size; replace E := E.trans XB3; replace cB1_0 := cell_ext (XB3) cB1_0; replace cB1_1 := cell_ext (XB3) cB1_1; replace cB1_2 := cell_ext (XB3) cB1_2; replace LB2 := LB2.ext XB3; replace RB2 := RB2.ext XB3; have cB3_1 := lay_cell LB3 (j := 1) rfl) | (clear TG4; have hRl := (RB3).lt (Nat.zero_lt_succ _); refine storesP (B := B3) rfl rfl rfl (v := (.agg #[.slice sA ns sc, .slice none 0 0, .int .i64 2])) rfl RB3 (pl_flat sA ns sc none 0 0 2) ?_; clear LB3; clear cB3_1; intro s4 G4 LB3 RQ; have z5 := G4.size; replace E := grown_ext E G4 (by omega); replace cB1_0 := cell_grown (G4) cB1_0 (by show B1 ≠ _; omega); replace cB1_1 := cell_grown (G4) cB1_1 (by show B1 ≠ _; omega); replace cB1_2 := cell_grown (G4) cB1_2 (by show B1 ≠ _; omega); replace LB2 := LB2.grown G4 (by omega); replace RB2 := RB2.grown G4 (by omega); clear RB3; have RB3 := RQ; clear RQ hRl; have cB3_1 := lay_cell LB3 (j := 1) rfl))
  obtain ⟨BS, hBS1, hBS2⟩ : ∃ BS, BS ≤ s4.heap.size ∧ s4.heap.size ≤ BS := ⟨_, Nat.le_refl _, Nat.le_refl _⟩
  go_loopw [4] (fun i wr => ∃ (k TP : Nat) (oA : Option Addr) (oc : Nat) (L : List It), k ≤ m ∧ i = .int .i64 k ∧ L.length = k ∧ (∀ j, j < k → (fun (_ : Nat) (_ : It) => True) j (L.getD j default)) ∧ Ext w wr ∧ s4.heap.size ≤ wr.heap.size ∧ (wr.cell? ⟨B1, 0, none⟩ = some (.slice sA ns sc) ∧ wr.cell? ⟨B1, 1, none⟩ = some (.slice iA m ic) ∧ wr.cell? ⟨B1, 2, none⟩ = some (.int .i64 2)) ∧ (Lay 3 wr B2 zeroPl ∧ Room 3 wr B2) ∧ Lay 3 wr B3 (.agg #[.slice sA ns sc, .slice oA k oc, .int .i64 2]) ∧ Room 3 wr B3 ∧ RowB 125 4 wr BS TP (.slice oA k oc) k (itc L) ∧ TP ≤ wr.heap.size) (fun i _ => m - (intOf i).toNat)
  case atStart => exact ⟨0, 0, none, 0, [], Nat.zero_le _, rfl, rfl, fun j hj => absurd hj (by omega), E, Nat.le_refl _, ⟨cB1_0, cB1_1, cB1_2⟩, ⟨LB2, RB2⟩, LB3, RB3, RowB.nil, Nat.zero_le _⟩
  case round =>
    obtain ⟨k, TP, oA, oc, L, hk, rfl, hL1, hL2, E', zW, ⟨d0, d1, d2⟩, ⟨l2, r2⟩, l3, r3, HO, hTP⟩ := hrel
    clear E cB1_0 cB1_1 cB1_2 LB2 RB2 LB3 RB3 cB3_1
    have E := E'
    have cB1_0 := d0
    have cB1_1 := d1
    have cB1_2 := d2
    have LB2 := l2
    have RB2 := r2
    have LB3 := l3
    have RB3 := r3
    clear E' d0 d1 d2 l2 r2 l3 r3
    have cB3_1 := lay_cell LB3 (j := 1) rfl
    have HPP := Lib.hid (And.intro hL1 hL2)
    clear hL1 hL2
    have z6 := E.size
    by_cases hlt : k < m
    · obtain ⟨a, ea, hI⟩ := HI.out _ E k hlt
      subst ea
      have D0 := hI.c0
      have D1 := hI.c1
      have D2 := hI.c2
      have D3 := hI.c3
      have hbb := World.block_lt_of_cell? _ _ D0
      clear hI
      rw [HKD.out k hlt] at D0
      obtain ⟨hbn, b, q, hbA, hbq⟩ := HQ.out k hlt
      rw [hbn, hbA] at D3
      have hP := (hbq _ E).1
      have HCQ := Lib.hid (fun w' h => (hbq w' h).2)
      have D4 := hP.c0
      have D5 := hP.c1
      have D6 := hP.c2
      have hbq2 := World.block_lt_of_cell? _ _ D4
      clear hP hbq hbn hbA
      generalize IT k = x at D0 D1 D2 D3
      obtain ⟨kd, nm, ch, bA, bn, bc⟩ := x
      simp only at D0 D1 D2 D3
      unfold Pl.val at HCQ
      generalize q.sh.length = qn at *
      generalize q.its.length = qm at *
      obtain ⟨qA, qsh, qc, qI, qits, qd, qf⟩ := q
      simp only at D4 D5 D6 HCQ
      have TB5 : True := trivial
      have TG8 : True := trivial
      go_wp2_with (first | (clear TB5; refine allocsI rfl rfl ?_; intro B5 w5 bB5 cB5 XB5 LB5 RB5; have z7 := XB5.size; replace E := E.trans XB5; replace cB1_0 := cell_ext (XB5) cB1_0; replace cB1_1 := cell_ext (XB5) cB1_1; replace cB1_2 := cell_ext (XB5) cB1_2; replace LB2 := LB2.ext XB5; replace RB2 := RB2.ext XB5; replace LB3 := LB3.ext XB5; replace RB3 := RB3.ext XB5; replace cB3_1 := cell_ext (XB5) cB3_1; replace HO := HO.ext XB5; replace D1 := cell_ext (XB5) D1; replace D2 := cell_ext (XB5) D2; replace D3 := cell_ext (XB5) D3; replace D4 := cell_ext (XB5) D4; replace D5 := cell_ext (XB5) D5; replace D6 := cell_ext (XB5) D6; have cB5_0 := lay_cell LB5 (j := 0) rfl) | (clear TG8; have hRl := (RB5).lt (Nat.zero_lt_succ _); refine storesI (B := B5) rfl rfl rfl (v := (.agg #[.int .i64 2, .float .f64 0, .int .i32 0, .slice none 0 0])) rfl RB5 (it_flat 2 0 0 none 0 0) ?_; clear LB5; clear cB5_0; intro s8 G8 LB5 RQ; have z9 := G8.size; replace E := grown_ext E G8 (by omega); replace cB1_0 := cell_grown (G8) cB1_0 (by show B1 ≠ _; omega); replace cB1_1 := cell_grown (G8) cB1_1 (by show B1 ≠ _; omega); replace cB1_2 := cell_grown (G8) cB1_2 (by show B1 ≠ _; omega); replace LB2 := LB2.grown G8 (by omega); replace RB2 := RB2.grown G8 (by omega); replace LB3 := LB3.grown G8 (by omega); replace RB3 := RB3.grown G8 (by omega); replace cB3_1 := cell_grown (G8) cB3_1 (by show B3 ≠ _; omega); replace HO := HO.grown G8 (by omega); replace D1 := cell_grown (G8) D1 (by first | omega | (dsimp only; omega)); replace D2 := cell_grown (G8) D2 (by first | omega | (dsimp only; omega)); replace D3 := cell_grown (G8) D3 (by first | omega | (dsimp only; omega)); replace D4 := cell_grown (G8) D4 (by first | omega | (dsimp only; omega)); replace D5 := cell_grown (G8) D5 (by first | omega | (dsimp only; omega)); replace D6 := cell_grown (G8) D6 (by first | omega | (dsimp only; omega)); clear RB5; have RB5 := RQ; clear RQ hRl; have cB5_0 := lay_cell LB5 (j := 0) rfl))
      refine (HCQ.out _ E).mono ?_
      rintro e w60 ⟨r0, r1, r2, rfl, hr, x⟩
      have z10 := x.size
      replace E := E.trans x
      replace cB1_0 := cell_ext (x) cB1_0
      replace cB1_1 := cell_ext (x) cB1_1
      replace cB1_2 := cell_ext (x) cB1_2
      replace LB2 := LB2.ext x
      replace RB2 := RB2.ext x
      replace LB3 := LB3.ext x
      replace RB3 := RB3.ext x
      replace cB3_1 := cell_ext (x) cB3_1
      replace HO := HO.ext x
      replace D1 := cell_ext (x) D1
      replace D2 := cell_ext (x) D2
      replace D3 := cell_ext (x) D3
      replace D4 := cell_ext (x) D4
      replace D5 := cell_ext (x) D5
      replace D6 := cell_ext (x) D6
      replace LB5 := LB5.ext x
      replace RB5 := RB5.ext x
      replace cB5_0 := cell_ext (x) cB5_0
      clear x
      have TG11 : True := trivial
      have TA67 : True := trivial
      have TG14 : True := trivial
      go_wp2_with (first | (clear TG11; have hRl := (RB5).lt (Nat.zero_lt_succ _); refine sfield_pls rfl rfl (B := B5) (j := 3) (v := (.slice (some ⟨w60.heap.size, 0, none⟩) 1 1)) (cs' := #[.int .i64 2, .float .f64 0, .int .i32 0, .slice (some ⟨w60.heap.size, 0, none⟩) 1 1]) rfl rfl rfl (LB5.ext ((Ext.refl w60).alloc _)) (RB5.ext ((Ext.refl w60).alloc _)) (by omega) rfl ?_; clear LB5; clear cB5_0; intro s11 G11 LB5 RQ; have z12 : w60.heap.size ≤ s11.heap.size := Nat.le_trans ((Ext.refl w60).alloc _).size G11.size; replace E := grown_ext (E.alloc _) G11 (by omega); replace cB1_0 := cell_grown (G11) (cell_ext ((Ext.refl w60).alloc _) cB1_0) (by show B1 ≠ _; omega); replace cB1_1 := cell_grown (G11) (cell_ext ((Ext.refl w60).alloc _) cB1_1) (by show B1 ≠ _; omega); replace cB1_2 := cell_grown (G11) (cell_ext ((Ext.refl w60).alloc _) cB1_2) (by show B1 ≠ _; omega); replace LB2 := (LB2.ext ((Ext.refl w60).alloc _)).grown G11 (by omega); replace RB2 := (RB2.ext ((Ext.refl w60).alloc _)).grown G11 (by omega); replace LB3 := (LB3.ext ((Ext.refl w60).alloc _)).grown G11 (by omega); replace RB3 := (RB3.ext ((Ext.refl w60).alloc _)).grown G11 (by omega); replace cB3_1 := cell_grown (G11) (cell_ext ((Ext.refl w60).alloc _) cB3_1) (by show B3 ≠ _; omega); replace HO := (HO.ext ((Ext.refl w60).alloc _)).grown G11 (by omega); replace D1 := cell_grown (G11) (cell_ext ((Ext.refl w60).alloc _) D1) (by first | omega | (dsimp only; omega)); replace D2 := cell_grown (G11) (cell_ext ((Ext.refl w60).alloc _) D2) (by first | omega | (dsimp only; omega)); replace D3 := cell_grown (G11) (cell_ext ((Ext.refl w60).alloc _) D3) (by first | omega | (dsimp only; omega)); replace D4 := cell_grown (G11) (cell_ext ((Ext.refl w60).alloc _) D4) (by first | omega | (dsimp only; omega)); replace D5 := cell_grown (G11) (cell_ext ((Ext.refl w60).alloc _) D5) (by first | omega | (dsimp only; omega)); replace D6 := cell_grown (G11) (cell_ext ((Ext.refl w60).alloc _) D6) (by first | omega | (dsimp only; omega)); clear RB5; have RB5 := RQ; clear RQ hRl G11; have cB5_0 := lay_cell LB5 (j := 0) rfl) | (refine loadsI (B := B5) (by rfl) rfl rfl LB5 ?_) | (clear TA67; refine app_It rfl rfl (base := BS) (k := k) rfl (HO.ext ((Ext.refl _).alloc _)) rfl (Sl.built _ #[.int .i64 2, .float .f64 0, .int .i32 0, .slice (some ⟨w60.heap.size, 0, none⟩) 1 1] _) (by intro u hu; simp at hu; rcases hu with rfl | rfl | rfl | rfl <;> rfl) (by omega) (by simp; omega) ?_; clear HO LB5 RB5 cB5_0 D1 D2 D3 D4 D5 D6; intro v67 w67 HO H67; obtain ⟨A67, c67, e67, -, -⟩ := own_form HO.1; subst e67; have z13 : s11.heap.size ≤ w67.heap.size := Nat.le_trans ((Ext.refl s11).alloc _).size H67.size; replace E := (E.alloc _).trans' (H67.mono (by omega)); replace cB1_0 := cell_below H67 (cell_ext ((Ext.refl _).alloc _) cB1_0) (by show B1 < BS; omega); replace cB1_1 := cell_below H67 (cell_ext ((Ext.refl _).alloc _) cB1_1) (by show B1 < BS; omega); replace cB1_2 := cell_below H67 (cell_ext ((Ext.refl _).alloc _) cB1_2) (by show B1 < BS; omega); replace LB2 := (LB2.ext ((Ext.refl _).alloc _)).below H67 (by omega); replace RB2 := (RB2.ext ((Ext.refl _).alloc _)).below H67 (by omega); replace LB3 := (LB3.ext ((Ext.refl _).alloc _)).below H67 (by omega); replace RB3 := (RB3.ext ((Ext.refl _).alloc _)).below H67 (by omega); replace cB3_1 := cell_below H67 (cell_ext ((Ext.refl _).alloc _) cB3_1) (by show B3 < BS; omega); clear H67) | (clear TG14; have hRl := (RB3).lt (Nat.zero_lt_succ _); refine sfield_its rfl rfl (B := B3) (j := 1) (v := (.slice A67 (k + 1) c67)) (cs' := #[.slice sA ns sc, .slice A67 (k + 1) c67, .int .i64 2]) rfl rfl rfl LB3 RB3 (by omega) rfl ?_; clear LB3; clear cB3_1; intro s14 G14 LB3 RQ; have z15 := G14.size; replace E := grown_ext E G14 (by omega); replace cB1_0 := cell_grown (G14) cB1_0 (by show B1 ≠ _; omega); replace cB1_1 := cell_grown (G14) cB1_1 (by show B1 ≠ _; omega); replace cB1_2 := cell_grown (G14) cB1_2 (by show B1 ≠ _; omega); replace LB2 := LB2.grown G14 (by omega); replace RB2 := RB2.grown G14 (by omega); replace HO := HO.grown G14 (by omega); clear RB3; have RB3 := RQ; clear RQ hRl G14; have cB3_1 := lay_cell LB3 (j := 1) rfl))
      obtain ⟨hp1, hp2⟩ := HPP.out
      obtain ⟨hp3, hp4⟩ := pp_step (PP := fun _ _ => True) hp1 hp2 (x := ⟨2, 0, 0, some ⟨w60.heap.size, 0, none⟩, 1, 1⟩) trivial
      exact ⟨⟨k + 1, _, _, _, _, by omega, by go_num, hp3, hp4, E, by omega, ⟨cB1_0, cB1_1, cB1_2⟩, ⟨LB2, RB2⟩, LB3, RB3, by rw [itc_app]; exact HO, by omega⟩, by simp [intOf]; omega⟩
    · have HKM : Hid (k = m) := (by omega : k = m)
      have TG16 : True := trivial
      go_wp2_with (first | (refine loadsP (B := B3) (by rfl) rfl rfl LB3 ?_) | (clear TG16; have hRl := (RB2).lt (Nat.zero_lt_succ _); refine storesP (B := B2) rfl rfl rfl (v := (.agg #[.slice sA ns sc, .slice oA k oc, .int .i64 2])) rfl RB2 (pl_flat sA ns sc oA k oc 2) ?_; clear LB2; intro s16 G16 LB2 RQ; have z17 := G16.size; replace E := grown_ext E G16 (by omega); replace cB1_0 := cell_grown (G16) cB1_0 (by show B1 ≠ _; omega); replace cB1_1 := cell_grown (G16) cB1_1 (by show B1 ≠ _; omega); replace cB1_2 := cell_grown (G16) cB1_2 (by show B1 ≠ _; omega); replace LB3 := LB3.grown G16 (by omega); replace RB3 := RB3.grown G16 (by omega); replace cB3_1 := cell_grown (G16) cB3_1 (by show B3 ≠ _; omega); replace HO := HO.grown G16 (by omega); clear RB2; have RB2 := RQ; clear RQ hRl; clear RB2))
      refine bodyPost_ret (results_lay rfl rfl (ldP LB2)) rfl ?_
      have hkm := HKM.out
      subst hkm
      unfold TdP
      exact ⟨oA, oc, L, rfl, HPP.out.1, HPP.out.2, HO.sls (by omega), E⟩
end
/-- of any plain array: as many items -/
theorem tidy_all : ∀ (n : Nat) (w0 w : World) (p : Pl), GoodD n w0 p → Ext w0 w → Calls Try.prog 51 #[p.val] w (TdP (fun _ _ => True) p.sA p.sh.length p.sc p.its.length p.fill w) := by
  intro n
  induction n with
  | zero => intro w0 w p h _; exact h.elim
  | succ n ih =>
    intro w0 w p h hx0
    obtain ⟨hfl, h0, h2, hp1, hp2, hit⟩ := h
    have hm2 : p.its.length ≤ 1048576 := by rw [← hp2]; exact prV_le _
    have hI : Hid (∀ w2, Ext w w2 → ∀ k, k < p.its.length → ∃ a, p.iA = some a ∧ ItAt w2 (a.add (k * 4)) (p.its.getD k default)) := fun w2 h2 k hk => it_at rfl (hfl.itS.ext (hx0.trans h2)) hk
    have h3 : p.fill = 0 ∨ p.fill = 1 ∨ p.fill = 2 := by omega
    unfold Pl.val
    rcases h3 with e | e | e
    · have hv := tidy_0 p.sA p.sh.length p.sc p.iA p.its.length p.ic w hm2 (fun k => p.its.getD k default) hI (fun k hk => by
        obtain ⟨h1, h2, _⟩ := hit _ (getD_memA hk)
        exact ⟨by rw [h1]; exact e, h2 e⟩)
      rw [e]
      refine hv.mono ?_
      rintro e2 w2 ⟨A', c', L, rfl, hl, _, hS, hx⟩
      exact ⟨A', c', L, rfl, hl, fun _ _ => trivial, hS, hx⟩
    · have hv := tidy_1 p.sA p.sh.length p.sc p.iA p.its.length p.ic w hm2 (fun k => p.its.getD k default) hI (fun k hk => by rw [(hit _ (getD_memA hk)).1]; exact e)
      rw [e]
      refine hv.mono ?_
      rintro e2 w2 ⟨A', c', L, rfl, hl, _, hS, hx⟩
      exact ⟨A', c', L, rfl, hl, fun _ _ => trivial, hS, hx⟩
    · have hQ : Hid (∀ k, k < p.its.length → (p.its.getD k default).bn = 1 ∧ ∃ b q, (p.its.getD k default).bA = some b ∧ ∀ w', Ext w w' → PlOf w' b q ∧ Calls Try.prog 51 #[q.val] w' (TdQ w')) := fun k hk => by
        obtain ⟨_, _, h3⟩ := hit _ (getD_memA hk)
        obtain ⟨b, q, e1, e2, e3, e4⟩ := h3 e
        refine ⟨e1, b, q, e2, fun w' hx => ⟨?_, ?_⟩⟩
        · rw [e2] at e3
          obtain ⟨b', eb', hP⟩ := pl_at rfl (e3.ext (hx0.trans hx)) (show 0 < 1 by omega)
          cases eb'
          exact hP
        · refine (ih w0 w' q e4 (hx0.trans hx)).mono ?_
          rintro e5 w5 ⟨A', c', L, rfl, _, _, _, hx5⟩
          exact ⟨_, _, _, rfl, pl_flat _ _ _ _ _ _ _, hx5⟩
      have hv := tidy_2 p.sA p.sh.length p.sc p.iA p.its.length p.ic w hm2 (fun k => p.its.getD k default) hI hQ (fun k hk => by rw [(hit _ (getD_memA hk)).1]; exact e)
      rw [e]
      exact hv
end Go.Proofs.Ytdfhefnjoekgbaa
