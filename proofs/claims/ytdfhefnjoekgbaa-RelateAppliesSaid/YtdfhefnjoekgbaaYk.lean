/- value.of of all plain arrays; value.Of, rebuslaw07.Of. -/
import Derived.Test.YtdfhefnjoekgbaaYj
namespace Go.Proofs.Ytdfhefnjoekgbaa
open Go.ChangeShapes Go.WideShapes Go.RowKit Bv Fl
set_option maxHeartbeats 2000000
set_option maxRecDepth 100000
/-- P holds of this world, and of whatever later one has the blocks of S unchanged -/
def Rd (P : World → Prop) (w : World) (S : Nat → Prop) : Prop := ∀ w' : World, w.heap.size ≤ w'.heap.size → (∀ i, i < w.heap.size → S i → w'.heap[i]? = w.heap[i]?) → P w'
section
variable {P Q : World → Prop} {w w' : World} {S S' : Nat → Prop} {g : Nat}
theorem Rd.is (h : Rd P w S) : P w := h w (Nat.le_refl _) fun _ _ _ => rfl
theorem Rd.ext (h : Rd P w S) (hx : Ext w w') : Rd P w' S := fun w2 hs hk => h w2 (Nat.le_trans hx.size hs) fun i hi hS => (hk i (Nat.lt_of_lt_of_le hi hx.size) hS).trans (hx.block i hi)
theorem Rd.mono (h : Rd P w S) (hS : ∀ i, i < w.heap.size → S i → S' i) : Rd P w S' := fun w2 hs hk => h w2 hs fun i hi hs => hk i hi (hS i hi hs)
theorem Rd.now (h : Rd P w S) : Rd P w (fun i => S i ∧ i < w.heap.size) := h.mono fun _ hi h => ⟨h, hi⟩
theorem Rd.grown (h : Rd P w S) (hg : w.grownBy w' (some g)) (hS : ¬ S g) : Rd P w' S := fun w2 hs hk => h w2 (Nat.le_trans hg.size hs) fun i hi hi' => by
  have e : i ≠ g := fun e => hS (e ▸ hi')
  rw [hk i (Nat.lt_of_lt_of_le hi hg.size) hi']
  exact hg.block i hi (by simpa using e)
theorem Rd.imp (h : Rd P w S) (hQ : ∀ w', P w' → Q w') : Rd Q w S := fun w2 hs hk => hQ _ (h w2 hs hk)
theorem Rd.both (h : Rd P w S) (h' : Rd Q w S) : Rd (fun w' => P w' ∧ Q w') w S := fun w2 hs hk => ⟨h w2 hs hk, h' w2 hs hk⟩
end
theorem NumS.rd {w : World} {v : Value} {k : Nat} {l : List Nat} {S : Nat → Prop} (h : NumS w v k l S) : Rd (fun w' => IsNum w' v k l) w S := fun w' hs hk => by
  obtain ⟨d, h1, h2, h3, h4, h5⟩ := h
  exact ⟨d, h1 w' hs hk, h2, h3, h4, h5⟩
theorem VecS.rd {w : World} {v : Value} {d : VD} {S : Nat → Prop} (h : VecS w v d S) : Rd (fun w' => IsVec w' v d) w S := h
def OfR (P : Value → World → Prop) (w : World) (e : Ending) (w' : World) : Prop := ∃ c0 c1 c2 c3 c4 c5 c6 c7 c8 : Value, e = .returned (.tuple #[(.agg #[c0, c1, c2, c3, c4, c5, c6, c7, c8]), .int .i64 0]) ∧ Flat 9 (.agg #[c0, c1, c2, c3, c4, c5, c6, c7, c8]) ∧ Rd (P (.agg #[c1, c2, c3, c4, c5, c6, c7, c8])) w' (New w.heap.size) ∧ Ext w w'
def OfO (P : Value → World → Prop) (w : World) (e : Ending) (w' : World) : Prop := ∃ c0 c1 c2 c3 c4 c5 c6 c7 c8 : Value, e = .returned (.agg #[c0, c1, c2, c3, c4, c5, c6, c7, c8]) ∧ Flat 9 (.agg #[c0, c1, c2, c3, c4, c5, c6, c7, c8]) ∧ Rd (P (.agg #[c1, c2, c3, c4, c5, c6, c7, c8])) w' (New w.heap.size) ∧ Ext w w'
theorem vOf_rd (pv : Value) (hF : Flat 3 pv) (P : Value → World → Prop) (w : World) (cv : ∀ w', Ext w w' → Calls Try.prog 96 #[pv, .int .i64 40] w' (OfR P w')) : Calls Try.prog 84 #[pv] w (OfR P w) := by
  have E := Ext.refl w
  go_enter Try.func84, Try.ntmps84
  have TB1 : True := trivial
  have TB2 : True := trivial
  go_wp2_with (first | (clear TB1; refine boxsP (v := pv) rfl rfl rfl hF ?_; intro B1 w1 bB1 cB1 XB1 LB1 RB1; have z1 := XB1.size; replace E := E.trans XB1; clear RB1) | (clear TB2; refine allocsA rfl rfl ?_; intro B2 w2 bB2 cB2 XB2 LB2 RB2; have z2 := XB2.size; replace E := E.trans XB2; replace LB1 := LB1.ext XB2) | (refine loadsP (B := B1) (by rfl) rfl rfl LB1 ?_))
  clear LB1
  refine (cv _ E).mono ?_
  rintro e w5 ⟨c0, c1, c2, c3, c4, c5, c6, c7, c8, rfl, hf, hq, x⟩
  have HO := hq.now
  clear hq
  have z3 := x.size
  replace E := E.trans x
  replace LB2 := LB2.ext x
  replace RB2 := RB2.ext x
  clear x
  have TG4 : True := trivial
  go_wp2_with (clear TG4; have hRl := (RB2).lt (Nat.zero_lt_succ _); refine storesA (B := B2) rfl rfl rfl (v := (.agg #[c0, c1, c2, c3, c4, c5, c6, c7, c8])) rfl RB2 hf ?_; clear LB2; intro s4 G4 LB2 RQ; have z5 := G4.size; replace E := grown_ext E G4 (by omega); replace HO := HO.grown G4 (by first | omega | (dsimp only [New]; omega)); clear RB2; have RB2 := RQ; clear RQ hRl; clear RB2)
  refine bodyPost_ret (results_lay2 rfl rfl rfl (ldA LB2)) rfl ?_
  exact ⟨c0, c1, c2, c3, c4, c5, c6, c7, c8, rfl, hf, HO.mono (fun i hi h => by dsimp only [New] at *; omega), E⟩
theorem lOf_rd (pv : Value) (hF : Flat 3 pv) (P : Value → World → Prop) (w : World) (cv : ∀ w', Ext w w' → Calls Try.prog 96 #[pv, .int .i64 40] w' (OfR P w')) : Calls Try.prog 52 #[pv] w (OfO P w) := by
  have cq := fun w' (h : Ext w w') => vOf_rd pv hF P w' (fun w2 h2 => cv w2 (h.trans h2))
  clear cv
  have E := Ext.refl w
  go_enter Try.func52, Try.ntmps52
  have TB1 : True := trivial
  have TB2 : True := trivial
  go_wp2_with (first | (clear TB1; refine boxsP (v := pv) rfl rfl rfl hF ?_; intro B1 w1 bB1 cB1 XB1 LB1 RB1; have z1 := XB1.size; replace E := E.trans XB1; clear RB1) | (clear TB2; refine allocsA rfl rfl ?_; intro B2 w2 bB2 cB2 XB2 LB2 RB2; have z2 := XB2.size; replace E := E.trans XB2; replace LB1 := LB1.ext XB2) | (refine loadsP (B := B1) (by rfl) rfl rfl LB1 ?_))
  clear LB1
  refine (cq _ E).mono ?_
  rintro e w7 ⟨c0, c1, c2, c3, c4, c5, c6, c7, c8, rfl, hf, hq, x⟩
  have HO := hq.now
  clear hq
  have z3 := x.size
  replace E := E.trans x
  replace LB2 := LB2.ext x
  replace RB2 := RB2.ext x
  clear x
  have TB3 : True := trivial
  have TG5 : True := trivial
  have TG7 : True := trivial
  go_wp2_with (first | (clear TB3; refine allocsA rfl rfl ?_; intro B3 w3 bB3 cB3 XB3 LB3 RB3; have z4 := XB3.size; replace E := E.trans XB3; replace LB2 := LB2.ext XB3; replace RB2 := RB2.ext XB3; replace HO := HO.ext XB3) | (clear TG5; have hRl := (RB3).lt (Nat.zero_lt_succ _); refine storesA (B := B3) rfl rfl rfl (v := (.agg #[c0, c1, c2, c3, c4, c5, c6, c7, c8])) rfl RB3 hf ?_; clear LB3; intro s5 G5 LB3 RQ; have z6 := G5.size; replace E := grown_ext E G5 (by omega); replace LB2 := LB2.grown G5 (by omega); replace RB2 := RB2.grown G5 (by omega); replace HO := HO.grown G5 (by first | omega | (dsimp only [New]; omega)); clear RB3; have RB3 := RQ; clear RQ hRl; clear RB3) | (refine loadsA (B := B3) (by rfl) rfl rfl LB3 ?_) | (clear TG7; have hRl := (RB2).lt (Nat.zero_lt_succ _); refine storesA (B := B2) rfl rfl rfl (v := (.agg #[c0, c1, c2, c3, c4, c5, c6, c7, c8])) rfl RB2 hf ?_; clear LB2; intro s7 G7 LB2 RQ; have z8 := G7.size; replace E := grown_ext E G7 (by omega); replace HO := HO.grown G7 (by first | omega | (dsimp only [New]; omega)); replace LB3 := LB3.grown G7 (by omega); clear RB2; have RB2 := RQ; clear RQ hRl; clear RB2))
  refine bodyPost_ret (results_lay rfl rfl (ldA LB2)) rfl ?_
  exact ⟨c0, c1, c2, c3, c4, c5, c6, c7, c8, rfl, hf, HO.mono (fun i hi h => by dsimp only [New] at *; omega), E⟩
/-- the numbers of a plain array, the characters -/
def plN (p : Pl) : List Nat := dnL (p.its.map fun x => x.num)
def plC (p : Pl) : List Int := p.its.map fun x => x.chr
/-- what the elements of a plain array's array are -/
def OfP (p : Pl) (v : Value) (w : World) : Prop := (p.fill = 0 → IsNum w v (leastL (plN p)) (plN p)) ∧ (p.fill = 1 → IsVec w v (VD.chars (plC p))) ∧ (p.fill = 2 → ∃ cs, cs.length = p.its.length * 9 ∧ IsVec w v (VD.boxes cs))
theorem range_mapD {α β : Type} [Inhabited α] (l : List α) (f : α → β) : (List.range l.length).map (fun k => f (l.getD k default)) = l.map f := by
  apply List.ext_getElem (by simp)
  intro i h1 h2
  have hi : i < l.length := by simpa using h2
  simp [List.getD, hi]
theorem of_all : ∀ (n : Nat) (w0 w : World) (p : Pl) (dp : Int), GoodD n w0 p → Ext w0 w → (n : Int) ≤ dp → dp ≤ 40 → Calls Try.prog 96 #[p.val, .int .i64 dp] w (OfR (OfP p) w) := by
  intro n
  induction n with
  | zero => intro w0 w p dp h; exact h.elim
  | succ n ih =>
    intro w0 w p dp h hx0 hd1 hd2
    obtain ⟨hfl, h0, h2, hp1, hp2, hit⟩ := h
    have hm2 : p.its.length ≤ 1048576 := by rw [← hp2]; exact prV_le _
    have hsl : p.sh.length ≤ 1048576 := by
      refine Nat.not_lt.1 fun hlt => ?_
      have := (pr_long (s := p.sh) (by omega)).1
      rw [hp1] at this
      cases this
    have hI : Hid (∀ w2, Ext w w2 → ∀ k, k < p.its.length → ∃ a, p.iA = some a ∧ ItAt w2 (a.add (k * 4)) (p.its.getD k default)) := fun w2 h2 k hk => it_at rfl (hfl.itS.ext (hx0.trans h2)) hk
    have hS : Hid (Sl w 1 p.sA p.sh.length (i64s p.sh)) := hfl.shS.ext hx0
    have cp : ∀ w2, Ext w w2 → Calls Try.prog 99 #[.slice p.sA p.sh.length p.sc, .int .i64 1048576] w2 fun e w3 => e = .returned (.tuple #[.int .i64 (p.its.length : Int), .int .i64 0]) ∧ Ext w2 w3 := fun w2 h2 => by
      have := sprod_any p.sA p.sh p.sh.length rfl p.sc w2 (hfl.shS.ext (hx0.trans h2))
      rwa [hp1, hp2] at this
    have hone : ∀ u ∈ i64s p.sh, u.oneCell' = true := i64s_one p.sh
    have h3 : p.fill = 0 ∨ p.fill = 1 ∨ p.fill = 2 := by omega
    have hdp : (dp == 0) = false := by simp; omega
    unfold Pl.val
    rcases h3 with e | e | e
    · have hv := vof_0 p.sA p.sh.length p.sc p.iA p.its.length p.ic dp hdp w hm2 hsl (fun k => p.its.getD k default) (i64s p.sh) hI hS hone cp (fun k hk => by
        have hm := getD_memA hk
        obtain ⟨h1, h2, _⟩ := hit _ hm
        have h3 := (hfl.itW _ hm).num
        exact ⟨by rw [h1]; exact e, h2 e, by simpa [Lit.wf] using h3⟩)
      rw [range_mapD p.its (fun x => x.num)] at hv
      rw [e]
      refine hv.mono ?_
      rintro e2 w2 ⟨sB, sD, A1, n1, k1, bn, A3, n3, k3, A4, n4, k4, A5, n5, k5, A6, n6, k6, A7, n7, k7, rfl, hq, hx2⟩
      exact ⟨_, _, _, _, _, _, _, _, _, rfl, arr_flat _ _ _ _ _ _ _ _ _ _ _ _ _ _ _ _ _ _ _ _ _ _ _, hq.rd.imp fun w' h => ⟨fun _ => h, fun e' => by omega, fun e' => by omega⟩, hx2⟩
    · have hv := vof_1 p.sA p.sh.length p.sc p.iA p.its.length p.ic dp hdp w hm2 hsl (fun k => p.its.getD k default) (i64s p.sh) hI hS hone cp (fun k hk => by rw [(hit _ (getD_memA hk)).1]; exact e)
      rw [range_mapD p.its (fun x => x.chr)] at hv
      rw [e]
      refine hv.mono ?_
      rintro e2 w2 ⟨sB, sD, cA, cD, rfl, hq, hx2⟩
      exact ⟨_, _, _, _, _, _, _, _, _, rfl, arr_flat _ _ _ _ _ _ _ _ _ _ _ _ _ _ _ _ _ _ _ _ _ _ _, hq.rd.imp fun w' h => ⟨fun e' => by omega, fun _ => h, fun e' => by omega⟩, hx2⟩
    · have hQ : Hid (∀ k, k < p.its.length → (p.its.getD k default).bn = 1 ∧ ∃ b q, (p.its.getD k default).bA = some b ∧ ∀ w', Ext w w' → PlOf w' b q ∧ Calls Try.prog 96 #[q.val, .int .i64 (dp - 1)] w' (OfQ w')) := fun k hk => by
        obtain ⟨_, _, h3⟩ := hit _ (getD_memA hk)
        obtain ⟨b, q, e1, e2, e3, e4⟩ := h3 e
        refine ⟨e1, b, q, e2, fun w' hx => ⟨?_, ?_⟩⟩
        · rw [e2] at e3
          obtain ⟨b', eb', hP⟩ := pl_at rfl (e3.ext (hx0.trans hx)) (show 0 < 1 by omega)
          cases eb'
          exact hP
        · refine (ih w0 w' q (dp - 1) e4 (hx0.trans hx) (by omega) (by omega)).mono ?_
          rintro e5 w5 ⟨c0, c1, c2, c3, c4, c5, c6, c7, c8, rfl, hf, _, hx5⟩
          exact ⟨_, _, _, _, _, _, _, _, _, rfl, hf, hx5⟩
      have hv := vof_2 p.sA p.sh.length p.sc p.iA p.its.length p.ic dp (by omega) hd2 w hm2 hsl (fun k => p.its.getD k default) (i64s p.sh) hI hS hone cp hQ (fun k hk => by rw [(hit _ (getD_memA hk)).1]; exact e)
      rw [e]
      refine hv.mono ?_
      rintro e2 w2 ⟨sB, sD, A1, n1, k1, bn, A3, n3, k3, A4, n4, k4, A5, n5, k5, A6, n6, k6, A7, n7, k7, cs, rfl, hl, hq, hx2⟩
      exact ⟨_, _, _, _, _, _, _, _, _, rfl, arr_flat _ _ _ _ _ _ _ _ _ _ _ _ _ _ _ _ _ _ _ _ _ _ _, hq.rd.imp fun w' h => ⟨fun e' => by omega, fun e' => by omega, fun _ => ⟨cs, hl, h⟩⟩, hx2⟩
theorem lOf_all (w0 w : World) (p : Pl) (h : GoodD 40 w0 p) (hx0 : Ext w0 w) : Calls Try.prog 52 #[p.val] w (OfO (OfP p) w) :=
  lOf_rd p.val (pl_flat _ _ _ _ _ _ _) (OfP p) w fun w' hx => of_all 40 w0 w' p 40 h (hx0.trans hx) (by omega) (by omega)
end Go.Proofs.Ytdfhefnjoekgbaa
