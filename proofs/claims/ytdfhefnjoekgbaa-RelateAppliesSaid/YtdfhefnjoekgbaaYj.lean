/- value.of of boxes, and of all plain arrays. -/
import Derived.Test.YtdfhefnjoekgbaaYh
namespace Go.Proofs.Ytdfhefnjoekgbaa
open Go.ChangeShapes Go.WideShapes Go.RowKit Bv Fl
set_option maxHeartbeats 4000000
set_option maxRecDepth 100000
/-- what value.of makes of what lies in a box -/
def OfQ (w : World) (e : Ending) (w' : World) : Prop := ∃ r0 r1 r2 r3 r4 r5 r6 r7 r8 : Value, e = .returned (.tuple #[.agg #[r0, r1, r2, r3, r4, r5, r6, r7, r8], .int .i64 0]) ∧ Flat 9 (.agg #[r0, r1, r2, r3, r4, r5, r6, r7, r8]) ∧ Ext w w'
theorem flat9_one {r0 r1 r2 r3 r4 r5 r6 r7 r8 : Value} (h : Flat 9 (.agg #[r0, r1, r2, r3, r4, r5, r6, r7, r8])) : ∀ u ∈ [r0, r1, r2, r3, r4, r5, r6, r7, r8], u.oneCell' = true := by
  obtain ⟨cs, e, _, h1⟩ := h
  cases e
  have h2 := Array.all_eq_true'.1 h1
  exact fun u hu => h2 u (by simpa using hu)
section
variable (sA : Option Addr) (ns sc : Nat) (iA : Option Addr) (m ic : Nat) (dp : Int) (hd1 : 1 ≤ dp) (hd2 : dp ≤ 40) (w : World) (hm2 : m ≤ 1048576) (hn2 : ns ≤ 1048576) (IT : Nat → It) (xs : List Value)
  (HI : Hid (∀ w', Ext w w' → ∀ k, k < m → ∃ a, iA = some a ∧ ItAt w' (a.add (k * 4)) (IT k)))
  (HSH : Hid (Sl w 1 sA ns xs)) (hone : ∀ u ∈ xs, u.oneCell' = true)
  (cp : ∀ w', Ext w w' → Calls Try.prog 99 #[.slice sA ns sc, .int .i64 1048576] w' fun e w2 => e = .returned (.tuple #[.int .i64 (m : Int), .int .i64 0]) ∧ Ext w' w2)
  (HQ : Hid (∀ k, k < m → (IT k).bn = 1 ∧ ∃ b q, (IT k).bA = some b ∧ ∀ w', Ext w w' → PlOf w' b q ∧ Calls Try.prog 96 #[q.val, .int .i64 (dp - 1)] w' (OfQ w')))
include hd1 hd2 hm2 HI HSH hone cp hn2 HQ
theorem vof_2 (hkd : ∀ k, k < m → (IT k).kind = 2) : Calls Try.prog 96 #[(.agg #[.slice sA ns sc, .slice iA m ic, .int .i64 2]), .int .i64 dp] w (fun e w' => ∃ sB sD A1 n1 k1 bn A3 n3 k3 A4 n4 k4 A5 n5 k5 A6 n6 k6 A7 n7 k7 cs, e = .returned (.tuple #[(.agg #[.slice sB ns sD, .int .i64 ((VD.boxes cs).kind : Nat), .slice A1 n1 k1, .int .i64 bn, .slice A3 n3 k3, .slice A4 n4 k4, .slice A5 n5 k5, .slice A6 n6 k6, .slice A7 n7 k7]), .int .i64 0]) ∧ cs.length = m * 9 ∧ VecS w' (.agg #[.int .i64 ((VD.boxes cs).kind : Nat), .slice A1 n1 k1, .int .i64 bn, .slice A3 n3 k3, .slice A4 n4 k4, .slice A5 n5 k5, .slice A6 n6 k6, .slice A7 n7 k7]) (VD.boxes cs) (New w.heap.size) ∧ Ext w w') := by
  have hF := pl_flat sA ns sc iA m ic 2
  have hdp : (dp == 0) = false := by simp; omega
  have HKD := Lib.hid hkd
  have cn : ∀ w', Calls Try.prog 24 #[.slice none 0 0] w' fun e w2 => ∃ v, e = .returned (.tuple #[v, .bool true]) ∧ Flat 8 v ∧ Ext w' w2 := fun w' => (numbers_yes none [] 0 rfl (fun _ h => by cases h) rfl 0 w' (by omega) (Sl.nil w' 1 none)).mono fun e w2 => by
    rintro ⟨v, rfl, hq, hx⟩
    exact ⟨v, rfl, hq.is.flat, hx⟩
  have cbx := fun A cs c w' (h1 : ∀ u ∈ cs, u.oneCell' = true) (hs : Sl w' 9 A m cs) => boxes_s A cs m c h1 w' hm2 hs
  have cclone := fun w' hs => clone_ints sA ns sc xs w' hs hone hn2
  clear hkd hone
  have E := Ext.refl w
  go_enter Try.func96, Try.ntmps96
  have TB2 : True := trivial
  have TB4 : True := trivial
  go_wp2_with (first | (clear TB2; refine boxsP (v := (.agg #[.slice sA ns sc, .slice iA m ic, .int .i64 2])) rfl rfl rfl hF ?_; intro B2 w2 bB2 cB2 XB2 LB2 RB2; have z1 := XB2.size; replace E := E.trans XB2; have cB2_0 := lay_cell LB2 (j := 0) rfl; have cB2_1 := lay_cell LB2 (j := 1) rfl; have cB2_2 := lay_cell LB2 (j := 2) rfl; clear LB2 RB2) | (clear TB4; refine allocsA rfl rfl ?_; intro B4 w4 bB4 cB4 XB4 LB4 RB4; have z2 := XB4.size; replace E := E.trans XB4; replace cB2_0 := cell_ext (XB4) cB2_0; replace cB2_1 := cell_ext (XB4) cB2_1; replace cB2_2 := cell_ext (XB4) cB2_2))
  refine (cp _ E).mono ?_
  rintro e w33 ⟨rfl, x⟩
  have z3 := x.size
  replace E := E.trans x
  replace cB2_0 := cell_ext (x) cB2_0
  replace cB2_1 := cell_ext (x) cB2_1
  replace cB2_2 := cell_ext (x) cB2_2
  replace LB4 := LB4.ext x
  replace RB4 := RB4.ext x
  clear x
  go_wp2_with fail
  obtain ⟨BS, hBS1, hBS2⟩ : ∃ BS, BS ≤ w33.heap.size ∧ w33.heap.size ≤ BS := ⟨_, Nat.le_refl _, Nat.le_refl _⟩
  go_loopw [8, 10, 49] (fun z o i wr => ∃ (k TP : Nat) (oA : Option Addr) (oc : Nat) (cs : List Value), z = .slice none 0 0 ∧ k ≤ m ∧ o = .slice oA k oc ∧ i = .int .i64 k ∧ (cs.length = k * 9 ∧ ∀ u ∈ cs, u.oneCell' = true) ∧ Ext w wr ∧ w33.heap.size ≤ wr.heap.size ∧ (wr.cell? ⟨B2, 0, none⟩ = some (.slice sA ns sc) ∧ wr.cell? ⟨B2, 1, none⟩ = some (.slice iA m ic) ∧ wr.cell? ⟨B2, 2, none⟩ = some (.int .i64 2)) ∧ (Lay 9 wr B4 zeroArr ∧ Room 9 wr B4) ∧ RowB 52 9 wr BS TP (.slice oA k oc) k cs ∧ TP ≤ wr.heap.size) (fun _ _ i _ => m - (intOf i).toNat)
  case atStart => exact ⟨0, 0, none, 0, [], rfl, Nat.zero_le _, rfl, rfl, ⟨rfl, fun _ h => by cases h⟩, E, Nat.le_refl _, ⟨cB2_0, cB2_1, cB2_2⟩, ⟨LB4, RB4⟩, RowB.nil, Nat.zero_le _⟩
  case round =>
    obtain ⟨k, TP, oA, oc, cs, rfl, hk, rfl, rfl, hcs, E', zW, ⟨d0, d1, d2⟩, ⟨l4, r4⟩, HO, hTP⟩ := hrel
    clear E cB2_0 cB2_1 cB2_2 LB4 RB4
    have E := E'
    have cB2_0 := d0
    have cB2_1 := d1
    have cB2_2 := d2
    have LB4 := l4
    have RB4 := r4
    clear E' d0 d1 d2 l4 r4
    have HCS := Lib.hid hcs
    clear hcs
    have z4 := E.size
    by_cases hlt : k < m
    · obtain ⟨a, ea, hI⟩ := HI.out _ E k hlt
      subst ea
      have D0 := hI.c0
      have D1 := hI.c1
      have D2 := hI.c2
      have D3 := hI.c3
      have hbb := World.block_lt_of_cell? _ _ D0
      clear hI
      rw [HKD.out k hlt] at D0
      obtain ⟨hbn, b, q, hbA, hbq⟩ := HQ.out k hlt
      rw [hbn, hbA] at D3
      have hP := (hbq _ E).1
      have HCQ := Lib.hid (fun w' h => (hbq w' h).2)
      have D4 := hP.c0
      have D5 := hP.c1
      have D6 := hP.c2
      have hbq2 := World.block_lt_of_cell? _ _ D4
      clear hP hbq hbn hbA
      generalize IT k = x at D0 D1 D2 D3
      obtain ⟨kd, nm, ch, bA, bn, bc⟩ := x
      simp only at D0 D1 D2 D3
      unfold Pl.val at HCQ
      generalize q.sh.length = qn at *
      generalize q.its.length = qm at *
      obtain ⟨qA, qsh, qc, qI, qits, qd, qf⟩ := q
      simp only at D4 D5 D6 HCQ
      have TB12 : True := trivial
      have TG6 : True := trivial
      go_wp2_with (first | (clear TB12; refine allocsI rfl rfl ?_; intro B12 w12 bB12 cB12 XB12 LB12 RB12; have z5 := XB12.size; replace E := E.trans XB12; replace cB2_0 := cell_ext (XB12) cB2_0; replace cB2_1 := cell_ext (XB12) cB2_1; replace cB2_2 := cell_ext (XB12) cB2_2; replace LB4 := LB4.ext XB12; replace RB4 := RB4.ext XB12; replace HO := HO.ext XB12; replace D1 := cell_ext (XB12) D1; replace D2 := cell_ext (XB12) D2; replace D3 := cell_ext (XB12) D3; replace D4 := cell_ext (XB12) D4; replace D5 := cell_ext (XB12) D5; replace D6 := cell_ext (XB12) D6; have cB12_0 := lay_cell LB12 (j := 0) rfl; have cB12_1 := lay_cell LB12 (j := 1) rfl; have cB12_2 := lay_cell LB12 (j := 2) rfl; have cB12_3 := lay_cell LB12 (j := 3) rfl; clear LB12) | (clear TG6; have hRl := (RB12).lt (Nat.zero_lt_succ _); refine storesI (B := B12) rfl rfl rfl (v := (.agg #[.int .i64 2, .float .f64 nm, .int .i32 ch, .slice (some b) 1 bc])) rfl RB12 (it_flat 2 nm ch (some b) 1 bc) ?_; clear cB12_0; clear cB12_1; clear cB12_2; clear cB12_3; intro s6 G6 LB12 RQ; have z7 := G6.size; replace E := grown_ext E G6 (by omega); replace cB2_0 := cell_grown (G6) cB2_0 (by show B2 ≠ _; omega); replace cB2_1 := cell_grown (G6) cB2_1 (by show B2 ≠ _; omega); replace cB2_2 := cell_grown (G6) cB2_2 (by show B2 ≠ _; omega); replace LB4 := LB4.grown G6 (by omega); replace RB4 := RB4.grown G6 (by omega); replace HO := HO.grown G6 (by omega); replace D1 := cell_grown (G6) D1 (by first | omega | (dsimp only; omega)); replace D2 := cell_grown (G6) D2 (by first | omega | (dsimp only; omega)); replace D3 := cell_grown (G6) D3 (by first | omega | (dsimp only; omega)); replace D4 := cell_grown (G6) D4 (by first | omega | (dsimp only; omega)); replace D5 := cell_grown (G6) D5 (by first | omega | (dsimp only; omega)); replace D6 := cell_grown (G6) D6 (by first | omega | (dsimp only; omega)); clear RB12; have RB12 := RQ; clear RQ hRl; have cB12_0 := lay_cell LB12 (j := 0) rfl; have cB12_1 := lay_cell LB12 (j := 1) rfl; have cB12_2 := lay_cell LB12 (j := 2) rfl; have cB12_3 := lay_cell LB12 (j := 3) rfl; clear LB12 RB12))
      refine (HCQ.out _ E).mono ?_
      rintro e w89 ⟨r0, r1, r2, r3, r4, r5, r6, r7, r8, rfl, hr, x⟩
      have z8 := x.size
      replace E := E.trans x
      replace cB2_0 := cell_ext (x) cB2_0
      replace cB2_1 := cell_ext (x) cB2_1
      replace cB2_2 := cell_ext (x) cB2_2
      replace LB4 := LB4.ext x
      replace RB4 := RB4.ext x
      replace HO := HO.ext x
      replace D1 := cell_ext (x) D1
      replace D2 := cell_ext (x) D2
      replace D3 := cell_ext (x) D3
      replace D4 := cell_ext (x) D4
      replace D5 := cell_ext (x) D5
      replace D6 := cell_ext (x) D6
      replace cB12_0 := cell_ext (x) cB12_0
      replace cB12_1 := cell_ext (x) cB12_1
      replace cB12_2 := cell_ext (x) cB12_2
      replace cB12_3 := cell_ext (x) cB12_3
      clear x
      have TB13 : True := trivial
      have TG10 : True := trivial
      have TA99 : True := trivial
      go_wp2_with (first | (clear TB13; refine allocsA rfl rfl ?_; intro B13 w13 bB13 cB13 XB13 LB13 RB13; have z9 := XB13.size; replace E := E.trans XB13; replace cB2_0 := cell_ext (XB13) cB2_0; replace cB2_1 := cell_ext (XB13) cB2_1; replace cB2_2 := cell_ext (XB13) cB2_2; replace LB4 := LB4.ext XB13; replace RB4 := RB4.ext XB13; replace HO := HO.ext XB13; replace D1 := cell_ext (XB13) D1; replace D2 := cell_ext (XB13) D2; replace D3 := cell_ext (XB13) D3; replace D4 := cell_ext (XB13) D4; replace D5 := cell_ext (XB13) D5; replace D6 := cell_ext (XB13) D6; replace cB12_0 := cell_ext (XB13) cB12_0; replace cB12_1 := cell_ext (XB13) cB12_1; replace cB12_2 := cell_ext (XB13) cB12_2; replace cB12_3 := cell_ext (XB13) cB12_3) | (clear TG10; have hRl := (RB13).lt (Nat.zero_lt_succ _); refine storesA (B := B13) rfl rfl rfl (v := (.agg #[r0, r1, r2, r3, r4, r5, r6, r7, r8])) rfl RB13 hr ?_; clear LB13; intro s10 G10 LB13 RQ; have z11 := G10.size; replace E := grown_ext E G10 (by omega); replace cB2_0 := cell_grown (G10) cB2_0 (by show B2 ≠ _; omega); replace cB2_1 := cell_grown (G10) cB2_1 (by show B2 ≠ _; omega); replace cB2_2 := cell_grown (G10) cB2_2 (by show B2 ≠ _; omega); replace LB4 := LB4.grown G10 (by omega); replace RB4 := RB4.grown G10 (by omega); replace HO := HO.grown G10 (by omega); replace D1 := cell_grown (G10) D1 (by first | omega | (dsimp only; omega)); replace D2 := cell_grown (G10) D2 (by first | omega | (dsimp only; omega)); replace D3 := cell_grown (G10) D3 (by first | omega | (dsimp only; omega)); replace D4 := cell_grown (G10) D4 (by first | omega | (dsimp only; omega)); replace D5 := cell_grown (G10) D5 (by first | omega | (dsimp only; omega)); replace D6 := cell_grown (G10) D6 (by first | omega | (dsimp only; omega)); replace cB12_0 := cell_grown (G10) cB12_0 (by show B12 ≠ _; omega); replace cB12_1 := cell_grown (G10) cB12_1 (by show B12 ≠ _; omega); replace cB12_2 := cell_grown (G10) cB12_2 (by show B12 ≠ _; omega); replace cB12_3 := cell_grown (G10) cB12_3 (by show B12 ≠ _; omega); clear RB13; have RB13 := RQ; clear RQ hRl; clear RB13) | (refine loadsA (B := B13) (by rfl) rfl rfl LB13 ?_) | (clear TA99; refine app_Ar rfl rfl (base := BS) (k := k) rfl (HO.ext ((Ext.refl _).alloc _)) rfl (Sl.built _ #[r0, r1, r2, r3, r4, r5, r6, r7, r8] _) (by intro u hu; exact flat9_one hr u (by simpa using hu)) (by omega) (by simp; omega) ?_; clear HO cB12_0 cB12_1 cB12_2 cB12_3 LB13 D1 D2 D3 D4 D5 D6; intro v99 w99 HO H99; obtain ⟨A99, c99, e99, -, -⟩ := own_form HO.1; subst e99; have z12 : s10.heap.size ≤ w99.heap.size := Nat.le_trans ((Ext.refl s10).alloc _).size H99.size; replace E := (E.alloc _).trans' (H99.mono (by omega)); replace cB2_0 := cell_below H99 (cell_ext ((Ext.refl _).alloc _) cB2_0) (by show B2 < BS; omega); replace cB2_1 := cell_below H99 (cell_ext ((Ext.refl _).alloc _) cB2_1) (by show B2 < BS; omega); replace cB2_2 := cell_below H99 (cell_ext ((Ext.refl _).alloc _) cB2_2) (by show B2 < BS; omega); replace LB4 := (LB4.ext ((Ext.refl _).alloc _)).below H99 (by omega); replace RB4 := (RB4.ext ((Ext.refl _).alloc _)).below H99 (by omega); clear H99))
      exact ⟨⟨k + 1, _, _, _, _, by trivial, by omega, rfl, by go_num, ⟨by rw [List.length_append, HCS.out.1]; simp; omega, fun u hu => (List.mem_append.1 hu).elim (HCS.out.2 u) (flat9_one hr u)⟩, E, by omega, ⟨cB2_0, cB2_1, cB2_2⟩, ⟨LB4, RB4⟩, HO, by omega⟩, by simp [intOf]; omega⟩
    · have hkm : k = m := by omega
      subst hkm
      have SO := SlS.all HO.sl
      clear HO
      go_wp2_with fail
      refine (cn _).mono ?_
      rintro e w103 ⟨v, rfl, Fv, x⟩
      have z13 := x.size
      replace E := E.trans x
      replace cB2_0 := cell_ext (x) cB2_0
      replace cB2_1 := cell_ext (x) cB2_1
      replace cB2_2 := cell_ext (x) cB2_2
      replace LB4 := LB4.ext x
      replace RB4 := RB4.ext x
      replace SO := SO.ext x
      clear x
      have TB15 : True := trivial
      have TG15 : True := trivial
      go_wp2_with (first | (clear TB15; refine allocsV rfl rfl ?_; intro B15 w15 bB15 cB15 XB15 LB15 RB15; have z14 := XB15.size; replace E := E.trans XB15; replace cB2_0 := cell_ext (XB15) cB2_0; replace cB2_1 := cell_ext (XB15) cB2_1; replace cB2_2 := cell_ext (XB15) cB2_2; replace LB4 := LB4.ext XB15; replace RB4 := RB4.ext XB15; replace SO := SO.ext XB15) | (clear TG15; have hRl := (RB15).lt (Nat.zero_lt_succ _); refine storesV (B := B15) rfl rfl rfl (v := v) rfl RB15 Fv ?_; clear LB15; intro s15 G15 LB15 RQ; have z16 := G15.size; replace E := grown_ext E G15 (by omega); replace cB2_0 := cell_grown (G15) cB2_0 (by show B2 ≠ _; omega); replace cB2_1 := cell_grown (G15) cB2_1 (by show B2 ≠ _; omega); replace cB2_2 := cell_grown (G15) cB2_2 (by show B2 ≠ _; omega); replace LB4 := LB4.grown G15 (by omega); replace RB4 := RB4.grown G15 (by omega); replace SO := SO.grown G15 (by first | omega | (dsimp only [New]; omega)); clear RB15; have RB15 := RQ; clear RQ hRl))
      refine (cbx oA cs oc _ HCS.out.2 SO.is).mono ?_
      rintro e w115 ⟨v, rfl, hq, x⟩
      obtain ⟨A1, n1, k1, bn, A3, n3, k3, A4, n4, k4, A5, n5, k5, A6, n6, k6, A7, n7, k7, rfl⟩ := hq.is.shape
      have NP := hq.now
      clear hq
      have z17 := x.size
      replace E := E.trans x
      replace cB2_0 := cell_ext (x) cB2_0
      replace cB2_1 := cell_ext (x) cB2_1
      replace cB2_2 := cell_ext (x) cB2_2
      replace LB4 := LB4.ext x
      replace RB4 := RB4.ext x
      replace SO := SO.ext x
      replace LB15 := LB15.ext x
      replace RB15 := RB15.ext x
      clear x
      have TG18 : True := trivial
      go_wp2_with (clear TG18; have hRl := (RB15).lt (Nat.zero_lt_succ _); refine storesV (B := B15) rfl rfl rfl (v := (.agg #[.int .i64 ((VD.boxes cs).kind : Nat), .slice A1 n1 k1, .int .i64 bn, .slice A3 n3 k3, .slice A4 n4 k4, .slice A5 n5 k5, .slice A6 n6 k6, .slice A7 n7 k7])) rfl RB15 NP.is.flat ?_; clear LB15; intro s18 G18 LB15 RQ; have z19 := G18.size; replace E := grown_ext E G18 (by omega); replace cB2_0 := cell_grown (G18) cB2_0 (by show B2 ≠ _; omega); replace cB2_1 := cell_grown (G18) cB2_1 (by show B2 ≠ _; omega); replace cB2_2 := cell_grown (G18) cB2_2 (by show B2 ≠ _; omega); replace LB4 := LB4.grown G18 (by omega); replace RB4 := RB4.grown G18 (by omega); replace NP := NP.grown G18 (by first | omega | (dsimp only [New]; omega)); clear RB15; have RB15 := RQ; clear RQ hRl; clear RB15)
      try simp only [Act.put, List.setIfInBounds_toArray, List.set_cons_zero, List.set_cons_succ]
      have hq20 : s18.heap.size ≤ s18.drew.heap.size := Nat.le_refl _
      have z21 := (Ext.refl s18).drew.size
      replace E := E.trans (Ext.refl s18).drew
      replace cB2_0 := cell_ext ((Ext.refl s18).drew) cB2_0
      replace cB2_1 := cell_ext ((Ext.refl s18).drew) cB2_1
      replace cB2_2 := cell_ext ((Ext.refl s18).drew) cB2_2
      replace LB4 := LB4.ext (Ext.refl s18).drew
      replace RB4 := RB4.ext (Ext.refl s18).drew
      replace LB15 := LB15.ext (Ext.refl s18).drew
      replace NP := NP.ext (Ext.refl s18).drew
      refine wp_region_held_drew (S := (fun w' => Lay 8 w' B15 (.agg #[.int .i64 ((VD.boxes cs).kind : Nat), .slice A1 n1 k1, .int .i64 bn, .slice A3 n3 k3, .slice A4 n4 k4, .slice A5 n5 k5, .slice A6 n6 k6, .slice A7 n7 k7]) ∧ w'.cell? ⟨B2, 0, none⟩ = some (.slice sA ns sc))) (by kernel_rfl) ⟨LB15, (cB2_0)⟩ (fun hHeld => ?_)
      refine wpAnyH_take (i := 0) (oi := { dst := some 119, op := Go.Op.fieldAddr 89 (Go.Operand.tmp 2) 0, type := 0, pos := "value.go:151", after := #[], guard := none }) (v := ?v22) rfl (by kernel_rfl) (by kernel_rfl) (by kernel_rfl) (fun _ _ _ h => h) (Or.inl ⟨by rfl, ?hy22⟩) hHeld ?rest22
      case hy22 => (intro w hSw; (try dsimp only at hSw); obtain ⟨hS0, hS1⟩ := hSw; go_simp; (first | done | with_reducible rfl))
      try simp only [Act.put, List.setIfInBounds_toArray, List.set_cons_zero, List.set_cons_succ]
      refine wpAnyH_take (i := 1) (oi := { dst := some 120, op := Go.Op.load 50 (Go.Operand.tmp 119), type := 50, pos := "value.go:151", after := #[{ on := 0, ground := Go.Ground.data }], guard := none }) (v := ?v23) rfl (by kernel_rfl) (by kernel_rfl) (by kernel_rfl) (fun _ _ _ h => h) (Or.inl ⟨by rfl, ?hy23⟩) hHeld ?rest23
      case hy23 => (intro w hSw; (try dsimp only at hSw); obtain ⟨hS0, hS1⟩ := hSw; go_simp; (first | done | with_reducible rfl))
      try simp only [Act.put, List.setIfInBounds_toArray, List.set_cons_zero, List.set_cons_succ]
      refine wpAnyH_take (i := 3) (oi := { dst := some 122, op := Go.Op.load 34 (Go.Operand.tmp 15), type := 34, pos := "value.go:151", after := #[], guard := none }) (v := (.agg #[.int .i64 ((VD.boxes cs).kind : Nat), .slice A1 n1 k1, .int .i64 bn, .slice A3 n3 k3, .slice A4 n4 k4, .slice A5 n5 k5, .slice A6 n6 k6, .slice A7 n7 k7])) rfl (by kernel_rfl) (by kernel_rfl) (by kernel_rfl) (fun _ _ _ h => h) (yieldV (by rfl) rfl rfl fun w' hx => hx.1) hHeld ?_
      try simp only [Act.put, List.setIfInBounds_toArray, List.set_cons_zero, List.set_cons_succ]
      refine wpAnyH_ready (rs := [2]) (by kernel_rfl) (by simp) ?_
      refine AllReadyH.cons (o := { dst := some 121, op := Go.Op.call { callee := Go.Callee.value (Go.Operand.func 100), args := #[Go.Operand.tmp 120], argTypes := #[50] }, type := 50, pos := "value.go:151", after := #[{ on := 1, ground := Go.Ground.data }], guard := none }) rfl (fun K hK => ?_) (AllReadyH.nil)
      go_simp
      refine (cclone _ (HSH.out.ext E)).mono ?_
      rintro e w121 ⟨sB, sD, rfl, x⟩
      have z25 := x.size
      replace E := E.trans x
      replace cB2_0 := cell_ext (x) cB2_0
      replace cB2_1 := cell_ext (x) cB2_1
      replace cB2_2 := cell_ext (x) cB2_2
      replace LB4 := LB4.ext x
      replace RB4 := RB4.ext x
      replace LB15 := LB15.ext x
      replace NP := NP.ext x
      clear x
      clear hHeld
      have hHeld := And.intro LB15 ((cB2_0))
      refine hK.out _ _ hHeld (fun _ => ?_)
      clear hK K
      try simp only [Act.put, List.setIfInBounds_toArray, List.set_cons_zero, List.set_cons_succ]
      refine wpAnyH_take (i := 4) (oi := { dst := some 123, op := Go.Op.build 52 #[(0, Go.Operand.tmp 121), (1, Go.Operand.tmp 122)], type := 52, pos := "value.go:151", after := #[{ on := 2, ground := Go.Ground.data }, { on := 3, ground := Go.Ground.data }], guard := none }) (v := ?v26) rfl (by kernel_rfl) (by kernel_rfl) (by kernel_rfl) (fun _ _ _ h => h) (Or.inl ⟨by rfl, ?hy26⟩) hHeld ?rest26
      case hy26 => (intro w hSw; (try dsimp only at hSw); obtain ⟨hS0, hS1⟩ := hSw; go_simp; (first | done | with_reducible rfl))
      try simp only [Act.put, List.setIfInBounds_toArray, List.set_cons_zero, List.set_cons_succ]
      refine wpAnyH_ready (rs := [5]) (by kernel_rfl) (by simp) ?_
      refine AllReadyH.cons (o := { dst := none, op := Go.Op.store 52 (Go.Operand.tmp 4) (Go.Operand.tmp 123), type := 0, pos := "value.go:151", after := #[{ on := 4, ground := Go.Ground.data }, { on := 2, ground := Go.Ground.chain }, { on := 0, ground := Go.Ground.phase }, { on := 1, ground := Go.Ground.phase }, { on := 2, ground := Go.Ground.phase }, { on := 3, ground := Go.Ground.phase }, { on := 4, ground := Go.Ground.phase }], guard := none }) rfl (fun K hK => ?_) (AllReadyH.nil)
      rw [if_pos (by rfl)]
      have hRl := (RB4).lt (Nat.zero_lt_succ _)
      refine storeA (by rfl) (by rfl) (v := (.agg #[.slice sB ns sD, .int .i64 ((VD.boxes cs).kind : Nat), .slice A1 n1 k1, .int .i64 bn, .slice A3 n3 k3, .slice A4 n4 k4, .slice A5 n5 k5, .slice A6 n6 k6, .slice A7 n7 k7])) (by rfl) RB4 (arr_flat _ _ _ _ _ _ _ _ _ _ _ _ _ _ _ _ _ _ _ _ _ _ _) ?_
      clear LB4
      intro s27 G27 LB4 RQ
      have z28 := G27.size
      replace E := grown_ext E G27 (by omega)
      replace cB2_0 := cell_grown (G27) cB2_0 (by show B2 ≠ _; omega)
      replace cB2_1 := cell_grown (G27) cB2_1 (by show B2 ≠ _; omega)
      replace cB2_2 := cell_grown (G27) cB2_2 (by show B2 ≠ _; omega)
      replace LB15 := LB15.grown G27 (by omega)
      replace NP := NP.grown G27 (by first | omega | (dsimp only [New]; omega))
      clear RB4
      have RB4 := RQ
      clear RQ hRl G27
      clear hHeld
      have hHeld := And.intro LB15 ((cB2_0))
      refine hK.out _ _ hHeld (fun _ => ?_)
      clear hK K
      try simp only [Act.put]
      refine wpAnyH_take (i := 6) (oi := { dst := some 5, op := Go.Op.assign (Go.Operand.const (Go.Value.int Go.IntKind.i64 0)), type := 59, pos := "value.go:151", after := #[{ on := 5, ground := Go.Ground.chain }, { on := 0, ground := Go.Ground.phase }, { on := 1, ground := Go.Ground.phase }, { on := 2, ground := Go.Ground.phase }, { on := 3, ground := Go.Ground.phase }, { on := 4, ground := Go.Ground.phase }, { on := 5, ground := Go.Ground.phase }], guard := none }) (v := ?v29) rfl (by kernel_rfl) (by kernel_rfl) (by kernel_rfl) (fun _ _ _ h => h) (Or.inl ⟨by rfl, ?hy29⟩) hHeld ?rest29
      case hy29 => (intro w hSw; (try dsimp only at hSw); obtain ⟨hS0, hS1⟩ := hSw; go_simp; (first | done | with_reducible rfl))
      try simp only [Act.put, List.setIfInBounds_toArray, List.set_cons_zero, List.set_cons_succ]
      refine wpAnyH_done (by kernel_rfl) ?_ _
      go_wp2_with fail
      refine bodyPost_ret (results_lay2 rfl rfl rfl (ldA LB4)) rfl ?_
      exact ⟨sB, sD, A1, n1, k1, bn, A3, n3, k3, A4, n4, k4, A5, n5, k5, A6, n6, k6, A7, n7, k7, cs, rfl, HCS.out.1, NP.mono (fun i hi h => by dsimp only [New] at *; omega), E⟩
end
end Go.Proofs.Ytdfhefnjoekgbaa
