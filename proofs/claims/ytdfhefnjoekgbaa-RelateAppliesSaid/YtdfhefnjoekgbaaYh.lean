/- value.of of characters. -/
import Derived.Test.YtdfhefnjoekgbaaYg
namespace Go.Proofs.Ytdfhefnjoekgbaa
open Go.ChangeShapes Go.WideShapes Go.RowKit Bv Fl
set_option maxHeartbeats 1000000
set_option maxRecDepth 100000
section
variable (sA : Option Addr) (ns sc : Nat) (iA : Option Addr) (m ic : Nat) (dp : Int) (hdp : (dp == 0) = false) (w : World) (hm2 : m ≤ 1048576) (hn2 : ns ≤ 1048576) (IT : Nat → It) (xs : List Value)
  (HI : Hid (∀ w', Ext w w' → ∀ k, k < m → ∃ a, iA = some a ∧ ItAt w' (a.add (k * 4)) (IT k)))
  (HSH : Hid (Sl w 1 sA ns xs)) (hone : ∀ u ∈ xs, u.oneCell' = true)
  (cp : ∀ w', Ext w w' → Calls Try.prog 99 #[.slice sA ns sc, .int .i64 1048576] w' fun e w2 => e = .returned (.tuple #[.int .i64 (m : Int), .int .i64 0]) ∧ Ext w' w2)
include hdp hm2 HI HSH hone cp hn2
theorem vof_1 (hkd : ∀ k, k < m → (IT k).kind = 1) : Calls Try.prog 96 #[(.agg #[.slice sA ns sc, .slice iA m ic, .int .i64 1]), .int .i64 dp] w (fun e w' => ∃ sB sD cA cD, e = .returned (.tuple #[(.agg #[.slice sB ns sD, .int .i64 5, .slice none 0 0, .int .i64 0, .slice none 0 0, .slice none 0 0, .slice none 0 0, .slice cA m cD, .slice none 0 0]), .int .i64 0]) ∧ VecS w' (.agg #[.int .i64 5, .slice none 0 0, .int .i64 0, .slice none 0 0, .slice none 0 0, .slice none 0 0, .slice cA m cD, .slice none 0 0]) (VD.chars ((List.range m).map fun k => (IT k).chr)) (New w.heap.size) ∧ Ext w w') := by
  have hF := pl_flat sA ns sc iA m ic 1
  have HKD := Lib.hid hkd
  have hrow : i32s ((List.range m).map fun k => (IT k).chr) = pre (fun k => .int .i32 (IT k).chr) m := by simp [i32s, pre]
  have cn : ∀ w', Calls Try.prog 24 #[.slice none 0 0] w' fun e w2 => ∃ v, e = .returned (.tuple #[v, .bool true]) ∧ Flat 8 v ∧ Ext w' w2 := fun w' => (numbers_yes none [] 0 rfl (fun _ h => by cases h) rfl 0 w' (by omega) (Sl.nil w' 1 none)).mono fun e w2 => by
    rintro ⟨v, rfl, hq, hx⟩
    exact ⟨v, rfl, hq.is.flat, hx⟩
  have cch := fun A c w' (hs : Sl w' 1 A m (pre (fun k => .int .i32 (IT k).chr) m)) => chars_s A ((List.range m).map fun k => (IT k).chr) m (by simp) c w' hm2 (hrow ▸ hs)
  have cclone := fun w' hs => clone_ints sA ns sc xs w' hs hone hn2
  clear hkd hrow
  generalize ((List.range m).map fun k => (IT k).chr) = X at *
  obtain ⟨FV, hFV⟩ : ∃ FV : Nat → Value, (fun k => .int .i32 (IT k).chr) = FV := ⟨_, rfl⟩
  rw [hFV] at cch
  have HFV : Hid (∀ k, FV k = .int .i32 (IT k).chr) := fun k => by rw [← hFV]
  clear hFV hone
  have E := Ext.refl w
  go_enter Try.func96, Try.ntmps96
  have TB2 : True := trivial
  have TB4 : True := trivial
  go_wp2_with (first | (clear TB2; refine boxsP (v := (.agg #[.slice sA ns sc, .slice iA m ic, .int .i64 1])) rfl rfl rfl hF ?_; intro B2 w2 bB2 cB2 XB2 LB2 RB2; have z1 := XB2.size; replace E := E.trans XB2; have cB2_0 := lay_cell LB2 (j := 0) rfl; have cB2_1 := lay_cell LB2 (j := 1) rfl; have cB2_2 := lay_cell LB2 (j := 2) rfl; clear LB2 RB2) | (clear TB4; refine allocsA rfl rfl ?_; intro B4 w4 bB4 cB4 XB4 LB4 RB4; have z2 := XB4.size; replace E := E.trans XB4; replace cB2_0 := cell_ext (XB4) cB2_0; replace cB2_1 := cell_ext (XB4) cB2_1; replace cB2_2 := cell_ext (XB4) cB2_2))
  refine (cp _ E).mono ?_
  rintro e w33 ⟨rfl, x⟩
  have z3 := x.size
  replace E := E.trans x
  replace cB2_0 := cell_ext (x) cB2_0
  replace cB2_1 := cell_ext (x) cB2_1
  replace cB2_2 := cell_ext (x) cB2_2
  replace LB4 := LB4.ext x
  replace RB4 := RB4.ext x
  clear x
  go_wp2_with fail
  obtain ⟨BS, hBS1, hBS2⟩ : ∃ BS, BS ≤ w33.heap.size ∧ w33.heap.size ≤ BS := ⟨_, Nat.le_refl _, Nat.le_refl _⟩
  go_loopw [8, 9, 49] (fun z o i wr => ∃ (k TP : Nat) (oA : Option Addr) (oc : Nat), z = .slice none 0 0 ∧ k ≤ m ∧ o = .slice oA k oc ∧ i = .int .i64 k ∧ Ext w wr ∧ w33.heap.size ≤ wr.heap.size ∧ (wr.cell? ⟨B2, 0, none⟩ = some (.slice sA ns sc) ∧ wr.cell? ⟨B2, 1, none⟩ = some (.slice iA m ic) ∧ wr.cell? ⟨B2, 2, none⟩ = some (.int .i64 1)) ∧ (Lay 9 wr B4 zeroArr ∧ Room 9 wr B4) ∧ RowB 21 1 wr BS TP (.slice oA k oc) k (pre FV k) ∧ TP ≤ wr.heap.size) (fun _ _ i _ => m - (intOf i).toNat)
  case atStart => exact ⟨0, 0, none, 0, rfl, Nat.zero_le _, rfl, rfl, E, Nat.le_refl _, ⟨cB2_0, cB2_1, cB2_2⟩, ⟨LB4, RB4⟩, RowB.nil, Nat.zero_le _⟩
  case round =>
    obtain ⟨k, TP, oA, oc, rfl, hk, rfl, rfl, E', zW, ⟨d0, d1, d2⟩, ⟨l4, r4⟩, HO, hTP⟩ := hrel
    clear E cB2_0 cB2_1 cB2_2 LB4 RB4
    have E := E'
    have cB2_0 := d0
    have cB2_1 := d1
    have cB2_2 := d2
    have LB4 := l4
    have RB4 := r4
    clear E' d0 d1 d2 l4 r4
    have z4 := E.size
    by_cases hlt : k < m
    · obtain ⟨a, ea, hI⟩ := HI.out _ E k hlt
      subst ea
      have D0 := hI.c0
      have D1 := hI.c1
      have D2 := hI.c2
      have D3 := hI.c3
      have hbb := World.block_lt_of_cell? _ _ D0
      clear hI
      have HFk := HFV.out k
      rw [HKD.out k hlt] at D0
      generalize hx : IT k = x at D0 D1 D2 D3 HFk
      clear hx
      obtain ⟨kd, nm, ch, bA, bn, bc⟩ := x
      simp only at D0 D1 D2 D3 HFk
      have HPS : Hid (pre FV k ++ [.int .i32 ch] = pre FV (k + 1)) := by show _ = _; rw [← HFk]; exact pre_step FV k
      clear HFk
      have TB12 : True := trivial
      have TG6 : True := trivial
      have TA74 : True := trivial
      go_wp2_with (first | (clear TB12; refine allocsI rfl rfl ?_; intro B12 w12 bB12 cB12 XB12 LB12 RB12; have z5 := XB12.size; replace E := E.trans XB12; replace cB2_0 := cell_ext (XB12) cB2_0; replace cB2_1 := cell_ext (XB12) cB2_1; replace cB2_2 := cell_ext (XB12) cB2_2; replace LB4 := LB4.ext XB12; replace RB4 := RB4.ext XB12; replace HO := HO.ext XB12; replace D1 := cell_ext (XB12) D1; replace D2 := cell_ext (XB12) D2; replace D3 := cell_ext (XB12) D3; have cB12_0 := lay_cell LB12 (j := 0) rfl; have cB12_1 := lay_cell LB12 (j := 1) rfl; have cB12_2 := lay_cell LB12 (j := 2) rfl; clear LB12) | (clear TG6; have hRl := (RB12).lt (Nat.zero_lt_succ _); refine storesI (B := B12) rfl rfl rfl (v := (.agg #[.int .i64 1, .float .f64 nm, .int .i32 ch, .slice bA bn bc])) rfl RB12 (it_flat 1 nm ch bA bn bc) ?_; clear cB12_0; clear cB12_1; clear cB12_2; intro s6 G6 LB12 RQ; have z7 := G6.size; replace E := grown_ext E G6 (by omega); replace cB2_0 := cell_grown (G6) cB2_0 (by show B2 ≠ _; omega); replace cB2_1 := cell_grown (G6) cB2_1 (by show B2 ≠ _; omega); replace cB2_2 := cell_grown (G6) cB2_2 (by show B2 ≠ _; omega); replace LB4 := LB4.grown G6 (by omega); replace RB4 := RB4.grown G6 (by omega); replace HO := HO.grown G6 (by omega); replace D1 := cell_grown (G6) D1 (by first | omega | (dsimp only; omega)); replace D2 := cell_grown (G6) D2 (by first | omega | (dsimp only; omega)); replace D3 := cell_grown (G6) D3 (by first | omega | (dsimp only; omega)); clear RB12; have RB12 := RQ; clear RQ hRl; have cB12_0 := lay_cell LB12 (j := 0) rfl; have cB12_1 := lay_cell LB12 (j := 1) rfl; have cB12_2 := lay_cell LB12 (j := 2) rfl; clear LB12 RB12) | (clear TA74; refine app_ch rfl rfl (base := BS) (k := k) rfl (HO.ext ((Ext.refl _).alloc _)) rfl (Sl.built _ #[.int .i32 ch] _) (by intro u hu; simp at hu; subst hu; rfl) (by omega) (by simp; omega) ?_; clear HO cB12_0 cB12_1 cB12_2 D1 D2 D3; intro v74 w74 HO H74; obtain ⟨A74, c74, e74, -, -⟩ := own_form HO.1; subst e74; have z8 : s6.heap.size ≤ w74.heap.size := Nat.le_trans ((Ext.refl s6).alloc _).size H74.size; replace E := (E.alloc _).trans' (H74.mono (by omega)); replace cB2_0 := cell_below H74 (cell_ext ((Ext.refl _).alloc _) cB2_0) (by show B2 < BS; omega); replace cB2_1 := cell_below H74 (cell_ext ((Ext.refl _).alloc _) cB2_1) (by show B2 < BS; omega); replace cB2_2 := cell_below H74 (cell_ext ((Ext.refl _).alloc _) cB2_2) (by show B2 < BS; omega); replace LB4 := (LB4.ext ((Ext.refl _).alloc _)).below H74 (by omega); replace RB4 := (RB4.ext ((Ext.refl _).alloc _)).below H74 (by omega); clear H74))
      exact ⟨⟨k + 1, _, _, _, by trivial, by omega, rfl, by go_num, E, by omega, ⟨cB2_0, cB2_1, cB2_2⟩, ⟨LB4, RB4⟩, by rw [← HPS.out]; exact HO, by omega⟩, by simp [intOf]; omega⟩
    · have hkm : k = m := by omega
      rw [hkm] at HO ⊢
      have SO := SlS.all HO.sl
      clear HO hkm
      go_wp2_with fail
      refine (cn _).mono ?_
      rintro e w103 ⟨v, rfl, Fv, x⟩
      have z9 := x.size
      replace E := E.trans x
      replace cB2_0 := cell_ext (x) cB2_0
      replace cB2_1 := cell_ext (x) cB2_1
      replace cB2_2 := cell_ext (x) cB2_2
      replace LB4 := LB4.ext x
      replace RB4 := RB4.ext x
      replace SO := SO.ext x
      clear x
      have TB15 : True := trivial
      have TG11 : True := trivial
      go_wp2_with (first | (clear TB15; refine allocsV rfl rfl ?_; intro B15 w15 bB15 cB15 XB15 LB15 RB15; have z10 := XB15.size; replace E := E.trans XB15; replace cB2_0 := cell_ext (XB15) cB2_0; replace cB2_1 := cell_ext (XB15) cB2_1; replace cB2_2 := cell_ext (XB15) cB2_2; replace LB4 := LB4.ext XB15; replace RB4 := RB4.ext XB15; replace SO := SO.ext XB15) | (clear TG11; have hRl := (RB15).lt (Nat.zero_lt_succ _); refine storesV (B := B15) rfl rfl rfl (v := v) rfl RB15 Fv ?_; clear LB15; intro s11 G11 LB15 RQ; have z12 := G11.size; replace E := grown_ext E G11 (by omega); replace cB2_0 := cell_grown (G11) cB2_0 (by show B2 ≠ _; omega); replace cB2_1 := cell_grown (G11) cB2_1 (by show B2 ≠ _; omega); replace cB2_2 := cell_grown (G11) cB2_2 (by show B2 ≠ _; omega); replace LB4 := LB4.grown G11 (by omega); replace RB4 := RB4.grown G11 (by omega); replace SO := SO.grown G11 (by first | omega | (dsimp only [New]; omega)); clear RB15; have RB15 := RQ; clear RQ hRl))
      refine (cch oA oc _ SO.is).mono ?_
      rintro e w111 ⟨cA, cD, rfl, hq, x⟩
      have NV := hq.now
      clear hq
      have z13 := x.size
      replace E := E.trans x
      replace cB2_0 := cell_ext (x) cB2_0
      replace cB2_1 := cell_ext (x) cB2_1
      replace cB2_2 := cell_ext (x) cB2_2
      replace LB4 := LB4.ext x
      replace RB4 := RB4.ext x
      replace SO := SO.ext x
      replace LB15 := LB15.ext x
      replace RB15 := RB15.ext x
      clear x
      have TG14 : True := trivial
      go_wp2_with (clear TG14; have hRl := (RB15).lt (Nat.zero_lt_succ _); refine storesV (B := B15) rfl rfl rfl (v := (.agg #[.int .i64 5, .slice none 0 0, .int .i64 0, .slice none 0 0, .slice none 0 0, .slice none 0 0, .slice cA m cD, .slice none 0 0])) rfl RB15 NV.is.flat ?_; clear LB15; intro s14 G14 LB15 RQ; have z15 := G14.size; replace E := grown_ext E G14 (by omega); replace cB2_0 := cell_grown (G14) cB2_0 (by show B2 ≠ _; omega); replace cB2_1 := cell_grown (G14) cB2_1 (by show B2 ≠ _; omega); replace cB2_2 := cell_grown (G14) cB2_2 (by show B2 ≠ _; omega); replace LB4 := LB4.grown G14 (by omega); replace RB4 := RB4.grown G14 (by omega); replace NV := NV.grown G14 (by first | omega | (dsimp only [New]; omega)); clear RB15; have RB15 := RQ; clear RQ hRl; clear RB15)
      try simp only [Act.put, List.setIfInBounds_toArray, List.set_cons_zero, List.set_cons_succ]
      have hq16 : s14.heap.size ≤ s14.drew.heap.size := Nat.le_refl _
      have z17 := (Ext.refl s14).drew.size
      replace E := E.trans (Ext.refl s14).drew
      replace cB2_0 := cell_ext ((Ext.refl s14).drew) cB2_0
      replace cB2_1 := cell_ext ((Ext.refl s14).drew) cB2_1
      replace cB2_2 := cell_ext ((Ext.refl s14).drew) cB2_2
      replace LB4 := LB4.ext (Ext.refl s14).drew
      replace RB4 := RB4.ext (Ext.refl s14).drew
      replace LB15 := LB15.ext (Ext.refl s14).drew
      replace NV := NV.ext (Ext.refl s14).drew
      refine wp_region_held_drew (S := (fun w' => Lay 8 w' B15 (.agg #[.int .i64 5, .slice none 0 0, .int .i64 0, .slice none 0 0, .slice none 0 0, .slice none 0 0, .slice cA m cD, .slice none 0 0]) ∧ w'.cell? ⟨B2, 0, none⟩ = some (.slice sA ns sc))) (by kernel_rfl) ⟨LB15, (cB2_0)⟩ (fun hHeld => ?_)
      refine wpAnyH_take (i := 0) (oi := { dst := some 119, op := Go.Op.fieldAddr 89 (Go.Operand.tmp 2) 0, type := 0, pos := "value.go:151", after := #[], guard := none }) (v := ?v18) rfl (by kernel_rfl) (by kernel_rfl) (by kernel_rfl) (fun _ _ _ h => h) (Or.inl ⟨by rfl, ?hy18⟩) hHeld ?rest18
      case hy18 => (intro w hSw; (try dsimp only at hSw); obtain ⟨hS0, hS1⟩ := hSw; go_simp; (first | done | with_reducible rfl))
      try simp only [Act.put, List.setIfInBounds_toArray, List.set_cons_zero, List.set_cons_succ]
      refine wpAnyH_take (i := 1) (oi := { dst := some 120, op := Go.Op.load 50 (Go.Operand.tmp 119), type := 50, pos := "value.go:151", after := #[{ on := 0, ground := Go.Ground.data }], guard := none }) (v := ?v19) rfl (by kernel_rfl) (by kernel_rfl) (by kernel_rfl) (fun _ _ _ h => h) (Or.inl ⟨by rfl, ?hy19⟩) hHeld ?rest19
      case hy19 => (intro w hSw; (try dsimp only at hSw); obtain ⟨hS0, hS1⟩ := hSw; go_simp; (first | done | with_reducible rfl))
      try simp only [Act.put, List.setIfInBounds_toArray, List.set_cons_zero, List.set_cons_succ]
      refine wpAnyH_take (i := 3) (oi := { dst := some 122, op := Go.Op.load 34 (Go.Operand.tmp 15), type := 34, pos := "value.go:151", after := #[], guard := none }) (v := (.agg #[.int .i64 5, .slice none 0 0, .int .i64 0, .slice none 0 0, .slice none 0 0, .slice none 0 0, .slice cA m cD, .slice none 0 0])) rfl (by kernel_rfl) (by kernel_rfl) (by kernel_rfl) (fun _ _ _ h => h) (yieldV (by rfl) rfl rfl fun w' hx => hx.1) hHeld ?_
      try simp only [Act.put, List.setIfInBounds_toArray, List.set_cons_zero, List.set_cons_succ]
      refine wpAnyH_ready (rs := [2]) (by kernel_rfl) (by simp) ?_
      refine AllReadyH.cons (o := { dst := some 121, op := Go.Op.call { callee := Go.Callee.value (Go.Operand.func 100), args := #[Go.Operand.tmp 120], argTypes := #[50] }, type := 50, pos := "value.go:151", after := #[{ on := 1, ground := Go.Ground.data }], guard := none }) rfl (fun K hK => ?_) (AllReadyH.nil)
      go_simp
      refine (cclone _ (HSH.out.ext E)).mono ?_
      rintro e w121 ⟨sB, sD, rfl, x⟩
      have z21 := x.size
      replace E := E.trans x
      replace cB2_0 := cell_ext (x) cB2_0
      replace cB2_1 := cell_ext (x) cB2_1
      replace cB2_2 := cell_ext (x) cB2_2
      replace LB4 := LB4.ext x
      replace RB4 := RB4.ext x
      replace LB15 := LB15.ext x
      replace NV := NV.ext x
      clear x
      clear hHeld
      have hHeld := And.intro LB15 ((cB2_0))
      refine hK.out _ _ hHeld (fun _ => ?_)
      clear hK K
      try simp only [Act.put, List.setIfInBounds_toArray, List.set_cons_zero, List.set_cons_succ]
      refine wpAnyH_take (i := 4) (oi := { dst := some 123, op := Go.Op.build 52 #[(0, Go.Operand.tmp 121), (1, Go.Operand.tmp 122)], type := 52, pos := "value.go:151", after := #[{ on := 2, ground := Go.Ground.data }, { on := 3, ground := Go.Ground.data }], guard := none }) (v := ?v22) rfl (by kernel_rfl) (by kernel_rfl) (by kernel_rfl) (fun _ _ _ h => h) (Or.inl ⟨by rfl, ?hy22⟩) hHeld ?rest22
      case hy22 => (intro w hSw; (try dsimp only at hSw); obtain ⟨hS0, hS1⟩ := hSw; go_simp; (first | done | with_reducible rfl))
      try simp only [Act.put, List.setIfInBounds_toArray, List.set_cons_zero, List.set_cons_succ]
      refine wpAnyH_ready (rs := [5]) (by kernel_rfl) (by simp) ?_
      refine AllReadyH.cons (o := { dst := none, op := Go.Op.store 52 (Go.Operand.tmp 4) (Go.Operand.tmp 123), type := 0, pos := "value.go:151", after := #[{ on := 4, ground := Go.Ground.data }, { on := 2, ground := Go.Ground.chain }, { on := 0, ground := Go.Ground.phase }, { on := 1, ground := Go.Ground.phase }, { on := 2, ground := Go.Ground.phase }, { on := 3, ground := Go.Ground.phase }, { on := 4, ground := Go.Ground.phase }], guard := none }) rfl (fun K hK => ?_) (AllReadyH.nil)
      rw [if_pos (by rfl)]
      have hRl := (RB4).lt (Nat.zero_lt_succ _)
      refine storeA (by rfl) (by rfl) (v := (.agg #[.slice sB ns sD, .int .i64 5, .slice none 0 0, .int .i64 0, .slice none 0 0, .slice none 0 0, .slice none 0 0, .slice cA m cD, .slice none 0 0])) (by rfl) RB4 (arr_flat _ _ _ _ _ _ _ _ _ _ _ _ _ _ _ _ _ _ _ _ _ _ _) ?_
      clear LB4
      intro s23 G23 LB4 RQ
      have z24 := G23.size
      replace E := grown_ext E G23 (by omega)
      replace cB2_0 := cell_grown (G23) cB2_0 (by show B2 ≠ _; omega)
      replace cB2_1 := cell_grown (G23) cB2_1 (by show B2 ≠ _; omega)
      replace cB2_2 := cell_grown (G23) cB2_2 (by show B2 ≠ _; omega)
      replace LB15 := LB15.grown G23 (by omega)
      replace NV := NV.grown G23 (by first | omega | (dsimp only [New]; omega))
      clear RB4
      have RB4 := RQ
      clear RQ hRl G23
      clear hHeld
      have hHeld := And.intro LB15 ((cB2_0))
      refine hK.out _ _ hHeld (fun _ => ?_)
      clear hK K
      try simp only [Act.put]
      refine wpAnyH_take (i := 6) (oi := { dst := some 5, op := Go.Op.assign (Go.Operand.const (Go.Value.int Go.IntKind.i64 0)), type := 59, pos := "value.go:151", after := #[{ on := 5, ground := Go.Ground.chain }, { on := 0, ground := Go.Ground.phase }, { on := 1, ground := Go.Ground.phase }, { on := 2, ground := Go.Ground.phase }, { on := 3, ground := Go.Ground.phase }, { on := 4, ground := Go.Ground.phase }, { on := 5, ground := Go.Ground.phase }], guard := none }) (v := ?v25) rfl (by kernel_rfl) (by kernel_rfl) (by kernel_rfl) (fun _ _ _ h => h) (Or.inl ⟨by rfl, ?hy25⟩) hHeld ?rest25
      case hy25 => (intro w hSw; (try dsimp only at hSw); obtain ⟨hS0, hS1⟩ := hSw; go_simp; (first | done | with_reducible rfl))
      try simp only [Act.put, List.setIfInBounds_toArray, List.set_cons_zero, List.set_cons_succ]
      refine wpAnyH_done (by kernel_rfl) ?_ _
      go_wp2_with fail
      refine bodyPost_ret (results_lay2 rfl rfl rfl (ldA LB4)) rfl ?_
      exact ⟨sB, sD, cA, cD, rfl, NV.mono (fun i hi h => by dsimp only [New] at *; omega), E⟩
end
end Go.Proofs.Ytdfhefnjoekgbaa
