/- SqueezeLeast, for every input: the walk. -/
import Derived.Test.YtdfhefnjoekgbaaQm
import Derived.Test.YtdfhefnjoekgbaaVl
namespace Go.Proofs.Ytdfhefnjoekgbaa
open Go.ChangeShapes Go.WideShapes Go.RowKit Bv Fl
attribute [local go_sem ↓] Go.wp_at_zero Go.wp_at_succ

theorem same_yes (A A' : Option Addr) (l : List Nat) (n c c' : Nat) (hn : n = l.length) (w : World) (hl : n ≤ 1048576) (ht : ∀ x ∈ l, tidy x) (hs : Sl w 1 A n (f64s l)) (hs' : Sl w 1 A' n (f64s l)) : Calls Try.prog 20 #[.slice A n c, .slice A' n c'] w fun e w' => e = .returned (.bool true) ∧ Ext w w' := by
  refine (same_any A A' l l n n c c' hn hn w hl (fun x hx => ⟨(ht x hx).1.nn, (ht x hx).2.1⟩) (fun x hx => ⟨(ht x hx).1.nn, (ht x hx).2.1⟩) hs hs').mono ?_
  rintro e w' ⟨rfl, h⟩
  exact ⟨by simp, Ext.of_drewN h⟩
theorem rleast_ext (A : Option Addr) (l : List Nat) (n : Nat) (hn : n = l.length) (c : Nat) (w : World) (hl : n ≤ 1048576) (hs : Sl w 1 A n (f64s l)) : Calls Try.prog 22 #[.slice A n c] w fun e w' => e = .returned (.int .i64 (leastL l : Int)) ∧ Ext w w' := by
  refine (rleast_any A l n hn c w hl hs).mono ?_
  rintro e w' ⟨rfl, rfl⟩
  exact ⟨rfl, Ext.refl _⟩
theorem rtidyL_yes (A : Option Addr) (l : List Nat) (n : Nat) (hn : n = l.length) (c : Nat) (w : World) (hl : n ≤ 1048576) (hf : allF l = true) (hs : Sl w 1 A n (f64s l)) : Calls Try.prog 14 #[.slice A n c] w fun e w' => ∃ B cb, e = .returned (.tuple #[.slice B n cb, .bool true]) ∧ Sl w' 1 B n (f64s (dnL l)) ∧ Ext w w' := by
  refine (rtidyL_any A l n hn c w hl hs).mono ?_
  rintro e w' ⟨v, rfl, ho, hx⟩
  rw [hf] at ho ⊢
  have hh := ho rfl
  obtain ⟨B, cb, rfl, -, -⟩ := own_form hh
  exact ⟨B, cb, rfl, Sl.own hh, hx⟩
theorem rtidyL_no (A : Option Addr) (l : List Nat) (n : Nat) (hn : n = l.length) (c : Nat) (w : World) (hl : n ≤ 1048576) (hf : allF l = false) (hs : Sl w 1 A n (f64s l)) : Calls Try.prog 14 #[.slice A n c] w fun e w' => ∃ v, e = .returned (.tuple #[v, .bool false]) ∧ Ext w w' := by
  refine (rtidyL_any A l n hn c w hl hs).mono ?_
  rintro e w' ⟨v, rfl, ho, hx⟩
  rw [hf]
  exact ⟨v, rfl, hx⟩
theorem nnums_sl (v : Value) (k : Nat) (l : List Nat) (n : Nat) (hn : n = l.length) (w : World) (h : IsNum w v k l) : Calls Try.prog 21 #[v] w fun e w' => ∃ B cb, e = .returned (.slice B n cb) ∧ Sl w' 1 B n (f64s l) ∧ Ext w w' := by
  refine (nnums_any v k l w h).mono ?_
  rintro e w' ⟨v', rfl, ho, hx⟩
  obtain ⟨B, cb, rfl, -, -⟩ := own_form ho
  subst hn
  exact ⟨B, cb, rfl, Sl.own ho, hx⟩
theorem kind_zero (z : Value) (hz : zeroVec = z) (w : World) : Calls Try.prog 18 #[z] w fun e w' => e = .returned (.int .i64 0) ∧ Ext w w' := by
  subst hz
  exact vkind_any zeroVec VD.none w (IsVec.zero w)

set_option maxHeartbeats 4000000
set_option maxRecDepth 100000 in
theorem squeezeLeast_no (w : World) (A : Option Addr) (l : List Nat) (c : Nat) (hs : Sl w 1 A l.length (f64s l)) (h5 : l.length ≤ 500) (hf : allF l = false) :
    Calls Try.prog 4 #[.slice A l.length c] w fun e w' => e = .returned (.bool true) ∧ Ext w w' := by
  obtain ⟨n, hn⟩ : ∃ n, n = l.length := ⟨_, rfl⟩
  have ct := fun w hs => rtidyL_no A l n hn c w (by omega) hf hs
  have cf := fun w hs => floats_no A l n hn hf c w (by omega) hs
  have cn := fun w hs => numbers_no A l n hn hf c w (by omega) hs
  rw [← hn] at hs h5 ⊢
  clear hn hf
  obtain ⟨z, hz⟩ : ∃ z, zeroVec = z := ⟨_, rfl⟩
  have hF := zeroVec_flat
  have ck := fun w => kind_zero z hz w
  rw [hz] at cf cn hF
  have HZ := Lib.hid hz
  clear hz
  have E := Ext.refl w
  go_enter Try.func4, Try.ntmps4
  go_wp2_with fail
  refine (ct _ (hs.ext E)).mono ?_
  rintro e w1 ⟨t, rfl, x⟩
  have z1 := x.size
  replace E := E.trans x
  clear x
  go_wp2_with fail
  refine (cf _ (hs.ext E)).mono ?_
  rintro e w2 ⟨rfl, x⟩
  have z2 := x.size
  replace E := E.trans x
  clear x
  go_wp2_with (first | (refine allocsV rfl rfl ?_; intro B5 u5 bB5 cB5 x K5 R5; have z3 := x.size; replace E := E.trans x; clear x) | (have hRl := (R5).lt (Nat.zero_lt_succ _); refine storesV (B := B5) rfl rfl rfl (v := z) rfl R5 hF ?_; clear K5; intro t5 g K5 R9; have z4 := g.size; replace E := grown_ext E g (by omega); clear R5; have R5 := R9; clear R9 hRl; clear g))
  refine (cn _ (hs.ext E)).mono ?_
  rintro e w3 ⟨rfl, x⟩
  have z5 := x.size
  replace E := E.trans x
  replace K5 := K5.ext x
  replace R5 := R5.ext x
  clear x
  go_wp2_with (first | (refine allocsV rfl rfl ?_; intro B7 u7 bB7 cB7 x K7 R7; have z6 := x.size; replace E := E.trans x; replace K5 := K5.ext x; replace R5 := R5.ext x; clear x) | (have hRl := (R7).lt (Nat.zero_lt_succ _); refine storesV (B := B7) rfl rfl rfl (v := z) rfl R7 hF ?_; clear K7; intro t7 g K7 R9; have z7 := g.size; replace E := grown_ext E g (by omega); replace K5 := K5.grown g (by omega); replace R5 := R5.grown g (by omega); clear R7; have R7 := R9; clear R9 hRl; clear g) | (refine loadsV (B := B7) (by rfl) rfl rfl K7 ?_))
  refine (ck _).mono ?_
  rintro e w4 ⟨rfl, x⟩
  have z8 := x.size
  replace E := E.trans x
  replace K5 := K5.ext x
  replace R5 := R5.ext x
  replace K7 := K7.ext x
  replace R7 := R7.ext x
  clear x
  go_wp2_with fail
  refine (awake_any _).mono ?_
  rintro e w5 ⟨rfl, x⟩
  have z9 := x.size
  replace E := E.trans x
  replace K5 := K5.ext x
  replace R5 := R5.ext x
  replace K7 := K7.ext x
  replace R7 := R7.ext x
  clear x
  go_wp2
  go_ret
  exact ⟨rfl, E⟩

set_option maxRecDepth 100000 in
theorem squeezeLeast_yes (w : World) (A : Option Addr) (l : List Nat) (c : Nat) (hs : Sl w 1 A l.length (f64s l)) (hw : ∀ x ∈ l, x < 18446744073709551616) (h5 : l.length ≤ 500) (hf : allF l = true) :
    Calls Try.prog 4 #[.slice A l.length c] w fun e w' => e = .returned (.bool true) ∧ Ext w w' := by
  obtain ⟨n, hn⟩ : ∃ n, n = l.length := ⟨_, rfl⟩
  have hL : n = (dnL l).length := by rw [dnL_length]; exact hn
  have hT := dnL_tidy hw
  have ct := fun w hs => rtidyL_yes A l n hn c w (by omega) hf hs
  have cf := fun w hs => floats_yes A l n hn hw hf c w (by omega) hs
  have cn := fun w hs => numbers_yes A l n hn hw hf c w (by omega) hs
  rw [← hn] at hs h5 ⊢
  clear hn hf hw
  generalize dnL l = L at *
  have cq := fun v w h => squeeze_num v 4 L w h
  have cl := fun v w h => least_any v 4 L w h
  have crl := fun B cb w hs => rleast_ext B L n hL cb w (by omega) hs
  have cti := fun v K w h => tight_num v K L w h
  have cs := fun B B' cb cb' w hs hs' => same_yes B B' L n cb cb' hL w (by omega) hT hs hs'
  have cnu := fun v K w h => nnums_sl v K L n hL w h
  clear hL hT
  generalize leastL L = r at *
  obtain ⟨b4, hb4⟩ : ∃ b, ((r : Int) == 4) = b := ⟨_, rfl⟩
  have hb4' : ((4 : Int) == (r : Int)) = b4 := by rw [← hb4, Bool.eq_iff_iff]; simp; omega
  have E := Ext.refl w
  go_enter Try.func4, Try.ntmps4
  go_wp2_with fail
  refine (ct _ (hs.ext E)).mono ?_
  rintro e w1 ⟨T, tc, rfl, ST, x⟩
  have z1 := x.size
  replace E := E.trans x
  have E1 := Ext.refl w1
  clear x
  go_wp2_with fail
  refine (cf _ (hs.ext E)).mono ?_
  rintro e w2 ⟨v1, rfl, N1, x⟩
  have z2 := x.size
  replace E := E.trans x
  replace E1 := E1.trans x
  have F1 := N1.is.flat
  replace N1 := N1.now
  clear x
  go_wp2_with (first | (refine allocsV rfl rfl ?_; intro B5 u5 bB5 cB5 x K5 R5; have z3 := x.size; replace E := E.trans x; replace E1 := E1.trans x; replace N1 := N1.ext x; clear x) | (have hRl := (R5).lt (Nat.zero_lt_succ _); refine storesV (B := B5) rfl rfl rfl (v := v1) rfl R5 F1 ?_; clear K5; intro t5 g K5 R9; have z4 := g.size; replace E := grown_ext E g (by omega); replace E1 := grown_ext E1 g (by omega); replace N1 := N1.grown g (by dsimp only [New]; omega); clear R5; have R5 := R9; clear R9 hRl; clear g))
  refine (cn _ (hs.ext E)).mono ?_
  rintro e w3 ⟨v2, rfl, N2, x⟩
  have z5 := x.size
  replace E := E.trans x
  replace E1 := E1.trans x
  replace N1 := N1.ext x
  replace K5 := K5.ext x
  replace R5 := R5.ext x
  have F2 := N2.is.flat
  replace N2 := N2.now
  clear x
  go_wp2_with (first | (refine allocsV rfl rfl ?_; intro B7 u7 bB7 cB7 x K7 R7; have z6 := x.size; replace E := E.trans x; replace E1 := E1.trans x; replace N1 := N1.ext x; replace K5 := K5.ext x; replace R5 := R5.ext x; replace N2 := N2.ext x; clear x) | (have hRl := (R7).lt (Nat.zero_lt_succ _); refine storesV (B := B7) rfl rfl rfl (v := v2) rfl R7 F2 ?_; clear K7; intro t7 g K7 R9; have z7 := g.size; replace E := grown_ext E g (by omega); replace E1 := grown_ext E1 g (by omega); replace N1 := N1.grown g (by dsimp only [New]; omega); replace K5 := K5.grown g (by omega); replace R5 := R5.grown g (by omega); replace N2 := N2.grown g (by dsimp only [New]; omega); clear R7; have R7 := R9; clear R9 hRl; clear g) | (refine loadsV (B := B5) (by rfl) rfl rfl K5 ?_))
  have M1 := N1.is
  refine (cq v1 _ N1.is).mono ?_
  rintro e w4 ⟨v3, rfl, hq, x⟩
  have z8 := x.size
  replace E := E.trans x
  replace E1 := E1.trans x
  replace N1 := N1.ext x
  replace K5 := K5.ext x
  replace R5 := R5.ext x
  replace N2 := N2.ext x
  replace K7 := K7.ext x
  replace R7 := R7.ext x
  clear x
  have N3 := (hq _ (NumS.all M1)).now
  have F3 := N3.is.flat
  clear hq M1
  go_wp2_with (first | (refine allocsV rfl rfl ?_; intro B9 u9 bB9 cB9 x K9 R9; have z9 := x.size; replace E := E.trans x; replace E1 := E1.trans x; replace N1 := N1.ext x; replace K5 := K5.ext x; replace R5 := R5.ext x; replace N2 := N2.ext x; replace K7 := K7.ext x; replace R7 := R7.ext x; replace N3 := N3.ext x; clear x) | (have hRl := (R9).lt (Nat.zero_lt_succ _); refine storesV (B := B9) rfl rfl rfl (v := v3) rfl R9 F3 ?_; clear K9; intro W g K9 R9; have z10 := g.size; replace E := grown_ext E g (by omega); replace E1 := grown_ext E1 g (by omega); replace N1 := N1.grown g (by dsimp only [New]; omega); replace K5 := K5.grown g (by omega); replace R5 := R5.grown g (by omega); replace N2 := N2.grown g (by dsimp only [New]; omega); replace K7 := K7.grown g (by omega); replace R7 := R7.grown g (by omega); replace N3 := N3.grown g (by dsimp only [New]; omega); clear R9; have R9 := R9; clear R9 hRl; clear g))
  clear ct cf cn cq R5 R7 R9 F1 F2 F3
  refine wp_region_held_drew (S := (fun w' => Ext W w')) (by kernel_rfl) ((Ext.refl W).drew) (fun hHeld => ?_)
  have hz0 : W.heap.size ≤ W.drew.heap.size := Nat.le_refl _
  replace N1 := N1.ext (Ext.refl W).drew
  replace N2 := N2.ext (Ext.refl W).drew
  replace N3 := N3.ext (Ext.refl W).drew
  refine wpAnyH_take (i := 0) (oi := { dst := some 47, op := Go.Op.load 34 (Go.Operand.tmp 5), type := 34, pos := "law.go:36", after := #[], guard := none }) (v := v1) rfl (by kernel_rfl) (by kernel_rfl) (by kernel_rfl) (fun _ _ _ h => h) (yieldV (by rfl) rfl rfl fun w' hx => K5.ext hx) hHeld ?_
  try simp only [Act.put, List.setIfInBounds_toArray, List.set_cons_zero, List.set_cons_succ]
  refine wpAnyH_take (i := 2) (oi := { dst := some 49, op := Go.Op.move (Go.Operand.tmp 3), type := 22, pos := "law.go:36", after := #[], guard := none }) (v := ?v2) rfl (by kernel_rfl) (by kernel_rfl) (by kernel_rfl) (fun _ _ _ h => h) (Or.inl ⟨by rfl, ?hy2⟩) hHeld ?rest2
  case hy2 => (intro w hSw; (try dsimp only at hSw); go_simp; (first | done | with_reducible rfl))
  try simp only [Act.put, List.setIfInBounds_toArray, List.set_cons_zero, List.set_cons_succ]
  refine wpAnyH_ready (rs := [1]) (by kernel_rfl) (by simp) ?_
  refine AllReadyH.cons (o := { dst := some 48, op := Go.Op.call { callee := Go.Callee.value (Go.Operand.func 23), args := #[Go.Operand.tmp 47], argTypes := #[34] }, type := 3, pos := "law.go:36", after := #[{ on := 0, ground := Go.Ground.data }], guard := none }) rfl (fun K hK => ?_) (AllReadyH.nil)
  go_simp
  refine (cl _ _ N1.is).mono ?_
  rintro e w' ⟨rfl, hx⟩
  replace N1 := N1.ext hx
  replace N2 := N2.ext hx
  replace N3 := N3.ext hx
  have hz1 := hx.size
  replace hHeld := Ext.trans hHeld hx
  refine hK.out _ _ hHeld (fun _ => ?_)
  clear hK K hx
  try simp only [Act.put, List.setIfInBounds_toArray, List.set_cons_zero, List.set_cons_succ]
  refine wpAnyH_ready (rs := [3]) (by kernel_rfl) (by simp) ?_
  refine AllReadyH.cons (o := { dst := some 50, op := Go.Op.call { callee := Go.Callee.value (Go.Operand.func 22), args := #[Go.Operand.tmp 49], argTypes := #[22] }, type := 3, pos := "law.go:36", after := #[{ on := 2, ground := Go.Ground.data }, { on := 1, ground := Go.Ground.chain }], guard := none }) rfl (fun K hK => ?_) (AllReadyH.nil)
  go_simp
  refine (crl _ _ _ (ST.ext (E1.trans hHeld))).mono ?_
  rintro e w' ⟨rfl, hx⟩
  replace N1 := N1.ext hx
  replace N2 := N2.ext hx
  replace N3 := N3.ext hx
  have hz3 := hx.size
  replace hHeld := Ext.trans hHeld hx
  refine hK.out _ _ hHeld (fun _ => ?_)
  clear hK K hx
  try simp only [Act.put, List.setIfInBounds_toArray, List.set_cons_zero, List.set_cons_succ]
  refine wpAnyH_take (i := 4) (oi := { dst := some 51, op := Go.Op.binOp Go.BinOp.eql 3 (Go.Operand.tmp 48) (Go.Operand.tmp 50) 3, type := 4, pos := "law.go:36", after := #[{ on := 1, ground := Go.Ground.data }, { on := 3, ground := Go.Ground.data }], guard := none }) (v := ?v3) rfl (by kernel_rfl) (by kernel_rfl) (by kernel_rfl) (fun _ _ _ h => h) (Or.inl ⟨by rfl, ?hy3⟩) hHeld ?rest3
  case hy3 => (intro w hSw; (try dsimp only at hSw); go_simp; (first | done | with_reducible rfl))
  try simp only [Act.put, List.setIfInBounds_toArray, List.set_cons_zero, List.set_cons_succ]
  refine wpAnyH_take (i := 5) (oi := { dst := some 52, op := Go.Op.move (Go.Operand.tmp 51), type := 4, pos := "law.go:36", after := #[{ on := 4, ground := Go.Ground.data }, { on := 3, ground := Go.Ground.chain }], guard := none }) (v := ?v4) rfl (by kernel_rfl) (by kernel_rfl) (by kernel_rfl) (fun _ _ _ h => h) (Or.inl ⟨by rfl, ?hy4⟩) hHeld ?rest4
  case hy4 => (intro w hSw; (try dsimp only at hSw); go_simp; (first | done | with_reducible rfl))
  try simp only [Act.put, List.setIfInBounds_toArray, List.set_cons_zero, List.set_cons_succ]
  refine wpAnyH_take (i := 6) (oi := { dst := some 53, op := Go.Op.load 34 (Go.Operand.tmp 9), type := 34, pos := "law.go:36", after := #[{ on := 5, ground := Go.Ground.guard }], guard := some (5, true) }) (v := v3) rfl (by kernel_rfl) (by kernel_rfl) (by kernel_rfl) (fun _ _ _ h => h) (yieldV (by rfl) rfl rfl fun w' hx => K9.ext hx) hHeld ?_
  try simp only [Act.put, List.setIfInBounds_toArray, List.set_cons_zero, List.set_cons_succ]
  refine wpAnyH_take (i := 8) (oi := { dst := some 55, op := Go.Op.move (Go.Operand.tmp 3), type := 22, pos := "law.go:36", after := #[{ on := 5, ground := Go.Ground.guard }], guard := some (5, true) }) (v := ?v6) rfl (by kernel_rfl) (by kernel_rfl) (by kernel_rfl) (fun _ _ _ h => h) (Or.inl ⟨by rfl, ?hy6⟩) hHeld ?rest6
  case hy6 => (intro w hSw; (try dsimp only at hSw); go_simp; (first | done | with_reducible rfl))
  try simp only [Act.put, List.setIfInBounds_toArray, List.set_cons_zero, List.set_cons_succ]
  refine wpAnyH_ready (rs := [7]) (by kernel_rfl) (by simp) ?_
  refine AllReadyH.cons (o := { dst := some 54, op := Go.Op.call { callee := Go.Callee.value (Go.Operand.func 18), args := #[Go.Operand.tmp 53], argTypes := #[34] }, type := 3, pos := "law.go:36", after := #[{ on := 6, ground := Go.Ground.data }, { on := 5, ground := Go.Ground.chain }, { on := 5, ground := Go.Ground.guard }], guard := some (5, true) }) rfl (fun K hK => ?_) (AllReadyH.nil)
  go_simp
  refine (nkind_any _ r _ _ N3.is).mono ?_
  rintro e w' ⟨rfl, hx⟩
  replace N1 := N1.ext hx
  replace N2 := N2.ext hx
  replace N3 := N3.ext hx
  have hz7 := hx.size
  replace hHeld := Ext.trans hHeld hx
  refine hK.out _ _ hHeld (fun _ => ?_)
  clear hK K hx
  try simp only [Act.put, List.setIfInBounds_toArray, List.set_cons_zero, List.set_cons_succ]
  refine wpAnyH_ready (rs := [9]) (by kernel_rfl) (by simp) ?_
  refine AllReadyH.cons (o := { dst := some 56, op := Go.Op.call { callee := Go.Callee.value (Go.Operand.func 22), args := #[Go.Operand.tmp 55], argTypes := #[22] }, type := 3, pos := "law.go:36", after := #[{ on := 8, ground := Go.Ground.data }, { on := 7, ground := Go.Ground.chain }, { on := 5, ground := Go.Ground.guard }], guard := some (5, true) }) rfl (fun K hK => ?_) (AllReadyH.nil)
  go_simp
  refine (crl _ _ _ (ST.ext (E1.trans hHeld))).mono ?_
  rintro e w' ⟨rfl, hx⟩
  replace N1 := N1.ext hx
  replace N2 := N2.ext hx
  replace N3 := N3.ext hx
  have hz9 := hx.size
  replace hHeld := Ext.trans hHeld hx
  refine hK.out _ _ hHeld (fun _ => ?_)
  clear hK K hx
  try simp only [Act.put, List.setIfInBounds_toArray, List.set_cons_zero, List.set_cons_succ]
  refine wpAnyH_take (i := 10) (oi := { dst := some 57, op := Go.Op.binOp Go.BinOp.eql 3 (Go.Operand.tmp 54) (Go.Operand.tmp 56) 3, type := 4, pos := "law.go:36", after := #[{ on := 7, ground := Go.Ground.data }, { on := 9, ground := Go.Ground.data }, { on := 5, ground := Go.Ground.guard }], guard := some (5, true) }) (v := ?v7) rfl (by kernel_rfl) (by kernel_rfl) (by kernel_rfl) (fun _ _ _ h => h) (Or.inl ⟨by rfl, ?hy7⟩) hHeld ?rest7
  case hy7 => (intro w hSw; (try dsimp only at hSw); go_simp; (first | done | with_reducible rfl))
  try simp only [Act.put, List.setIfInBounds_toArray, List.set_cons_zero, List.set_cons_succ]
  refine wpAnyH_take (i := 11) (oi := { dst := some 58, op := Go.Op.pick (Go.Operand.tmp 52) (Go.Operand.tmp 57) (Go.Operand.const (Go.Value.bool false)), type := 4, pos := "law.go:36", after := #[{ on := 5, ground := Go.Ground.data }, { on := 10, ground := Go.Ground.data }], guard := none }) (v := ?v8) rfl (by kernel_rfl) (by kernel_rfl) (by kernel_rfl) (fun _ _ _ h => h) (Or.inl ⟨by rfl, ?hy8⟩) hHeld ?rest8
  case hy8 => (intro w hSw; (try dsimp only at hSw); go_simp; (first | done | with_reducible rfl))
  try simp only [Act.put, List.setIfInBounds_toArray, List.set_cons_zero, List.set_cons_succ]
  refine wpAnyH_take (i := 12) (oi := { dst := some 59, op := Go.Op.move (Go.Operand.tmp 58), type := 4, pos := "law.go:36", after := #[{ on := 11, ground := Go.Ground.data }, { on := 9, ground := Go.Ground.chain }], guard := none }) (v := ?v9) rfl (by kernel_rfl) (by kernel_rfl) (by kernel_rfl) (fun _ _ _ h => h) (Or.inl ⟨by rfl, ?hy9⟩) hHeld ?rest9
  case hy9 => (intro w hSw; (try dsimp only at hSw); go_simp; (first | done | with_reducible rfl))
  try simp only [Act.put, List.setIfInBounds_toArray, List.set_cons_zero, List.set_cons_succ]
  refine wpAnyH_take (i := 13) (oi := { dst := some 60, op := Go.Op.load 34 (Go.Operand.tmp 7), type := 34, pos := "law.go:36", after := #[{ on := 12, ground := Go.Ground.guard }], guard := some (12, true) }) (v := v2) rfl (by kernel_rfl) (by kernel_rfl) (by kernel_rfl) (fun _ _ _ h => h) (yieldV (by rfl) rfl rfl fun w' hx => K7.ext hx) hHeld ?_
  try simp only [Act.put, List.setIfInBounds_toArray, List.set_cons_zero, List.set_cons_succ]
  refine wpAnyH_take (i := 15) (oi := { dst := some 62, op := Go.Op.load 34 (Go.Operand.tmp 9), type := 34, pos := "law.go:36", after := #[{ on := 12, ground := Go.Ground.guard }], guard := some (12, true) }) (v := v3) rfl (by kernel_rfl) (by kernel_rfl) (by kernel_rfl) (fun _ _ _ h => h) (yieldV (by rfl) rfl rfl fun w' hx => K9.ext hx) hHeld ?_
  try simp only [Act.put, List.setIfInBounds_toArray, List.set_cons_zero, List.set_cons_succ]
  refine wpAnyH_ready (rs := [14]) (by kernel_rfl) (by simp) ?_
  refine AllReadyH.cons (o := { dst := some 61, op := Go.Op.call { callee := Go.Callee.value (Go.Operand.func 18), args := #[Go.Operand.tmp 60], argTypes := #[34] }, type := 3, pos := "law.go:36", after := #[{ on := 13, ground := Go.Ground.data }, { on := 12, ground := Go.Ground.chain }, { on := 12, ground := Go.Ground.guard }], guard := some (12, true) }) rfl (fun K hK => ?_) (AllReadyH.nil)
  go_simp
  refine (nkind_any _ r _ _ N2.is).mono ?_
  rintro e w' ⟨rfl, hx⟩
  replace N1 := N1.ext hx
  replace N2 := N2.ext hx
  replace N3 := N3.ext hx
  have hz14 := hx.size
  replace hHeld := Ext.trans hHeld hx
  refine hK.out _ _ hHeld (fun _ => ?_)
  clear hK K hx
  try simp only [Act.put, List.setIfInBounds_toArray, List.set_cons_zero, List.set_cons_succ]
  refine wpAnyH_ready (rs := [16]) (by kernel_rfl) (by simp) ?_
  refine AllReadyH.cons (o := { dst := some 63, op := Go.Op.call { callee := Go.Callee.value (Go.Operand.func 18), args := #[Go.Operand.tmp 62], argTypes := #[34] }, type := 3, pos := "law.go:36", after := #[{ on := 15, ground := Go.Ground.data }, { on := 14, ground := Go.Ground.chain }, { on := 12, ground := Go.Ground.guard }], guard := some (12, true) }) rfl (fun K hK => ?_) (AllReadyH.nil)
  go_simp
  refine (nkind_any _ r _ _ N3.is).mono ?_
  rintro e w' ⟨rfl, hx⟩
  replace N1 := N1.ext hx
  replace N2 := N2.ext hx
  replace N3 := N3.ext hx
  have hz16 := hx.size
  replace hHeld := Ext.trans hHeld hx
  refine hK.out _ _ hHeld (fun _ => ?_)
  clear hK K hx
  try simp only [Act.put, List.setIfInBounds_toArray, List.set_cons_zero, List.set_cons_succ]
  refine wpAnyH_take (i := 17) (oi := { dst := some 64, op := Go.Op.binOp Go.BinOp.eql 3 (Go.Operand.tmp 61) (Go.Operand.tmp 63) 3, type := 4, pos := "law.go:36", after := #[{ on := 14, ground := Go.Ground.data }, { on := 16, ground := Go.Ground.data }, { on := 12, ground := Go.Ground.guard }], guard := some (12, true) }) (v := ?v12) rfl (by kernel_rfl) (by kernel_rfl) (by kernel_rfl) (fun _ _ _ h => h) (Or.inl ⟨by rfl, ?hy12⟩) hHeld ?rest12
  case hy12 => (intro w hSw; (try dsimp only at hSw); go_simp; (first | done | with_reducible rfl))
  try simp only [Act.put, List.setIfInBounds_toArray, List.set_cons_zero, List.set_cons_succ]
  refine wpAnyH_take (i := 18) (oi := { dst := some 65, op := Go.Op.pick (Go.Operand.tmp 59) (Go.Operand.tmp 64) (Go.Operand.const (Go.Value.bool false)), type := 4, pos := "law.go:36", after := #[{ on := 12, ground := Go.Ground.data }, { on := 17, ground := Go.Ground.data }], guard := none }) (v := ?v13) rfl (by kernel_rfl) (by kernel_rfl) (by kernel_rfl) (fun _ _ _ h => h) (Or.inl ⟨by rfl, ?hy13⟩) hHeld ?rest13
  case hy13 => (intro w hSw; (try dsimp only at hSw); go_simp; (first | done | with_reducible rfl))
  try simp only [Act.put, List.setIfInBounds_toArray, List.set_cons_zero, List.set_cons_succ]
  refine wpAnyH_take (i := 19) (oi := { dst := some 66, op := Go.Op.move (Go.Operand.tmp 65), type := 4, pos := "law.go:36", after := #[{ on := 18, ground := Go.Ground.data }, { on := 16, ground := Go.Ground.chain }], guard := none }) (v := ?v14) rfl (by kernel_rfl) (by kernel_rfl) (by kernel_rfl) (fun _ _ _ h => h) (Or.inl ⟨by rfl, ?hy14⟩) hHeld ?rest14
  case hy14 => (intro w hSw; (try dsimp only at hSw); go_simp; (first | done | with_reducible rfl))
  try simp only [Act.put, List.setIfInBounds_toArray, List.set_cons_zero, List.set_cons_succ]
  refine wpAnyH_take (i := 20) (oi := { dst := some 67, op := Go.Op.load 34 (Go.Operand.tmp 9), type := 34, pos := "law.go:36", after := #[{ on := 19, ground := Go.Ground.guard }], guard := some (19, true) }) (v := v3) rfl (by kernel_rfl) (by kernel_rfl) (by kernel_rfl) (fun _ _ _ h => h) (yieldV (by rfl) rfl rfl fun w' hx => K9.ext hx) hHeld ?_
  try simp only [Act.put, List.setIfInBounds_toArray, List.set_cons_zero, List.set_cons_succ]
  refine wpAnyH_take (i := 22) (oi := { dst := some 69, op := Go.Op.move (Go.Operand.tmp 3), type := 22, pos := "law.go:36", after := #[{ on := 19, ground := Go.Ground.guard }], guard := some (19, true) }) (v := ?v16) rfl (by kernel_rfl) (by kernel_rfl) (by kernel_rfl) (fun _ _ _ h => h) (Or.inl ⟨by rfl, ?hy16⟩) hHeld ?rest16
  case hy16 => (intro w hSw; (try dsimp only at hSw); go_simp; (first | done | with_reducible rfl))
  try simp only [Act.put, List.setIfInBounds_toArray, List.set_cons_zero, List.set_cons_succ]
  refine wpAnyH_ready (rs := [21]) (by kernel_rfl) (by simp) ?_
  refine AllReadyH.cons (o := { dst := some 68, op := Go.Op.call { callee := Go.Callee.value (Go.Operand.func 21), args := #[Go.Operand.tmp 67], argTypes := #[34] }, type := 22, pos := "law.go:36", after := #[{ on := 20, ground := Go.Ground.data }, { on := 19, ground := Go.Ground.chain }, { on := 19, ground := Go.Ground.guard }], guard := some (19, true) }) rfl (fun K hK => ?_) (AllReadyH.nil)
  go_simp
  refine (cnu _ _ _ N3.is).mono ?_
  rintro e w' ⟨P3, cP3, rfl, SP3, hx⟩
  replace N1 := N1.ext hx
  replace N2 := N2.ext hx
  replace N3 := N3.ext hx
  have hz21 := hx.size
  replace hHeld := Ext.trans hHeld hx
  refine hK.out _ _ hHeld (fun _ => ?_)
  clear hK K hx
  try simp only [Act.put, List.setIfInBounds_toArray, List.set_cons_zero, List.set_cons_succ]
  refine wpAnyH_ready (rs := [23]) (by kernel_rfl) (by simp) ?_
  refine AllReadyH.cons (o := { dst := some 70, op := Go.Op.call { callee := Go.Callee.value (Go.Operand.func 20), args := #[Go.Operand.tmp 68, Go.Operand.tmp 69], argTypes := #[22, 22] }, type := 4, pos := "law.go:36", after := #[{ on := 21, ground := Go.Ground.data }, { on := 22, ground := Go.Ground.data }, { on := 21, ground := Go.Ground.chain }, { on := 19, ground := Go.Ground.guard }], guard := some (19, true) }) rfl (fun K hK => ?_) (AllReadyH.nil)
  go_simp
  refine (cs _ _ _ _ _ SP3 (ST.ext (E1.trans hHeld))).mono ?_
  rintro e w' ⟨rfl, hx⟩
  replace N1 := N1.ext hx
  replace N2 := N2.ext hx
  replace N3 := N3.ext hx
  replace SP3 := SP3.ext hx
  have hz23 := hx.size
  replace hHeld := Ext.trans hHeld hx
  refine hK.out _ _ hHeld (fun _ => ?_)
  clear hK K hx
  try simp only [Act.put, List.setIfInBounds_toArray, List.set_cons_zero, List.set_cons_succ]
  refine wpAnyH_take (i := 24) (oi := { dst := some 71, op := Go.Op.pick (Go.Operand.tmp 66) (Go.Operand.tmp 70) (Go.Operand.const (Go.Value.bool false)), type := 4, pos := "law.go:36", after := #[{ on := 19, ground := Go.Ground.data }, { on := 23, ground := Go.Ground.data }], guard := none }) (v := ?v17) rfl (by kernel_rfl) (by kernel_rfl) (by kernel_rfl) (fun _ _ _ h => h) (Or.inl ⟨by rfl, ?hy17⟩) hHeld ?rest17
  case hy17 => (intro w hSw; (try dsimp only at hSw); go_simp; (first | done | with_reducible rfl))
  try simp only [Act.put, List.setIfInBounds_toArray, List.set_cons_zero, List.set_cons_succ]
  refine wpAnyH_take (i := 25) (oi := { dst := some 72, op := Go.Op.move (Go.Operand.tmp 71), type := 4, pos := "law.go:36", after := #[{ on := 24, ground := Go.Ground.data }, { on := 23, ground := Go.Ground.chain }], guard := none }) (v := ?v18) rfl (by kernel_rfl) (by kernel_rfl) (by kernel_rfl) (fun _ _ _ h => h) (Or.inl ⟨by rfl, ?hy18⟩) hHeld ?rest18
  case hy18 => (intro w hSw; (try dsimp only at hSw); go_simp; (first | done | with_reducible rfl))
  try simp only [Act.put, List.setIfInBounds_toArray, List.set_cons_zero, List.set_cons_succ]
  refine wpAnyH_take (i := 26) (oi := { dst := some 73, op := Go.Op.load 34 (Go.Operand.tmp 7), type := 34, pos := "law.go:36", after := #[{ on := 25, ground := Go.Ground.guard }], guard := some (25, true) }) (v := v2) rfl (by kernel_rfl) (by kernel_rfl) (by kernel_rfl) (fun _ _ _ h => h) (yieldV (by rfl) rfl rfl fun w' hx => K7.ext hx) hHeld ?_
  try simp only [Act.put, List.setIfInBounds_toArray, List.set_cons_zero, List.set_cons_succ]
  refine wpAnyH_take (i := 28) (oi := { dst := some 75, op := Go.Op.move (Go.Operand.tmp 3), type := 22, pos := "law.go:36", after := #[{ on := 25, ground := Go.Ground.guard }], guard := some (25, true) }) (v := ?v20) rfl (by kernel_rfl) (by kernel_rfl) (by kernel_rfl) (fun _ _ _ h => h) (Or.inl ⟨by rfl, ?hy20⟩) hHeld ?rest20
  case hy20 => (intro w hSw; (try dsimp only at hSw); go_simp; (first | done | with_reducible rfl))
  try simp only [Act.put, List.setIfInBounds_toArray, List.set_cons_zero, List.set_cons_succ]
  refine wpAnyH_ready (rs := [27]) (by kernel_rfl) (by simp) ?_
  refine AllReadyH.cons (o := { dst := some 74, op := Go.Op.call { callee := Go.Callee.value (Go.Operand.func 21), args := #[Go.Operand.tmp 73], argTypes := #[34] }, type := 22, pos := "law.go:36", after := #[{ on := 26, ground := Go.Ground.data }, { on := 25, ground := Go.Ground.chain }, { on := 25, ground := Go.Ground.guard }], guard := some (25, true) }) rfl (fun K hK => ?_) (AllReadyH.nil)
  go_simp
  refine (cnu _ _ _ N2.is).mono ?_
  rintro e w' ⟨P2, cP2, rfl, SP2, hx⟩
  replace N1 := N1.ext hx
  replace N2 := N2.ext hx
  replace N3 := N3.ext hx
  replace SP3 := SP3.ext hx
  have hz27 := hx.size
  replace hHeld := Ext.trans hHeld hx
  refine hK.out _ _ hHeld (fun _ => ?_)
  clear hK K hx
  try simp only [Act.put, List.setIfInBounds_toArray, List.set_cons_zero, List.set_cons_succ]
  refine wpAnyH_ready (rs := [29]) (by kernel_rfl) (by simp) ?_
  refine AllReadyH.cons (o := { dst := some 76, op := Go.Op.call { callee := Go.Callee.value (Go.Operand.func 20), args := #[Go.Operand.tmp 74, Go.Operand.tmp 75], argTypes := #[22, 22] }, type := 4, pos := "law.go:36", after := #[{ on := 27, ground := Go.Ground.data }, { on := 28, ground := Go.Ground.data }, { on := 27, ground := Go.Ground.chain }, { on := 25, ground := Go.Ground.guard }], guard := some (25, true) }) rfl (fun K hK => ?_) (AllReadyH.nil)
  go_simp
  refine (cs _ _ _ _ _ SP2 (ST.ext (E1.trans hHeld))).mono ?_
  rintro e w' ⟨rfl, hx⟩
  replace N1 := N1.ext hx
  replace N2 := N2.ext hx
  replace N3 := N3.ext hx
  replace SP3 := SP3.ext hx
  replace SP2 := SP2.ext hx
  have hz29 := hx.size
  replace hHeld := Ext.trans hHeld hx
  refine hK.out _ _ hHeld (fun _ => ?_)
  clear hK K hx
  try simp only [Act.put, List.setIfInBounds_toArray, List.set_cons_zero, List.set_cons_succ]
  refine wpAnyH_take (i := 30) (oi := { dst := some 77, op := Go.Op.pick (Go.Operand.tmp 72) (Go.Operand.tmp 76) (Go.Operand.const (Go.Value.bool false)), type := 4, pos := "law.go:36", after := #[{ on := 25, ground := Go.Ground.data }, { on := 29, ground := Go.Ground.data }], guard := none }) (v := ?v21) rfl (by kernel_rfl) (by kernel_rfl) (by kernel_rfl) (fun _ _ _ h => h) (Or.inl ⟨by rfl, ?hy21⟩) hHeld ?rest21
  case hy21 => (intro w hSw; (try dsimp only at hSw); go_simp; (first | done | with_reducible rfl))
  try simp only [Act.put, List.setIfInBounds_toArray, List.set_cons_zero, List.set_cons_succ]
  refine wpAnyH_take (i := 31) (oi := { dst := some 78, op := Go.Op.move (Go.Operand.tmp 77), type := 4, pos := "law.go:36", after := #[{ on := 30, ground := Go.Ground.data }, { on := 29, ground := Go.Ground.chain }], guard := none }) (v := ?v22) rfl (by kernel_rfl) (by kernel_rfl) (by kernel_rfl) (fun _ _ _ h => h) (Or.inl ⟨by rfl, ?hy22⟩) hHeld ?rest22
  case hy22 => (intro w hSw; (try dsimp only at hSw); go_simp; (first | done | with_reducible rfl))
  try simp only [Act.put, List.setIfInBounds_toArray, List.set_cons_zero, List.set_cons_succ]
  refine wpAnyH_take (i := 32) (oi := { dst := some 79, op := Go.Op.load 34 (Go.Operand.tmp 9), type := 34, pos := "law.go:36", after := #[{ on := 31, ground := Go.Ground.guard }], guard := some (31, true) }) (v := v3) rfl (by kernel_rfl) (by kernel_rfl) (by kernel_rfl) (fun _ _ _ h => h) (yieldV (by rfl) rfl rfl fun w' hx => K9.ext hx) hHeld ?_
  try simp only [Act.put, List.setIfInBounds_toArray, List.set_cons_zero, List.set_cons_succ]
  refine wpAnyH_ready (rs := [33]) (by kernel_rfl) (by simp) ?_
  refine AllReadyH.cons (o := { dst := some 80, op := Go.Op.call { callee := Go.Callee.value (Go.Operand.func 25), args := #[Go.Operand.tmp 79], argTypes := #[34] }, type := 4, pos := "law.go:36", after := #[{ on := 32, ground := Go.Ground.data }, { on := 31, ground := Go.Ground.chain }, { on := 31, ground := Go.Ground.guard }], guard := some (31, true) }) rfl (fun K hK => ?_) (AllReadyH.nil)
  go_simp
  refine (cti _ _ _ N3.is).mono ?_
  rintro e w' ⟨rfl, hx⟩
  replace N1 := N1.ext hx
  replace N2 := N2.ext hx
  replace N3 := N3.ext hx
  replace SP3 := SP3.ext hx
  replace SP2 := SP2.ext hx
  have hz33 := hx.size
  replace hHeld := Ext.trans hHeld hx
  refine hK.out _ _ hHeld (fun _ => ?_)
  clear hK K hx
  try simp only [Act.put, List.setIfInBounds_toArray, List.set_cons_zero, List.set_cons_succ]
  refine wpAnyH_take (i := 34) (oi := { dst := some 81, op := Go.Op.pick (Go.Operand.tmp 78) (Go.Operand.tmp 80) (Go.Operand.const (Go.Value.bool false)), type := 4, pos := "law.go:36", after := #[{ on := 31, ground := Go.Ground.data }, { on := 33, ground := Go.Ground.data }], guard := none }) (v := ?v24) rfl (by kernel_rfl) (by kernel_rfl) (by kernel_rfl) (fun _ _ _ h => h) (Or.inl ⟨by rfl, ?hy24⟩) hHeld ?rest24
  case hy24 => (intro w hSw; (try dsimp only at hSw); go_simp; (first | done | with_reducible rfl))
  try simp only [Act.put, List.setIfInBounds_toArray, List.set_cons_zero, List.set_cons_succ]
  refine wpAnyH_take (i := 35) (oi := { dst := some 82, op := Go.Op.move (Go.Operand.tmp 81), type := 4, pos := "law.go:36", after := #[{ on := 34, ground := Go.Ground.data }, { on := 33, ground := Go.Ground.chain }], guard := none }) (v := ?v25) rfl (by kernel_rfl) (by kernel_rfl) (by kernel_rfl) (fun _ _ _ h => h) (Or.inl ⟨by rfl, ?hy25⟩) hHeld ?rest25
  case hy25 => (intro w hSw; (try dsimp only at hSw); go_simp; (first | done | with_reducible rfl))
  try simp only [Act.put, List.setIfInBounds_toArray, List.set_cons_zero, List.set_cons_succ]
  refine wpAnyH_take (i := 36) (oi := { dst := some 83, op := Go.Op.load 34 (Go.Operand.tmp 5), type := 34, pos := "law.go:36", after := #[{ on := 35, ground := Go.Ground.guard }], guard := some (35, true) }) (v := v1) rfl (by kernel_rfl) (by kernel_rfl) (by kernel_rfl) (fun _ _ _ h => h) (yieldV (by rfl) rfl rfl fun w' hx => K5.ext hx) hHeld ?_
  try simp only [Act.put, List.setIfInBounds_toArray, List.set_cons_zero, List.set_cons_succ]
  refine wpAnyH_take (i := 38) (oi := { dst := some 85, op := Go.Op.move (Go.Operand.tmp 3), type := 22, pos := "law.go:36", after := #[{ on := 35, ground := Go.Ground.guard }], guard := some (35, true) }) (v := ?v27) rfl (by kernel_rfl) (by kernel_rfl) (by kernel_rfl) (fun _ _ _ h => h) (Or.inl ⟨by rfl, ?hy27⟩) hHeld ?rest27
  case hy27 => (intro w hSw; (try dsimp only at hSw); go_simp; (first | done | with_reducible rfl))
  try simp only [Act.put, List.setIfInBounds_toArray, List.set_cons_zero, List.set_cons_succ]
  refine wpAnyH_ready (rs := [37]) (by kernel_rfl) (by simp) ?_
  refine AllReadyH.cons (o := { dst := some 84, op := Go.Op.call { callee := Go.Callee.value (Go.Operand.func 25), args := #[Go.Operand.tmp 83], argTypes := #[34] }, type := 4, pos := "law.go:36", after := #[{ on := 36, ground := Go.Ground.data }, { on := 35, ground := Go.Ground.chain }, { on := 35, ground := Go.Ground.guard }], guard := some (35, true) }) rfl (fun K hK => ?_) (AllReadyH.nil)
  go_simp
  refine (cti _ _ _ N1.is).mono ?_
  rintro e w' ⟨rfl, hx⟩
  replace N1 := N1.ext hx
  replace N2 := N2.ext hx
  replace N3 := N3.ext hx
  replace SP3 := SP3.ext hx
  replace SP2 := SP2.ext hx
  have hz37 := hx.size
  replace hHeld := Ext.trans hHeld hx
  refine hK.out _ _ hHeld (fun _ => ?_)
  clear hK K hx
  try simp only [Act.put, List.setIfInBounds_toArray, List.set_cons_zero, List.set_cons_succ]
  refine wpAnyH_ready (rs := [39]) (by kernel_rfl) (by simp) ?_
  refine AllReadyH.cons (o := { dst := some 86, op := Go.Op.call { callee := Go.Callee.value (Go.Operand.func 22), args := #[Go.Operand.tmp 85], argTypes := #[22] }, type := 3, pos := "law.go:36", after := #[{ on := 38, ground := Go.Ground.data }, { on := 37, ground := Go.Ground.chain }, { on := 35, ground := Go.Ground.guard }], guard := some (35, true) }) rfl (fun K hK => ?_) (AllReadyH.nil)
  go_simp
  refine (crl _ _ _ (ST.ext (E1.trans hHeld))).mono ?_
  rintro e w' ⟨rfl, hx⟩
  replace N1 := N1.ext hx
  replace N2 := N2.ext hx
  replace N3 := N3.ext hx
  replace SP3 := SP3.ext hx
  replace SP2 := SP2.ext hx
  have hz39 := hx.size
  replace hHeld := Ext.trans hHeld hx
  refine hK.out _ _ hHeld (fun _ => ?_)
  clear hK K hx
  try simp only [Act.put, List.setIfInBounds_toArray, List.set_cons_zero, List.set_cons_succ]
  refine wpAnyH_take (i := 40) (oi := { dst := some 87, op := Go.Op.binOp Go.BinOp.eql 3 (Go.Operand.tmp 86) (Go.Operand.const (Go.Value.int Go.IntKind.i64 4)) 3, type := 4, pos := "law.go:36", after := #[{ on := 39, ground := Go.Ground.data }, { on := 35, ground := Go.Ground.guard }], guard := some (35, true) }) (v := ?v28) rfl (by kernel_rfl) (by kernel_rfl) (by kernel_rfl) (fun _ _ _ h => h) (Or.inl ⟨by rfl, ?hy28⟩) hHeld ?rest28
  case hy28 => (intro w hSw; (try dsimp only at hSw); go_simp; (first | done | with_reducible rfl))
  try simp only [Act.put, List.setIfInBounds_toArray, List.set_cons_zero, List.set_cons_succ]
  refine wpAnyH_take (i := 41) (oi := { dst := some 88, op := Go.Op.binOp Go.BinOp.eql 4 (Go.Operand.tmp 84) (Go.Operand.tmp 87) 4, type := 4, pos := "law.go:36", after := #[{ on := 37, ground := Go.Ground.data }, { on := 40, ground := Go.Ground.data }, { on := 35, ground := Go.Ground.guard }], guard := some (35, true) }) (v := ?v29) rfl (by kernel_rfl) (by kernel_rfl) (by kernel_rfl) (fun _ _ _ h => h) (Or.inl ⟨by rfl, ?hy29⟩) hHeld ?rest29
  case hy29 => (intro w hSw; (try dsimp only at hSw); go_simp; (first | done | with_reducible rfl))
  try simp only [Act.put, List.setIfInBounds_toArray, List.set_cons_zero, List.set_cons_succ]
  refine wpAnyH_take (i := 42) (oi := { dst := some 89, op := Go.Op.pick (Go.Operand.tmp 82) (Go.Operand.tmp 88) (Go.Operand.const (Go.Value.bool false)), type := 4, pos := "law.go:36", after := #[{ on := 35, ground := Go.Ground.data }, { on := 41, ground := Go.Ground.data }], guard := none }) (v := ?v30) rfl (by kernel_rfl) (by kernel_rfl) (by kernel_rfl) (fun _ _ _ h => h) (Or.inl ⟨by rfl, ?hy30⟩) hHeld ?rest30
  case hy30 => (intro w hSw; (try dsimp only at hSw); go_simp; (first | done | with_reducible rfl))
  try simp only [Act.put, List.setIfInBounds_toArray, List.set_cons_zero, List.set_cons_succ]
  refine wpAnyH_take (i := 43) (oi := { dst := some 90, op := Go.Op.move (Go.Operand.tmp 89), type := 4, pos := "law.go:36", after := #[{ on := 42, ground := Go.Ground.data }, { on := 39, ground := Go.Ground.chain }], guard := none }) (v := ?v31) rfl (by kernel_rfl) (by kernel_rfl) (by kernel_rfl) (fun _ _ _ h => h) (Or.inl ⟨by rfl, ?hy31⟩) hHeld ?rest31
  case hy31 => (intro w hSw; (try dsimp only at hSw); go_simp; (first | done | with_reducible rfl))
  try simp only [Act.put, List.setIfInBounds_toArray, List.set_cons_zero, List.set_cons_succ]
  refine wpAnyH_ready (rs := [44]) (by kernel_rfl) (by simp) ?_
  refine AllReadyH.cons (o := { dst := some 91, op := Go.Op.call { callee := Go.Callee.value (Go.Operand.func 13), args := #[], argTypes := #[] }, type := 4, pos := "law.go:36", after := #[{ on := 43, ground := Go.Ground.chain }, { on := 43, ground := Go.Ground.guard }], guard := some (43, true) }) rfl (fun K hK => ?_) (AllReadyH.nil)
  go_simp
  refine (awake_any _).mono ?_
  rintro e w' ⟨rfl, hx⟩
  replace N1 := N1.ext hx
  replace N2 := N2.ext hx
  replace N3 := N3.ext hx
  replace SP3 := SP3.ext hx
  replace SP2 := SP2.ext hx
  have hz44 := hx.size
  replace hHeld := Ext.trans hHeld hx
  refine hK.out _ _ hHeld (fun _ => ?_)
  clear hK K hx
  try simp only [Act.put, List.setIfInBounds_toArray, List.set_cons_zero, List.set_cons_succ]
  refine wpAnyH_take (i := 45) (oi := { dst := some 92, op := Go.Op.pick (Go.Operand.tmp 90) (Go.Operand.tmp 91) (Go.Operand.const (Go.Value.bool false)), type := 4, pos := "law.go:36", after := #[{ on := 43, ground := Go.Ground.data }, { on := 44, ground := Go.Ground.data }], guard := none }) (v := ?v32) rfl (by kernel_rfl) (by kernel_rfl) (by kernel_rfl) (fun _ _ _ h => h) (Or.inl ⟨by rfl, ?hy32⟩) hHeld ?rest32
  case hy32 => (intro w hSw; (try dsimp only at hSw); go_simp; (first | done | with_reducible rfl))
  try simp only [Act.put, List.setIfInBounds_toArray, List.set_cons_zero, List.set_cons_succ]
  refine wpAnyH_take (i := 46) (oi := { dst := some 2, op := Go.Op.assign (Go.Operand.tmp 92), type := 4, pos := "law.go:36", after := #[{ on := 45, ground := Go.Ground.data }, { on := 44, ground := Go.Ground.chain }, { on := 0, ground := Go.Ground.phase }, { on := 1, ground := Go.Ground.phase }, { on := 2, ground := Go.Ground.phase }, { on := 3, ground := Go.Ground.phase }, { on := 4, ground := Go.Ground.phase }, { on := 5, ground := Go.Ground.phase }, { on := 6, ground := Go.Ground.phase }, { on := 7, ground := Go.Ground.phase }, { on := 8, ground := Go.Ground.phase }, { on := 9, ground := Go.Ground.phase }, { on := 10, ground := Go.Ground.phase }, { on := 11, ground := Go.Ground.phase }, { on := 12, ground := Go.Ground.phase }, { on := 13, ground := Go.Ground.phase }, { on := 14, ground := Go.Ground.phase }, { on := 15, ground := Go.Ground.phase }, { on := 16, ground := Go.Ground.phase }, { on := 17, ground := Go.Ground.phase }, { on := 18, ground := Go.Ground.phase }, { on := 19, ground := Go.Ground.phase }, { on := 20, ground := Go.Ground.phase }, { on := 21, ground := Go.Ground.phase }, { on := 22, ground := Go.Ground.phase }, { on := 23, ground := Go.Ground.phase }, { on := 24, ground := Go.Ground.phase }, { on := 25, ground := Go.Ground.phase }, { on := 26, ground := Go.Ground.phase }, { on := 27, ground := Go.Ground.phase }, { on := 28, ground := Go.Ground.phase }, { on := 29, ground := Go.Ground.phase }, { on := 30, ground := Go.Ground.phase }, { on := 31, ground := Go.Ground.phase }, { on := 32, ground := Go.Ground.phase }, { on := 33, ground := Go.Ground.phase }, { on := 34, ground := Go.Ground.phase }, { on := 35, ground := Go.Ground.phase }, { on := 36, ground := Go.Ground.phase }, { on := 37, ground := Go.Ground.phase }, { on := 38, ground := Go.Ground.phase }, { on := 39, ground := Go.Ground.phase }, { on := 40, ground := Go.Ground.phase }, { on := 41, ground := Go.Ground.phase }, { on := 42, ground := Go.Ground.phase }, { on := 43, ground := Go.Ground.phase }, { on := 44, ground := Go.Ground.phase }, { on := 45, ground := Go.Ground.phase }], guard := none }) (v := ?v33) rfl (by kernel_rfl) (by kernel_rfl) (by kernel_rfl) (fun _ _ _ h => h) (Or.inl ⟨by rfl, ?hy33⟩) hHeld ?rest33
  case hy33 => (intro w hSw; (try dsimp only at hSw); go_simp; (first | done | with_reducible rfl))
  try simp only [Act.put, List.setIfInBounds_toArray, List.set_cons_zero, List.set_cons_succ]
  refine wpAnyH_done (by kernel_rfl) ?_ _
  go_wp2
  go_ret
  exact ⟨rfl, E.trans hHeld⟩

theorem squeezeLeast_walk (w : World) (A : Option Addr) (l : List Nat) (c : Nat) (_ : l.length ≤ c) (_ : c ≤ maxLen) (hs : Sl w 1 A l.length (l.map fun x => .float .f64 x)) (hw : ∀ x ∈ l, (Lit.float .f64 x).wf = true) :
    Calls Try.prog 4 #[.slice A l.length c] w fun e w' => e = .returned (.bool true) ∧ Ext w w' := by
  by_cases h5 : l.length ≤ 500
  · cases hf : allF l
    · exact squeezeLeast_no w A l c hs h5 hf
    · exact squeezeLeast_yes w A l c hs (fun x hx => by have := hw x hx; simpa [Lit.wf] using this) h5 hf
  · have ct := awake_any w
    clear hs hw
    generalize l.length = m at *
    go_enter Try.func4, Try.ntmps4
    go_wp2_with fail
    refine ct.mono ?_
    rintro e w1 ⟨rfl, hx⟩
    go_wp2
    go_ret
    exact ⟨rfl, hx⟩
end Go.Proofs.Ytdfhefnjoekgbaa
