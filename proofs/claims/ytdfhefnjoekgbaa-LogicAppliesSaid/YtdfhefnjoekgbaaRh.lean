/- LogicOne, LogicApplies. -/
import Derived.Test.YtdfhefnjoekgbaaRg
import Derived.Test.YtdfhefnjoekgbaaQp
namespace Go.Proofs.Ytdfhefnjoekgbaa
open Go.ChangeShapes Go.WideShapes Go.RowKit Bv Fl
set_option maxHeartbeats 2000000
set_option maxRecDepth 100000
theorem logicOne_walk (w : World) (f : Int) (_ : (Lit.int .i64 f).wf = true) (a : Bool) (_ : True) (b : Bool) (_ : True) : Calls Try.prog 9 #[.int .i64 f, .bool a, .bool b] w fun e w' => e = .returned (.bool true) ∧ Ext w w' := by
  have co : ∀ w, Calls Try.prog 43 #[.int .i64 f, .bool a, .bool b] w fun e w' => e = .returned (.tuple #[.bool (oneL f a b), .int .i64 (if okL f then 0 else 1)]) ∧ Ext w w' := fun w => (lone_any f a b w).mono fun e w2 h => ⟨h.1, h.2 ▸ Ext.refl _⟩
  have cr : ∀ w, Calls Try.prog 44 #[.int .i64 f, .bool a, .bool b] w fun e w' => e = .returned (.tuple #[.bool (oneL f a b), .int .i64 (if okL f then 0 else 1)]) ∧ Ext w w' := fun w => (rone_any f a b w).mono fun e w2 h => ⟨h.1, h.2 ▸ Ext.refl _⟩
  generalize oneL f a b = o at *
  generalize (if okL f then (0 : Int) else 1) = k at *
  have E := Ext.refl w
  go_enter Try.func9, Try.ntmps9
  go_wp2_with fail
  refine (co _).mono ?_
  rintro e w15 ⟨rfl, x⟩
  have z1 := x.size
  replace E := E.trans x
  clear x
  go_wp2_with fail
  refine (cr _).mono ?_
  rintro e w22 ⟨rfl, x⟩
  have z2 := x.size
  replace E := E.trans x
  clear x
  go_wp2_with fail
  refine (lawake_any _).mono ?_
  rintro e w34 ⟨rfl, x⟩
  have z3 := x.size
  replace E := E.trans x
  clear x
  go_wp2_with fail
  go_ret
  exact ⟨rfl, E⟩
section
variable (w : World) (f : Int) (A : Option Addr) (a : List Nat) (n : Nat) (c : Nat) (B : Option Addr) (b : List Nat) (m : Nat) (c' : Nat) (j k : Int)
theorem logicApplies_long1 (h : 300 < n) : Calls Try.prog 7 #[.int .i64 f, .slice A n c, .slice B m c', .int .i64 j, .int .i64 k] w fun e w' => e = .returned (.bool true) ∧ Ext w w' := by
  have E := Ext.refl w
  go_enter Try.func7, Try.ntmps7
  go_wp2_with fail
  refine (lawake_any _).mono ?_
  rintro e w37 ⟨rfl, x⟩
  have z1 := x.size
  replace E := E.trans x
  clear x
  go_wp2_with fail
  go_ret
  exact ⟨rfl, E⟩
theorem logicApplies_long2 (h : n ≤ 300) (h2 : 300 < m) : Calls Try.prog 7 #[.int .i64 f, .slice A n c, .slice B m c', .int .i64 j, .int .i64 k] w fun e w' => e = .returned (.bool true) ∧ Ext w w' := by
  have E := Ext.refl w
  go_enter Try.func7, Try.ntmps7
  go_wp2_with fail
  refine (lawake_any _).mono ?_
  rintro e w37 ⟨rfl, x⟩
  have z1 := x.size
  replace E := E.trans x
  clear x
  go_wp2_with fail
  go_ret
  exact ⟨rfl, E⟩
theorem logicApplies_no1 (hn : n = a.length) (hm : m = b.length) (_ : ∀ x ∈ a, x < 18446744073709551616) (hwb : ∀ x ∈ b, x < 18446744073709551616) (h3 : n ≤ 300) (h4 : m ≤ 300) (hs : Sl w 1 A n (f64s a)) (hs' : Sl w 1 B m (f64s b)) (hfa : allF a = false) : Calls Try.prog 7 #[.int .i64 f, .slice A n c, .slice B m c', .int .i64 j, .int .i64 k] w fun e w' => e = .returned (.bool true) ∧ Ext w w' := by
  have E := Ext.refl w
  have cka := fun w hs => kept_no A a n hn c w (by omega) j hfa hs
  have ckb : ∀ w, Sl w 1 B m (f64s b) → Calls Try.prog 33 #[.slice B m c', .int .i64 k] w fun e w' => ∃ v t, e = .returned (.tuple #[v, .bool t]) ∧ Flat 8 v ∧ Ext w w' := fun w hs => by
    cases hfb : allF b
    · refine (kept_no B b m hm c' w (by omega) k hfb hs).mono ?_
      rintro e w' ⟨v, rfl, hF, hx⟩
      exact ⟨v, _, rfl, hF, hx⟩
    · refine (kept_yes B b m hm c' w (by omega) k hwb hfb hs).mono ?_
      rintro e w' ⟨v, _, rfl, hF, hx⟩
      exact ⟨v, _, rfl, hF.is.flat, hx⟩
  have HS := Lib.hid hs
  have HS' := Lib.hid hs'
  clear hs hs' hn hm hwb hfa
  go_enter Try.func7, Try.ntmps7
  go_wp2_with fail
  refine (cka _ (HS.out.ext E)).mono ?_
  rintro e w41 ⟨v, rfl, Fv, x⟩
  have z1 := x.size
  replace E := E.trans x
  clear x
  have TB11 : True := trivial
  have TG3 : True := trivial
  go_wp2_with (first | (clear TB11; refine allocsV rfl rfl ?_; intro B11 w11 bB11 cB11 XB11 LB11 RB11; have z2 := XB11.size; replace E := E.trans XB11; clear LB11) | (clear TG3; have hRl := (RB11).lt (Nat.zero_lt_succ _); refine storesV (B := B11) rfl rfl rfl (v := v) rfl RB11 Fv ?_; intro s3 G3 LB11 RQ; have z4 := G3.size; replace E := grown_ext E G3 (by omega); clear RB11; have RB11 := RQ; clear RQ hRl; clear LB11 RB11))
  refine (ckb _ (HS'.out.ext E)).mono ?_
  rintro e w47 ⟨u, t, rfl, Fu, x⟩
  have z5 := x.size
  replace E := E.trans x
  clear x
  have TB13 : True := trivial
  have TG7 : True := trivial
  go_wp2_with (first | (clear TB13; refine allocsV rfl rfl ?_; intro B13 w13 bB13 cB13 XB13 LB13 RB13; have z6 := XB13.size; replace E := E.trans XB13; clear LB13) | (clear TG7; have hRl := (RB13).lt (Nat.zero_lt_succ _); refine storesV (B := B13) rfl rfl rfl (v := u) rfl RB13 Fu ?_; intro s7 G7 LB13 RQ; have z8 := G7.size; replace E := grown_ext E G7 (by omega); clear RB13; have RB13 := RQ; clear RQ hRl; clear LB13 RB13))
  refine (lawake_any _).mono ?_
  rintro e w56 ⟨rfl, x⟩
  have z9 := x.size
  replace E := E.trans x
  clear x
  go_wp2_with fail
  go_ret
  exact ⟨rfl, E⟩
theorem logicApplies_no2 (hn : n = a.length) (hm : m = b.length) (hwa : ∀ x ∈ a, x < 18446744073709551616) (_ : ∀ x ∈ b, x < 18446744073709551616) (h3 : n ≤ 300) (h4 : m ≤ 300) (hs : Sl w 1 A n (f64s a)) (hs' : Sl w 1 B m (f64s b)) (hfa : allF a = true) (hfb : allF b = false) : Calls Try.prog 7 #[.int .i64 f, .slice A n c, .slice B m c', .int .i64 j, .int .i64 k] w fun e w' => e = .returned (.bool true) ∧ Ext w w' := by
  have E := Ext.refl w
  have cka := fun w hs => kept_yes A a n hn c w (by omega) j hwa hfa hs
  have ckb := fun w hs => kept_no B b m hm c' w (by omega) k hfb hs
  have HS := Lib.hid hs
  have HS' := Lib.hid hs'
  clear hs hs' hn hm hwa hfa hfb
  go_enter Try.func7, Try.ntmps7
  go_wp2_with fail
  refine (cka _ (HS.out.ext E)).mono ?_
  rintro e w41 ⟨v, kv, rfl, hq, x⟩
  have NV := hq.now
  have Fv := NV.is.flat
  clear hq
  have z1 := x.size
  replace E := E.trans x
  clear x
  have TB11 : True := trivial
  have TG3 : True := trivial
  go_wp2_with (first | (clear TB11; refine allocsV rfl rfl ?_; intro B11 w11 bB11 cB11 XB11 LB11 RB11; have z2 := XB11.size; replace E := E.trans XB11; replace NV := NV.ext XB11; clear LB11) | (clear TG3; have hRl := (RB11).lt (Nat.zero_lt_succ _); refine storesV (B := B11) rfl rfl rfl (v := v) rfl RB11 Fv ?_; intro s3 G3 LB11 RQ; have z4 := G3.size; replace E := grown_ext E G3 (by omega); replace NV := NV.grown G3 (by first | omega | (dsimp only [New]; omega)); clear RB11; have RB11 := RQ; clear RQ hRl; clear LB11 RB11))
  refine (ckb _ (HS'.out.ext E)).mono ?_
  rintro e w47 ⟨u, rfl, Fu, x⟩
  have z5 := x.size
  replace E := E.trans x
  replace NV := NV.ext x
  clear x
  have TB13 : True := trivial
  have TG7 : True := trivial
  go_wp2_with (first | (clear TB13; refine allocsV rfl rfl ?_; intro B13 w13 bB13 cB13 XB13 LB13 RB13; have z6 := XB13.size; replace E := E.trans XB13; replace NV := NV.ext XB13; clear LB13) | (clear TG7; have hRl := (RB13).lt (Nat.zero_lt_succ _); refine storesV (B := B13) rfl rfl rfl (v := u) rfl RB13 Fu ?_; intro s7 G7 LB13 RQ; have z8 := G7.size; replace E := grown_ext E G7 (by omega); replace NV := NV.grown G7 (by first | omega | (dsimp only [New]; omega)); clear RB13; have RB13 := RQ; clear RQ hRl; clear LB13 RB13))
  refine (lawake_any _).mono ?_
  rintro e w56 ⟨rfl, x⟩
  have z9 := x.size
  replace E := E.trans x
  replace NV := NV.ext x
  clear x
  go_wp2_with fail
  go_ret
  exact ⟨rfl, E⟩
theorem logicApplies_ok (hn : n = a.length) (hm : m = b.length) (hwa : ∀ x ∈ a, x < 18446744073709551616) (hwb : ∀ x ∈ b, x < 18446744073709551616) (h3 : n ≤ 300) (h4 : m ≤ 300) (hs : Sl w 1 A n (f64s a)) (hs' : Sl w 1 B m (f64s b)) (hfa : allF a = true) (hfb : allF b = true) : Calls Try.prog 7 #[.int .i64 f, .slice A n c, .slice B m c', .int .i64 j, .int .i64 k] w fun e w' => e = .returned (.bool true) ∧ Ext w w' := by
  have cka := fun w hs => kept_yes A a n hn c w (by omega) j hwa hfa hs
  have ckb := fun w hs => kept_yes B b m hm c' w (by omega) k hwb hfb hs
  have cta := fun w hs => rtidyL_yes A a n hn c w (by omega) hfa hs
  have ctb := fun w hs => rtidyL_yes B b m hm c' w (by omega) hfb hs
  have la : n = (dnL a).length := by rw [dnL_length]; exact hn
  have lb : m = (dnL b).length := by rw [dnL_length]; exact hm
  have tda : ∀ x ∈ dnL a, tidy x := dnL_tidy hwa
  have tdb : ∀ x ∈ dnL b, tidy x := dnL_tidy hwb
  have HS := Lib.hid hs
  have HS' := Lib.hid hs'
  clear hs hs' hn hm hwa hwb hfa hfb
  generalize dnL a = X at *
  generalize dnL b = Y at *
  have cap := fun v u K J w hv hu => apply_u f v u K J X Y (by omega) (by omega) w hv hu
  obtain ⟨m0, hm0⟩ : ∃ m0, m0 = (appL f X Y).length := ⟨_, rfl⟩
  have hm00 : m0 ≤ 1048576 := by
    rw [hm0]
    by_cases hE : appE f X Y = 0
    · unfold appL; rw [if_pos hE]; unfold appB; rw [tabL_length]
      have : lenV (X.length : Int) (Y.length : Int) ≤ 300 := by unfold lenV; rw [← la, ← lb]; repeat (first | split | omega)
      omega
    · unfold appL; rw [if_neg hE]; simp
  have cra : ∀ P Q c c' w, Sl w 1 P n (f64s X) → Sl w 1 Q m (f64s Y) → Calls Try.prog 35 #[.int .i64 f, .slice P n c, .slice Q m c'] w fun e w' => ∃ R cr, e = .returned (.tuple #[.slice R m0 cr, .int .i64 (appE f X Y)]) ∧ Sl w' 1 R m0 (bools (appL f X Y)) ∧ Ext w w' := fun P Q c c' w h1 h2 => (rapply_u f P Q n m c c' w X Y la lb tda tdb (by omega) (by omega) h1 h2).mono fun e w' => by
    rintro ⟨R, kr, cr, rfl, hk, hS, hx⟩
    rw [← hm0] at hk
    subst hk
    exact ⟨R, cr, rfl, hS, hx⟩
  have cpk : ∀ p w, IsVec w p (appD f X Y) → Calls Try.prog 36 #[p] w fun e w' => ∃ q, e = .returned (.tuple #[q, .bool (appE f X Y == 0)]) ∧ (∀ S, VecS w p (appD f X Y) S → BitS w' q (appL f X Y) S) ∧ Ext w w' := fun p w h => by
    have := packed_u p _ (appD_cases f X Y) w h
    unfold PackedU at this
    rwa [appD_kind, appD_bits] at this
  have cu0 := fun p w h => unpack_sl p (appL f X Y) m0 hm0 w h
  have cb0 := fun P Q c c' w h h' => bools_same P Q (appL f X Y) m0 m0 c c' hm0 hm0 w hm00 h h'
  have ctr := fun v K w h => truths_u v K X w h
  unfold TruthsU at ctr
  have crt0 := fun P c w h => rtruths_any P X n la tda c w (by omega) h
  unfold RTruths at crt0
  obtain ⟨TL, hTL⟩ : ∃ TL, (if decide (leastL X ≤ 1) = true then toB X else []) = TL := ⟨_, rfl⟩
  obtain ⟨m1, hm1⟩ : ∃ m1, m1 = TL.length := ⟨_, rfl⟩
  have hm11 : m1 = if decide (leastL X ≤ 1) = true then n else 0 := by
    rw [hm1, ← hTL]; split
    · rw [toB_length, la]
    · rfl
  rw [hTL] at ctr crt0
  have hm12 : m1 ≤ 1048576 := by rw [hm11]; split <;> omega
  have crt : ∀ P c w, Sl w 1 P n (f64s X) → Calls Try.prog 38 #[.slice P n c] w fun e w' => ∃ R cr, e = .returned (.tuple #[.slice R m1 cr, .bool (decide (leastL X ≤ 1))]) ∧ Sl w' 1 R m1 (bools TL) ∧ Ext w w' := fun P c w h => (crt0 P c w h).mono fun e w' => by
    rintro ⟨R, kr, cr, rfl, hS, h1, h0, hx⟩
    have : kr = m1 := by
      rw [hm11]
      by_cases ht : leastL X ≤ 1
      · rw [if_pos (decide_eq_true ht)]; exact h1 (decide_eq_true ht)
      · rw [if_neg (by rw [decide_eq_false ht]; decide)]; exact h0 (decide_eq_false ht)
    subst this
    exact ⟨R, cr, rfl, hS, hx⟩
  have cu1 := fun p w h => unpack_sl p TL m1 hm1 w h
  have cb1 := fun P Q c c' w h h' => bools_same P Q TL m1 m1 c c' hm1 hm1 w hm12 h h'
  clear crt0 hm1 hm11 hm12 hTL hm0 hm00 la lb tda tdb
  generalize appD f X Y = D at *
  generalize appL f X Y = AL at *
  generalize decide (leastL X ≤ 1) = tb at *
  generalize appE f X Y = er at *
  have E := Ext.refl w
  go_enter Try.func7, Try.ntmps7
  go_wp2_with fail
  refine (cka _ (HS.out.ext E)).mono ?_
  rintro e w41 ⟨v, kv, rfl, hq, x⟩
  have NV := hq.now
  have Fv := NV.is.flat
  clear hq
  have z1 := x.size
  replace E := E.trans x
  clear x
  have TB11 : True := trivial
  have TG3 : True := trivial
  go_wp2_with (first | (clear TB11; refine allocsV rfl rfl ?_; intro B11 w11 bB11 cB11 XB11 LB11 RB11; have z2 := XB11.size; replace E := E.trans XB11; replace NV := NV.ext XB11) | (clear TG3; have hRl := (RB11).lt (Nat.zero_lt_succ _); refine storesV (B := B11) rfl rfl rfl (v := v) rfl RB11 Fv ?_; clear LB11; intro s3 G3 LB11 RQ; have z4 := G3.size; replace E := grown_ext E G3 (by omega); replace NV := NV.grown G3 (by first | omega | (dsimp only [New]; omega)); clear RB11; have RB11 := RQ; clear RQ hRl; clear RB11))
  refine (ckb _ (HS'.out.ext E)).mono ?_
  rintro e w47 ⟨u, ku, rfl, hq, x⟩
  have NU := hq.now
  have Fu := NU.is.flat
  clear hq
  have z5 := x.size
  replace E := E.trans x
  replace NV := NV.ext x
  replace LB11 := LB11.ext x
  clear x
  have TB13 : True := trivial
  have TG7 : True := trivial
  go_wp2_with (first | (clear TB13; refine allocsV rfl rfl ?_; intro B13 w13 bB13 cB13 XB13 LB13 RB13; have z6 := XB13.size; replace E := E.trans XB13; replace NV := NV.ext XB13; replace LB11 := LB11.ext XB13; replace NU := NU.ext XB13) | (clear TG7; have hRl := (RB13).lt (Nat.zero_lt_succ _); refine storesV (B := B13) rfl rfl rfl (v := u) rfl RB13 Fu ?_; clear LB13; intro s7 G7 LB13 RQ; have z8 := G7.size; replace E := grown_ext E G7 (by omega); replace NV := NV.grown G7 (by first | omega | (dsimp only [New]; omega)); replace LB11 := LB11.grown G7 (by omega); replace NU := NU.grown G7 (by first | omega | (dsimp only [New]; omega)); clear RB13; have RB13 := RQ; clear RQ hRl; clear RB13))
  refine (cta _ (HS.out.ext E)).mono ?_
  rintro e w59 ⟨P, cP, rfl, hq, x⟩
  have SP := SlS.all hq
  clear hq
  have z9 := x.size
  replace E := E.trans x
  replace NV := NV.ext x
  replace LB11 := LB11.ext x
  replace NU := NU.ext x
  replace LB13 := LB13.ext x
  clear x
  go_wp2_with fail
  refine (ctb _ (HS'.out.ext E)).mono ?_
  rintro e w64 ⟨Q, cQ, rfl, hq, x⟩
  have SQ := SlS.all hq
  clear hq
  have z10 := x.size
  replace E := E.trans x
  replace NV := NV.ext x
  replace LB11 := LB11.ext x
  replace NU := NU.ext x
  replace LB13 := LB13.ext x
  replace SP := SP.ext x
  clear x
  go_wp2_with (first | (refine loadsV (B := B11) (by rfl) rfl rfl LB11 ?_) | (refine loadsV (B := B13) (by rfl) rfl rfl LB13 ?_))
  clear LB13
  refine (cap v u _ _ _ NV.is NU.is).mono ?_
  rintro e w71 ⟨p, rfl, hq, x⟩
  have NP := hq.now
  have Fp := NP.is.flat
  clear hq
  have z11 := x.size
  replace E := E.trans x
  replace NV := NV.ext x
  replace LB11 := LB11.ext x
  replace NU := NU.ext x
  replace SP := SP.ext x
  replace SQ := SQ.ext x
  clear x
  have TB19 : True := trivial
  have TG13 : True := trivial
  go_wp2_with (first | (clear TB19; refine allocsV rfl rfl ?_; intro B19 w19 bB19 cB19 XB19 LB19 RB19; have z12 := XB19.size; replace E := E.trans XB19; replace NV := NV.ext XB19; replace LB11 := LB11.ext XB19; replace NU := NU.ext XB19; replace SP := SP.ext XB19; replace SQ := SQ.ext XB19; replace NP := NP.ext XB19) | (clear TG13; have hRl := (RB19).lt (Nat.zero_lt_succ _); refine storesV (B := B19) rfl rfl rfl (v := p) rfl RB19 Fp ?_; clear LB19; intro s13 G13 LB19 RQ; have z14 := G13.size; replace E := grown_ext E G13 (by omega); replace NV := NV.grown G13 (by first | omega | (dsimp only [New]; omega)); replace LB11 := LB11.grown G13 (by omega); replace NU := NU.grown G13 (by first | omega | (dsimp only [New]; omega)); replace SP := SP.grown G13 (by first | omega | (dsimp only [New]; omega)); replace SQ := SQ.grown G13 (by first | omega | (dsimp only [New]; omega)); replace NP := NP.grown G13 (by first | omega | (dsimp only [New]; omega)); clear RB19; have RB19 := RQ; clear RQ hRl; clear RB19))
  refine (cra P Q cP cQ _ SP.is SQ.is).mono ?_
  rintro e w78 ⟨R, cR, rfl, hq, x⟩
  have SR := SlS.all hq
  clear hq
  have z15 := x.size
  replace E := E.trans x
  replace NV := NV.ext x
  replace LB11 := LB11.ext x
  replace NU := NU.ext x
  replace SP := SP.ext x
  replace SQ := SQ.ext x
  replace NP := NP.ext x
  replace LB19 := LB19.ext x
  clear x
  go_wp2_with (refine loadsV (B := B19) (by rfl) rfl rfl LB19 ?_)
  clear LB19
  refine (cpk p _ NP.is).mono ?_
  rintro e w83 ⟨t, rfl, hq, x⟩
  have NT := hq _ NP
  have Ft := NT.is.flat
  clear hq
  have z16 := x.size
  replace E := E.trans x
  replace NV := NV.ext x
  replace LB11 := LB11.ext x
  replace NU := NU.ext x
  replace SP := SP.ext x
  replace SQ := SQ.ext x
  replace NP := NP.ext x
  replace SR := SR.ext x
  clear x
  have TB23 : True := trivial
  have TG18 : True := trivial
  go_wp2_with (first | (clear TB23; refine allocsB rfl rfl ?_; intro B23 w23 bB23 cB23 XB23 LB23 RB23; have z17 := XB23.size; replace E := E.trans XB23; replace NV := NV.ext XB23; replace LB11 := LB11.ext XB23; replace NU := NU.ext XB23; replace SP := SP.ext XB23; replace SQ := SQ.ext XB23; replace NP := NP.ext XB23; replace SR := SR.ext XB23; replace NT := NT.ext XB23) | (clear TG18; have hRl := (RB23).lt (Nat.zero_lt_succ _); refine storesB (B := B23) rfl rfl rfl (v := t) rfl RB23 Ft ?_; clear LB23; intro s18 G18 LB23 RQ; have z19 := G18.size; replace E := grown_ext E G18 (by omega); replace NV := NV.grown G18 (by first | omega | (dsimp only [New]; omega)); replace LB11 := LB11.grown G18 (by omega); replace NU := NU.grown G18 (by first | omega | (dsimp only [New]; omega)); replace SP := SP.grown G18 (by first | omega | (dsimp only [New]; omega)); replace SQ := SQ.grown G18 (by first | omega | (dsimp only [New]; omega)); replace NP := NP.grown G18 (by first | omega | (dsimp only [New]; omega)); replace SR := SR.grown G18 (by first | omega | (dsimp only [New]; omega)); replace NT := NT.grown G18 (by first | omega | (dsimp only [New]; omega)); clear RB23; have RB23 := RQ; clear RQ hRl; clear RB23) | (refine loadsV (B := B11) (by rfl) rfl rfl LB11 ?_))
  clear LB11
  refine (ctr v _ _ NV.is).mono ?_
  rintro e w88 ⟨s, rfl, hq, x⟩
  have NS := (hq _ NV).now
  have Fs := NS.is.flat
  clear hq
  have z20 := x.size
  replace E := E.trans x
  replace NV := NV.ext x
  replace NU := NU.ext x
  replace SP := SP.ext x
  replace SQ := SQ.ext x
  replace NP := NP.ext x
  replace SR := SR.ext x
  replace NT := NT.ext x
  replace LB23 := LB23.ext x
  clear x
  have TB25 : True := trivial
  have TG22 : True := trivial
  go_wp2_with (first | (clear TB25; refine allocsB rfl rfl ?_; intro B25 w25 bB25 cB25 XB25 LB25 RB25; have z21 := XB25.size; replace E := E.trans XB25; replace NV := NV.ext XB25; replace NU := NU.ext XB25; replace SP := SP.ext XB25; replace SQ := SQ.ext XB25; replace NP := NP.ext XB25; replace SR := SR.ext XB25; replace NT := NT.ext XB25; replace LB23 := LB23.ext XB25; replace NS := NS.ext XB25) | (clear TG22; have hRl := (RB25).lt (Nat.zero_lt_succ _); refine storesB (B := B25) rfl rfl rfl (v := s) rfl RB25 Fs ?_; clear LB25; intro s22 G22 LB25 RQ; have z23 := G22.size; replace E := grown_ext E G22 (by omega); replace NV := NV.grown G22 (by first | omega | (dsimp only [New]; omega)); replace NU := NU.grown G22 (by first | omega | (dsimp only [New]; omega)); replace SP := SP.grown G22 (by first | omega | (dsimp only [New]; omega)); replace SQ := SQ.grown G22 (by first | omega | (dsimp only [New]; omega)); replace NP := NP.grown G22 (by first | omega | (dsimp only [New]; omega)); replace SR := SR.grown G22 (by first | omega | (dsimp only [New]; omega)); replace NT := NT.grown G22 (by first | omega | (dsimp only [New]; omega)); replace LB23 := LB23.grown G22 (by omega); replace NS := NS.grown G22 (by first | omega | (dsimp only [New]; omega)); clear RB25; have RB25 := RQ; clear RQ hRl; clear RB25))
  refine (crt P cP _ SP.is).mono ?_
  rintro e w93 ⟨Z, cZ, rfl, hq, x⟩
  have SZ := SlS.all hq
  clear hq
  have z24 := x.size
  replace E := E.trans x
  replace NV := NV.ext x
  replace NU := NU.ext x
  replace SP := SP.ext x
  replace SQ := SQ.ext x
  replace NP := NP.ext x
  replace SR := SR.ext x
  replace NT := NT.ext x
  replace LB23 := LB23.ext x
  replace NS := NS.ext x
  replace LB25 := LB25.ext x
  clear x
  go_wp2_with (refine loadgB (B := B23) (by rfl) rfl rfl LB23 ?_)
  clear LB23
  refine (cu0 t _ NT.is).mono ?_
  rintro e w107 ⟨U, cU, rfl, hq, x⟩
  have SU := SlS.all hq
  clear hq
  have z25 := x.size
  replace E := E.trans x
  replace NV := NV.ext x
  replace NU := NU.ext x
  replace SP := SP.ext x
  replace SQ := SQ.ext x
  replace NP := NP.ext x
  replace SR := SR.ext x
  replace NT := NT.ext x
  replace NS := NS.ext x
  replace LB25 := LB25.ext x
  replace SZ := SZ.ext x
  clear x
  go_wp2_with fail
  refine (cb0 U R cU cR _ SU.is SR.is).mono ?_
  rintro e w109 ⟨rfl, x⟩
  have z26 := x.size
  replace E := E.trans x
  replace NV := NV.ext x
  replace NU := NU.ext x
  replace SP := SP.ext x
  replace SQ := SQ.ext x
  replace NP := NP.ext x
  replace SR := SR.ext x
  replace NT := NT.ext x
  replace NS := NS.ext x
  replace LB25 := LB25.ext x
  replace SZ := SZ.ext x
  replace SU := SU.ext x
  clear x
  go_wp2_with (refine loadgB (B := B25) (by rfl) rfl rfl LB25 ?_)
  clear LB25
  refine (cu1 s _ NS.is).mono ?_
  rintro e w118 ⟨V, cV, rfl, hq, x⟩
  have SV := SlS.all hq
  clear hq
  have z27 := x.size
  replace E := E.trans x
  replace NV := NV.ext x
  replace NU := NU.ext x
  replace SP := SP.ext x
  replace SQ := SQ.ext x
  replace NP := NP.ext x
  replace SR := SR.ext x
  replace NT := NT.ext x
  replace NS := NS.ext x
  replace SZ := SZ.ext x
  replace SU := SU.ext x
  clear x
  go_wp2_with fail
  refine (cb1 V Z cV cZ _ SV.is SZ.is).mono ?_
  rintro e w120 ⟨rfl, x⟩
  have z28 := x.size
  replace E := E.trans x
  replace NV := NV.ext x
  replace NU := NU.ext x
  replace SP := SP.ext x
  replace SQ := SQ.ext x
  replace NP := NP.ext x
  replace SR := SR.ext x
  replace NT := NT.ext x
  replace NS := NS.ext x
  replace SZ := SZ.ext x
  replace SU := SU.ext x
  replace SV := SV.ext x
  clear x
  go_wp2_with fail
  refine (lawake_any _).mono ?_
  rintro e w123 ⟨rfl, x⟩
  have z29 := x.size
  replace E := E.trans x
  replace NV := NV.ext x
  replace NU := NU.ext x
  replace SP := SP.ext x
  replace SQ := SQ.ext x
  replace NP := NP.ext x
  replace SR := SR.ext x
  replace NT := NT.ext x
  replace NS := NS.ext x
  replace SZ := SZ.ext x
  replace SU := SU.ext x
  replace SV := SV.ext x
  clear x
  go_wp2_with fail
  go_ret
  exact ⟨rfl, E⟩
end
theorem logicApplies_walk (w : World) (f : Int) (_ : (Lit.int .i64 f).wf = true) (A : Option Addr) (a : List Nat) (c : Nat) (_ : a.length ≤ c) (_ : c ≤ maxLen) (hs : Sl w 1 A a.length (a.map fun x => .float .f64 x)) (hw : ∀ x ∈ a, (Lit.float .f64 x).wf = true) (B : Option Addr) (b : List Nat) (c' : Nat) (_ : b.length ≤ c') (_ : c' ≤ maxLen) (hs' : Sl w 1 B b.length (b.map fun x => .float .f64 x)) (hw' : ∀ x ∈ b, (Lit.float .f64 x).wf = true) (j : Int) (_ : (Lit.int .i64 j).wf = true) (k : Int) (_ : (Lit.int .i64 k).wf = true) :
    Calls Try.prog 7 #[.int .i64 f, .slice A a.length c, .slice B b.length c', .int .i64 j, .int .i64 k] w fun e w' => e = .returned (.bool true) ∧ Ext w w' := by
  have hwa : ∀ x ∈ a, x < 18446744073709551616 := fun x hx => by have := hw x hx; simpa [Lit.wf] using this
  have hwb : ∀ x ∈ b, x < 18446744073709551616 := fun x hx => by have := hw' x hx; simpa [Lit.wf] using this
  by_cases h3 : a.length ≤ 300
  · by_cases h4 : b.length ≤ 300
    · cases hfa : allF a
      · exact logicApplies_no1 w f A a a.length c B b b.length c' j k rfl rfl hwa hwb h3 h4 hs hs' hfa
      · cases hfb : allF b
        · exact logicApplies_no2 w f A a a.length c B b b.length c' j k rfl rfl hwa hwb h3 h4 hs hs' hfa hfb
        · exact logicApplies_ok w f A a a.length c B b b.length c' j k rfl rfl hwa hwb h3 h4 hs hs' hfa hfb
    · exact logicApplies_long2 w f A a.length c B b.length c' j k h3 (by omega)
  · exact logicApplies_long1 w f A a.length c B b.length c' j k (by omega)
end Go.Proofs.Ytdfhefnjoekgbaa
