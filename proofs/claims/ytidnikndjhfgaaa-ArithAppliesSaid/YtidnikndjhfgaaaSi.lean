/- ArithApplies. -/
import Derived.Test.YtidnikndjhfgaaaSf
import Derived.Test.YtidnikndjhfgaaaSh
import Derived.Test.YtidnikndjhfgaaaQp
namespace Go.Proofs.Ytidnikndjhfgaaa
open Go.ChangeShapes Go.WideShapes Go.RowKit Bv Fl
set_option maxHeartbeats 4000000
set_option maxRecDepth 100000
theorem arU_rapp (f : Int) (A B : Option Addr) (m n c c' : Nat) (w : World) (x y : List Nat) (hx : m = x.length) (hy : n = y.length) (hm : m ≤ 1048576) (hn : n ≤ 1048576) (htx : ∀ i ∈ x, tidy i) (hty : ∀ i ∈ y, tidy i) (hs : Sl w 1 A m (f64s x)) (hs' : Sl w 1 B n (f64s y)) :
    Calls Try.prog 39 #[.int .i64 f, .slice A m c, .slice B n c'] w (RApp (arE f x y) (arL f x y) (arL f x y).length w) := by
  have hL : (arL f x y).length = (lenV (x.length : Int) (y.length : Int)).toNat := resL_length _ _ _ _
  have err : ∀ k : Int, k ≠ 0 → arE f x y = k → Calls Try.prog 39 #[.int .i64 f, .slice A m c, .slice B n c'] w (fun e w' => e = .returned (.tuple #[.slice none 0 0, .int .i64 k]) ∧ Ext w w') → Calls Try.prog 39 #[.int .i64 f, .slice A m c, .slice B n c'] w (RApp (arE f x y) (arL f x y) (arL f x y).length w) := by
    intro k hk hE h
    refine h.mono ?_
    rintro e w' ⟨rfl, hx⟩
    exact ⟨none, 0, 0, by rw [hE], fun h => absurd h (by rw [hE]; exact hk), hx⟩
  by_cases h1 : f < 1 ∨ 8 < f
  · exact err 1 (by decide) (by unfold arE; rw [if_pos h1]) (rapp_bad f A B m n c c' w h1)
  cases hle : lenOk (x.length : Int) (y.length : Int)
  · exact err 23 (by decide) (by unfold arE; rw [if_neg h1, if_pos hle]) (rapp_len f A B m n c c' w h1 (by rw [hx, hy]; exact hle))
  obtain ⟨N, hN, hNm, hNn, hNo⟩ := lenV_pos hle
  have hE : arE f x y = errF f x y N := by unfold arE; rw [if_neg h1, if_neg (by rw [hle]; decide), hN, Int.toNat_natCast]
  have hR : arL f x y = resL f x y N := by unfold arL; rw [hN, Int.toNat_natCast]
  have := rapp_go f A B m n c c' w x y N hx hy htx hty h1 (by rw [hx, hy]; exact hle) (by rw [hx, hy]; exact hN) (by omega) (by omega) (by omega) hs hs'
  rw [hE, hR, resL_length]
  exact this
theorem tight_self (v : Value) (l : List Nat) (w : World) (h : IsNum w v (leastL l) l) : Calls Try.prog 43 #[v] w fun e w' => e = .returned (.bool true) ∧ Ext w w' := by
  refine (tight_num v (leastL l) l w h).mono ?_
  rintro e w' ⟨rfl, hx⟩
  exact ⟨by simp, hx⟩
section
variable (w : World) (f : Int) (A : Option Addr) (a : List Nat) (n : Nat) (c : Nat) (B : Option Addr) (b : List Nat) (m : Nat) (c' : Nat) (j k : Int)
theorem arithApplies_long1 (h : 300 < n) : Calls Try.prog 9 #[.int .i64 f, .slice A n c, .slice B m c', .int .i64 j, .int .i64 k] w fun e w' => e = .returned (.bool true) ∧ Ext w w' := by
  have E := Ext.refl w
  go_enter Try.func9, Try.ntmps9
  go_wp2_with fail
  refine (aawake_any _).mono ?_
  rintro e w31 ⟨rfl, x⟩
  have z1 := x.size
  replace E := E.trans x
  clear x
  go_wp2_with fail
  go_ret
  exact ⟨rfl, E⟩
theorem arithApplies_long2 (h : n ≤ 300) (h2 : 300 < m) : Calls Try.prog 9 #[.int .i64 f, .slice A n c, .slice B m c', .int .i64 j, .int .i64 k] w fun e w' => e = .returned (.bool true) ∧ Ext w w' := by
  have E := Ext.refl w
  go_enter Try.func9, Try.ntmps9
  go_wp2_with fail
  refine (aawake_any _).mono ?_
  rintro e w31 ⟨rfl, x⟩
  have z1 := x.size
  replace E := E.trans x
  clear x
  go_wp2_with fail
  go_ret
  exact ⟨rfl, E⟩
theorem arithApplies_no1 (hn : n = a.length) (hm : m = b.length) (_ : ∀ x ∈ a, x < 18446744073709551616) (hwb : ∀ x ∈ b, x < 18446744073709551616) (h3 : n ≤ 300) (h4 : m ≤ 300) (hs : Sl w 1 A n (f64s a)) (hs' : Sl w 1 B m (f64s b)) (hfa : allF a = false) : Calls Try.prog 9 #[.int .i64 f, .slice A n c, .slice B m c', .int .i64 j, .int .i64 k] w fun e w' => e = .returned (.bool true) ∧ Ext w w' := by
  have E := Ext.refl w
  have cka := fun w hs => kept_no A a n hn c w (by omega) j hfa hs
  have ckb : ∀ w, Sl w 1 B m (f64s b) → Calls Try.prog 36 #[.slice B m c', .int .i64 k] w fun e w' => ∃ v t, e = .returned (.tuple #[v, .bool t]) ∧ Flat 8 v ∧ Ext w w' := fun w hs => by
    cases hfb : allF b
    · refine (kept_no B b m hm c' w (by omega) k hfb hs).mono ?_
      rintro e w' ⟨v, rfl, hF, hx⟩
      exact ⟨v, _, rfl, hF, hx⟩
    · refine (kept_yes B b m hm c' w (by omega) k hwb hfb hs).mono ?_
      rintro e w' ⟨v, _, rfl, hF, hx⟩
      exact ⟨v, _, rfl, hF.is.flat, hx⟩
  have HS := Lib.hid hs
  have HS' := Lib.hid hs'
  clear hs hs' hn hm hwb hfa
  go_enter Try.func9, Try.ntmps9
  go_wp2_with fail
  refine (cka _ (HS.out.ext E)).mono ?_
  rintro e w35 ⟨v, rfl, Fv, x⟩
  have z1 := x.size
  replace E := E.trans x
  clear x
  have TB11 : True := trivial
  have TG3 : True := trivial
  go_wp2_with (first | (clear TB11; refine allocsV rfl rfl ?_; intro B11 w11 bB11 cB11 XB11 LB11 RB11; have z2 := XB11.size; replace E := E.trans XB11; clear LB11) | (clear TG3; have hRl := (RB11).lt (Nat.zero_lt_succ _); refine storesV (B := B11) rfl rfl rfl (v := v) rfl RB11 Fv ?_; intro s3 G3 LB11 RQ; have z4 := G3.size; replace E := grown_ext E G3 (by omega); clear RB11; have RB11 := RQ; clear RQ hRl; clear LB11 RB11))
  refine (ckb _ (HS'.out.ext E)).mono ?_
  rintro e w41 ⟨u, t, rfl, Fu, x⟩
  have z5 := x.size
  replace E := E.trans x
  clear x
  have TB13 : True := trivial
  have TG7 : True := trivial
  go_wp2_with (first | (clear TB13; refine allocsV rfl rfl ?_; intro B13 w13 bB13 cB13 XB13 LB13 RB13; have z6 := XB13.size; replace E := E.trans XB13; clear LB13) | (clear TG7; have hRl := (RB13).lt (Nat.zero_lt_succ _); refine storesV (B := B13) rfl rfl rfl (v := u) rfl RB13 Fu ?_; intro s7 G7 LB13 RQ; have z8 := G7.size; replace E := grown_ext E G7 (by omega); clear RB13; have RB13 := RQ; clear RQ hRl; clear LB13 RB13))
  refine (aawake_any _).mono ?_
  rintro e w50 ⟨rfl, x⟩
  have z9 := x.size
  replace E := E.trans x
  clear x
  go_wp2_with fail
  go_ret
  exact ⟨rfl, E⟩
theorem arithApplies_no2 (hn : n = a.length) (hm : m = b.length) (hwa : ∀ x ∈ a, x < 18446744073709551616) (_ : ∀ x ∈ b, x < 18446744073709551616) (h3 : n ≤ 300) (h4 : m ≤ 300) (hs : Sl w 1 A n (f64s a)) (hs' : Sl w 1 B m (f64s b)) (hfa : allF a = true) (hfb : allF b = false) : Calls Try.prog 9 #[.int .i64 f, .slice A n c, .slice B m c', .int .i64 j, .int .i64 k] w fun e w' => e = .returned (.bool true) ∧ Ext w w' := by
  have E := Ext.refl w
  have cka := fun w hs => kept_yes A a n hn c w (by omega) j hwa hfa hs
  have ckb := fun w hs => kept_no B b m hm c' w (by omega) k hfb hs
  have HS := Lib.hid hs
  have HS' := Lib.hid hs'
  clear hs hs' hn hm hwa hfa hfb
  go_enter Try.func9, Try.ntmps9
  go_wp2_with fail
  refine (cka _ (HS.out.ext E)).mono ?_
  rintro e w35 ⟨v, kv, rfl, hq, x⟩
  have NV := hq.now
  have Fv := NV.is.flat
  clear hq
  have z1 := x.size
  replace E := E.trans x
  clear x
  have TB11 : True := trivial
  have TG3 : True := trivial
  go_wp2_with (first | (clear TB11; refine allocsV rfl rfl ?_; intro B11 w11 bB11 cB11 XB11 LB11 RB11; have z2 := XB11.size; replace E := E.trans XB11; replace NV := NV.ext XB11; clear LB11) | (clear TG3; have hRl := (RB11).lt (Nat.zero_lt_succ _); refine storesV (B := B11) rfl rfl rfl (v := v) rfl RB11 Fv ?_; intro s3 G3 LB11 RQ; have z4 := G3.size; replace E := grown_ext E G3 (by omega); replace NV := NV.grown G3 (by first | omega | (dsimp only [New]; omega)); clear RB11; have RB11 := RQ; clear RQ hRl; clear LB11 RB11))
  refine (ckb _ (HS'.out.ext E)).mono ?_
  rintro e w41 ⟨u, rfl, Fu, x⟩
  have z5 := x.size
  replace E := E.trans x
  replace NV := NV.ext x
  clear x
  have TB13 : True := trivial
  have TG7 : True := trivial
  go_wp2_with (first | (clear TB13; refine allocsV rfl rfl ?_; intro B13 w13 bB13 cB13 XB13 LB13 RB13; have z6 := XB13.size; replace E := E.trans XB13; replace NV := NV.ext XB13; clear LB13) | (clear TG7; have hRl := (RB13).lt (Nat.zero_lt_succ _); refine storesV (B := B13) rfl rfl rfl (v := u) rfl RB13 Fu ?_; intro s7 G7 LB13 RQ; have z8 := G7.size; replace E := grown_ext E G7 (by omega); replace NV := NV.grown G7 (by first | omega | (dsimp only [New]; omega)); clear RB13; have RB13 := RQ; clear RQ hRl; clear LB13 RB13))
  refine (aawake_any _).mono ?_
  rintro e w50 ⟨rfl, x⟩
  have z9 := x.size
  replace E := E.trans x
  replace NV := NV.ext x
  clear x
  go_wp2_with fail
  go_ret
  exact ⟨rfl, E⟩
theorem arithApplies_err (hn : n = a.length) (hm : m = b.length) (hwa : ∀ x ∈ a, x < 18446744073709551616) (hwb : ∀ x ∈ b, x < 18446744073709551616) (h3 : n ≤ 300) (h4 : m ≤ 300) (hs : Sl w 1 A n (f64s a)) (hs' : Sl w 1 B m (f64s b)) (hfa : allF a = true) (hfb : allF b = true) (hE : arE f (dnL a) (dnL b) ≠ 0) : Calls Try.prog 9 #[.int .i64 f, .slice A n c, .slice B m c', .int .i64 j, .int .i64 k] w fun e w' => e = .returned (.bool true) ∧ Ext w w' := by
  have cka := fun w hs => kept_yes A a n hn c w (by omega) j hwa hfa hs
  have ckb := fun w hs => kept_yes B b m hm c' w (by omega) k hwb hfb hs
  have cta := fun w hs => rtidyL_yes A a n hn c w (by omega) hfa hs
  have ctb := fun w hs => rtidyL_yes B b m hm c' w (by omega) hfb hs
  have la : n = (dnL a).length := by rw [dnL_length]; exact hn
  have lb : m = (dnL b).length := by rw [dnL_length]; exact hm
  have tda : ∀ x ∈ dnL a, tidy x := dnL_tidy hwa
  have tdb : ∀ x ∈ dnL b, tidy x := dnL_tidy hwb
  have HS := Lib.hid hs
  have HS' := Lib.hid hs'
  clear hs hs' hn hm hwa hwb hfa hfb
  generalize dnL a = X at *
  generalize dnL b = Y at *
  have cap := fun v u K J w hv hu => ar_u f v u K J X Y (by omega) (by omega) w hv hu
  have cra := fun P Q c c' w h1 h2 => arU_rapp f P Q n m c c' w X Y la lb (by omega) (by omega) tda tdb h1 h2
  obtain ⟨z, hz⟩ : ∃ z, zeroVec = z := ⟨_, rfl⟩
  have hZ := zeroVec_flat
  have cp : ∀ v u K J w, IsNum w v K X → IsNum w u J Y → Calls Try.prog 38 #[.int .i64 f, v, u] w fun e w' => e = .returned (.tuple #[z, .int .i64 (arE f X Y)]) ∧ Ext w w' := fun v u K J w hv hu => (cap v u K J w hv hu).mono fun e w2 => by
    rintro ⟨p, rfl, h1, _, hx⟩
    exact ⟨by rw [h1 hE, hz], hx⟩
  have cr : ∀ P Q c c' w, Sl w 1 P n (f64s X) → Sl w 1 Q m (f64s Y) → Calls Try.prog 39 #[.int .i64 f, .slice P n c, .slice Q m c'] w fun e w' => ∃ R k cr, e = .returned (.tuple #[.slice R k cr, .int .i64 (arE f X Y)]) ∧ Ext w w' := fun P Q c c' w h1 h2 => (cra P Q c c' w h1 h2).mono fun e w2 => by
    rintro ⟨R, k, cr, rfl, _, hx⟩
    exact ⟨R, k, cr, rfl, hx⟩
  have e79 : (arE f X Y != 0) = true := by simpa using hE
  rw [hz] at hZ
  have kz := fun w => kind_zero z hz w
  clear cap cra la lb tda tdb hE hz
  generalize arE f X Y = er at *
  have E := Ext.refl w
  go_enter Try.func9, Try.ntmps9
  go_wp2_with fail
  refine (cka _ (HS.out.ext E)).mono ?_
  rintro e w35 ⟨v, kv, rfl, hq, x⟩
  have NV := hq.now
  have Fv := NV.is.flat
  clear hq
  have z1 := x.size
  replace E := E.trans x
  clear x
  have TB11 : True := trivial
  have TG3 : True := trivial
  go_wp2_with (first | (clear TB11; refine allocsV rfl rfl ?_; intro B11 w11 bB11 cB11 XB11 LB11 RB11; have z2 := XB11.size; replace E := E.trans XB11; replace NV := NV.ext XB11) | (clear TG3; have hRl := (RB11).lt (Nat.zero_lt_succ _); refine storesV (B := B11) rfl rfl rfl (v := v) rfl RB11 Fv ?_; clear LB11; intro s3 G3 LB11 RQ; have z4 := G3.size; replace E := grown_ext E G3 (by omega); replace NV := NV.grown G3 (by first | omega | (dsimp only [New]; omega)); clear RB11; have RB11 := RQ; clear RQ hRl; clear RB11))
  refine (ckb _ (HS'.out.ext E)).mono ?_
  rintro e w41 ⟨u, ku, rfl, hq, x⟩
  have NU := hq.now
  have Fu := NU.is.flat
  clear hq
  have z5 := x.size
  replace E := E.trans x
  replace NV := NV.ext x
  replace LB11 := LB11.ext x
  clear x
  have TB13 : True := trivial
  have TG7 : True := trivial
  go_wp2_with (first | (clear TB13; refine allocsV rfl rfl ?_; intro B13 w13 bB13 cB13 XB13 LB13 RB13; have z6 := XB13.size; replace E := E.trans XB13; replace NV := NV.ext XB13; replace LB11 := LB11.ext XB13; replace NU := NU.ext XB13) | (clear TG7; have hRl := (RB13).lt (Nat.zero_lt_succ _); refine storesV (B := B13) rfl rfl rfl (v := u) rfl RB13 Fu ?_; clear LB13; intro s7 G7 LB13 RQ; have z8 := G7.size; replace E := grown_ext E G7 (by omega); replace NV := NV.grown G7 (by first | omega | (dsimp only [New]; omega)); replace LB11 := LB11.grown G7 (by omega); replace NU := NU.grown G7 (by first | omega | (dsimp only [New]; omega)); clear RB13; have RB13 := RQ; clear RQ hRl; clear RB13))
  refine (cta _ (HS.out.ext E)).mono ?_
  rintro e w53 ⟨P, cP, rfl, hq, x⟩
  have SP := SlS.all hq
  clear hq
  have z9 := x.size
  replace E := E.trans x
  replace NV := NV.ext x
  replace LB11 := LB11.ext x
  replace NU := NU.ext x
  replace LB13 := LB13.ext x
  clear x
  go_wp2_with fail
  refine (ctb _ (HS'.out.ext E)).mono ?_
  rintro e w58 ⟨Q, cQ, rfl, hq, x⟩
  have SQ := SlS.all hq
  clear hq
  have z10 := x.size
  replace E := E.trans x
  replace NV := NV.ext x
  replace LB11 := LB11.ext x
  replace NU := NU.ext x
  replace LB13 := LB13.ext x
  replace SP := SP.ext x
  clear x
  go_wp2_with (first | (refine loadsV (B := B11) (by rfl) rfl rfl LB11 ?_) | (refine loadsV (B := B13) (by rfl) rfl rfl LB13 ?_))
  clear LB11 LB13
  refine (cp v u _ _ _ NV.is NU.is).mono ?_
  rintro e w65 ⟨rfl, x⟩
  have z11 := x.size
  replace E := E.trans x
  replace NV := NV.ext x
  replace NU := NU.ext x
  replace SP := SP.ext x
  replace SQ := SQ.ext x
  clear x
  have TB19 : True := trivial
  have TG13 : True := trivial
  go_wp2_with (first | (clear TB19; refine allocsV rfl rfl ?_; intro B19 w19 bB19 cB19 XB19 LB19 RB19; have z12 := XB19.size; replace E := E.trans XB19; replace NV := NV.ext XB19; replace NU := NU.ext XB19; replace SP := SP.ext XB19; replace SQ := SQ.ext XB19) | (clear TG13; have hRl := (RB19).lt (Nat.zero_lt_succ _); refine storesV (B := B19) rfl rfl rfl (v := z) rfl RB19 hZ ?_; clear LB19; intro s13 G13 LB19 RQ; have z14 := G13.size; replace E := grown_ext E G13 (by omega); replace NV := NV.grown G13 (by first | omega | (dsimp only [New]; omega)); replace NU := NU.grown G13 (by first | omega | (dsimp only [New]; omega)); replace SP := SP.grown G13 (by first | omega | (dsimp only [New]; omega)); replace SQ := SQ.grown G13 (by first | omega | (dsimp only [New]; omega)); clear RB19; have RB19 := RQ; clear RQ hRl; clear RB19))
  refine (cr P Q cP cQ _ SP.is SQ.is).mono ?_
  rintro e w72 ⟨R, kR, cR, rfl, x⟩
  have z15 := x.size
  replace E := E.trans x
  replace NV := NV.ext x
  replace NU := NU.ext x
  replace SP := SP.ext x
  replace SQ := SQ.ext x
  replace LB19 := LB19.ext x
  clear x
  go_wp2_with (refine loadsV (B := B19) (by rfl) rfl rfl LB19 ?_)
  clear LB19
  refine (kz _).mono ?_
  rintro e w81 ⟨rfl, x⟩
  have z16 := x.size
  replace E := E.trans x
  replace NV := NV.ext x
  replace NU := NU.ext x
  replace SP := SP.ext x
  replace SQ := SQ.ext x
  clear x
  go_wp2_with fail
  refine (aawake_any _).mono ?_
  rintro e w84 ⟨rfl, x⟩
  have z17 := x.size
  replace E := E.trans x
  replace NV := NV.ext x
  replace NU := NU.ext x
  replace SP := SP.ext x
  replace SQ := SQ.ext x
  clear x
  go_wp2_with fail
  go_ret
  exact ⟨rfl, E⟩
theorem arithApplies_ok (hn : n = a.length) (hm : m = b.length) (hwa : ∀ x ∈ a, x < 18446744073709551616) (hwb : ∀ x ∈ b, x < 18446744073709551616) (h3 : n ≤ 300) (h4 : m ≤ 300) (hs : Sl w 1 A n (f64s a)) (hs' : Sl w 1 B m (f64s b)) (hfa : allF a = true) (hfb : allF b = true) (hE : arE f (dnL a) (dnL b) = 0) : Calls Try.prog 9 #[.int .i64 f, .slice A n c, .slice B m c', .int .i64 j, .int .i64 k] w fun e w' => e = .returned (.bool true) ∧ Ext w w' := by
  have cka := fun w hs => kept_yes A a n hn c w (by omega) j hwa hfa hs
  have ckb := fun w hs => kept_yes B b m hm c' w (by omega) k hwb hfb hs
  have cta := fun w hs => rtidyL_yes A a n hn c w (by omega) hfa hs
  have ctb := fun w hs => rtidyL_yes B b m hm c' w (by omega) hfb hs
  have la : n = (dnL a).length := by rw [dnL_length]; exact hn
  have lb : m = (dnL b).length := by rw [dnL_length]; exact hm
  have tda : ∀ x ∈ dnL a, tidy x := dnL_tidy hwa
  have tdb : ∀ x ∈ dnL b, tidy x := dnL_tidy hwb
  have HS := Lib.hid hs
  have HS' := Lib.hid hs'
  clear hs hs' hn hm hwa hwb hfa hfb
  generalize dnL a = X at *
  generalize dnL b = Y at *
  have cap := fun v u K J w hv hu => ar_u f v u K J X Y (by omega) (by omega) w hv hu
  have cra := fun P Q c c' w h1 h2 => arU_rapp f P Q n m c c' w X Y la lb (by omega) (by omega) tda tdb h1 h2
  obtain ⟨m0, hm0⟩ : ∃ m0, m0 = (arL f X Y).length := ⟨_, rfl⟩
  have hm00 : m0 ≤ 1048576 := by
    rw [hm0, show (arL f X Y).length = (lenV (X.length : Int) (Y.length : Int)).toNat from resL_length _ _ _ _]
    have : lenV (X.length : Int) (Y.length : Int) ≤ 300 := by unfold lenV; rw [← la, ← lb]; repeat (first | split | omega)
    omega
  have htl : ∀ i ∈ arL f X Y, tidy i := by
    by_cases hle : lenOk (X.length : Int) (Y.length : Int) = true
    · obtain ⟨N, hN, hNm, hNn, hNo⟩ := lenV_pos hle
      unfold arL
      rw [hN, Int.toNat_natCast]
      exact resL_tidy f tda tdb (by omega) (by omega)
    · exfalso
      have hle : lenOk (X.length : Int) (Y.length : Int) = false := by simpa using hle
      unfold arE at hE
      by_cases h1 : f < 1 ∨ 8 < f
      · rw [if_pos h1] at hE; cases hE
      · rw [if_neg h1, if_pos hle] at hE; cases hE
  have cp : ∀ v u K J w, IsNum w v K X → IsNum w u J Y → Calls Try.prog 38 #[.int .i64 f, v, u] w fun e w' => ∃ p, e = .returned (.tuple #[p, .int .i64 0]) ∧ NumS w' p (leastL (arL f X Y)) (arL f X Y) (New w.heap.size) ∧ Ext w w' := fun v u K J w hv hu => (cap v u K J w hv hu).mono fun e w2 => by
    rintro ⟨p, rfl, _, h1, hx⟩
    exact ⟨p, by rw [hE], h1 hE, hx⟩
  have cr : ∀ P Q c c' w, Sl w 1 P n (f64s X) → Sl w 1 Q m (f64s Y) → Calls Try.prog 39 #[.int .i64 f, .slice P n c, .slice Q m c'] w fun e w' => ∃ R cr, e = .returned (.tuple #[.slice R m0 cr, .int .i64 0]) ∧ Sl w' 1 R m0 (f64s (arL f X Y)) ∧ Ext w w' := fun P Q c c' w h1 h2 => (cra P Q c c' w h1 h2).mono fun e w2 => by
    rintro ⟨R, k, cr, rfl, h, hx⟩
    obtain ⟨hk, hS⟩ := h hE
    rw [← hm0] at hk
    subst hk
    exact ⟨R, cr, by rw [hE], hS, hx⟩
  have cn := fun p K w h => nnums_sl p K (arL f X Y) m0 hm0 w h
  have cs := fun P Q c c' w h h' => same_yes P Q (arL f X Y) m0 c c' hm0 w hm00 htl h h'
  have ct := fun p w h => tight_self p (arL f X Y) w h
  have ck := fun p w h => nkind_any p (leastL (arL f X Y)) (arL f X Y) w h
  have hkp : (0 : Int) < (leastL (arL f X Y) : Int) := by have := leastL_ge (arL f X Y); omega
  clear cap cra la lb tda tdb hE hm0 hm00 htl
  generalize arL f X Y = L at *
  generalize leastL L = kL at *
  generalize hki : (kL : Int) = kI at ck hkp
  have e93 : decide ((0 : Int) < kI) = true := decide_eq_true hkp
  clear hki
  have E := Ext.refl w
  go_enter Try.func9, Try.ntmps9
  go_wp2_with fail
  refine (cka _ (HS.out.ext E)).mono ?_
  rintro e w35 ⟨v, kv, rfl, hq, x⟩
  have NV := hq.now
  have Fv := NV.is.flat
  clear hq
  have z1 := x.size
  replace E := E.trans x
  clear x
  have TB11 : True := trivial
  have TG3 : True := trivial
  go_wp2_with (first | (clear TB11; refine allocsV rfl rfl ?_; intro B11 w11 bB11 cB11 XB11 LB11 RB11; have z2 := XB11.size; replace E := E.trans XB11; replace NV := NV.ext XB11) | (clear TG3; have hRl := (RB11).lt (Nat.zero_lt_succ _); refine storesV (B := B11) rfl rfl rfl (v := v) rfl RB11 Fv ?_; clear LB11; intro s3 G3 LB11 RQ; have z4 := G3.size; replace E := grown_ext E G3 (by omega); replace NV := NV.grown G3 (by first | omega | (dsimp only [New]; omega)); clear RB11; have RB11 := RQ; clear RQ hRl; clear RB11))
  refine (ckb _ (HS'.out.ext E)).mono ?_
  rintro e w41 ⟨u, ku, rfl, hq, x⟩
  have NU := hq.now
  have Fu := NU.is.flat
  clear hq
  have z5 := x.size
  replace E := E.trans x
  replace NV := NV.ext x
  replace LB11 := LB11.ext x
  clear x
  have TB13 : True := trivial
  have TG7 : True := trivial
  go_wp2_with (first | (clear TB13; refine allocsV rfl rfl ?_; intro B13 w13 bB13 cB13 XB13 LB13 RB13; have z6 := XB13.size; replace E := E.trans XB13; replace NV := NV.ext XB13; replace LB11 := LB11.ext XB13; replace NU := NU.ext XB13) | (clear TG7; have hRl := (RB13).lt (Nat.zero_lt_succ _); refine storesV (B := B13) rfl rfl rfl (v := u) rfl RB13 Fu ?_; clear LB13; intro s7 G7 LB13 RQ; have z8 := G7.size; replace E := grown_ext E G7 (by omega); replace NV := NV.grown G7 (by first | omega | (dsimp only [New]; omega)); replace LB11 := LB11.grown G7 (by omega); replace NU := NU.grown G7 (by first | omega | (dsimp only [New]; omega)); clear RB13; have RB13 := RQ; clear RQ hRl; clear RB13))
  refine (cta _ (HS.out.ext E)).mono ?_
  rintro e w53 ⟨P, cP, rfl, hq, x⟩
  have SP := SlS.all hq
  clear hq
  have z9 := x.size
  replace E := E.trans x
  replace NV := NV.ext x
  replace LB11 := LB11.ext x
  replace NU := NU.ext x
  replace LB13 := LB13.ext x
  clear x
  go_wp2_with fail
  refine (ctb _ (HS'.out.ext E)).mono ?_
  rintro e w58 ⟨Q, cQ, rfl, hq, x⟩
  have SQ := SlS.all hq
  clear hq
  have z10 := x.size
  replace E := E.trans x
  replace NV := NV.ext x
  replace LB11 := LB11.ext x
  replace NU := NU.ext x
  replace LB13 := LB13.ext x
  replace SP := SP.ext x
  clear x
  go_wp2_with (first | (refine loadsV (B := B11) (by rfl) rfl rfl LB11 ?_) | (refine loadsV (B := B13) (by rfl) rfl rfl LB13 ?_))
  clear LB11 LB13
  refine (cp v u _ _ _ NV.is NU.is).mono ?_
  rintro e w65 ⟨p, rfl, hq, x⟩
  have NP := hq.now
  have Fp := NP.is.flat
  clear hq
  have z11 := x.size
  replace E := E.trans x
  replace NV := NV.ext x
  replace NU := NU.ext x
  replace SP := SP.ext x
  replace SQ := SQ.ext x
  clear x
  have TB19 : True := trivial
  have TG13 : True := trivial
  go_wp2_with (first | (clear TB19; refine allocsV rfl rfl ?_; intro B19 w19 bB19 cB19 XB19 LB19 RB19; have z12 := XB19.size; replace E := E.trans XB19; replace NV := NV.ext XB19; replace NU := NU.ext XB19; replace SP := SP.ext XB19; replace SQ := SQ.ext XB19; replace NP := NP.ext XB19) | (clear TG13; have hRl := (RB19).lt (Nat.zero_lt_succ _); refine storesV (B := B19) rfl rfl rfl (v := p) rfl RB19 Fp ?_; clear LB19; intro s13 G13 LB19 RQ; have z14 := G13.size; replace E := grown_ext E G13 (by omega); replace NV := NV.grown G13 (by first | omega | (dsimp only [New]; omega)); replace NU := NU.grown G13 (by first | omega | (dsimp only [New]; omega)); replace SP := SP.grown G13 (by first | omega | (dsimp only [New]; omega)); replace SQ := SQ.grown G13 (by first | omega | (dsimp only [New]; omega)); replace NP := NP.grown G13 (by first | omega | (dsimp only [New]; omega)); clear RB19; have RB19 := RQ; clear RQ hRl; clear RB19))
  refine (cr P Q cP cQ _ SP.is SQ.is).mono ?_
  rintro e w72 ⟨R, cR, rfl, hq, x⟩
  have SR := SlS.all hq
  clear hq
  have z15 := x.size
  replace E := E.trans x
  replace NV := NV.ext x
  replace NU := NU.ext x
  replace SP := SP.ext x
  replace SQ := SQ.ext x
  replace NP := NP.ext x
  replace LB19 := LB19.ext x
  clear x
  go_wp2_with (refine loadsV (B := B19) (by rfl) rfl rfl LB19 ?_)
  refine (cn p _ _ NP.is).mono ?_
  rintro e w87 ⟨U, cU, rfl, hq, x⟩
  have SU := SlS.all hq
  clear hq
  have z16 := x.size
  replace E := E.trans x
  replace NV := NV.ext x
  replace NU := NU.ext x
  replace SP := SP.ext x
  replace SQ := SQ.ext x
  replace NP := NP.ext x
  replace LB19 := LB19.ext x
  replace SR := SR.ext x
  clear x
  go_wp2_with fail
  refine (cs U R cU cR _ SU.is SR.is).mono ?_
  rintro e w89 ⟨rfl, x⟩
  have z17 := x.size
  replace E := E.trans x
  replace NV := NV.ext x
  replace NU := NU.ext x
  replace SP := SP.ext x
  replace SQ := SQ.ext x
  replace NP := NP.ext x
  replace LB19 := LB19.ext x
  replace SR := SR.ext x
  replace SU := SU.ext x
  clear x
  go_wp2_with (refine loadgV (B := B19) (by rfl) rfl rfl LB19 ?_)
  refine (ck p _ NP.is).mono ?_
  rintro e w92 ⟨rfl, x⟩
  have z18 := x.size
  replace E := E.trans x
  replace NV := NV.ext x
  replace NU := NU.ext x
  replace SP := SP.ext x
  replace SQ := SQ.ext x
  replace NP := NP.ext x
  replace LB19 := LB19.ext x
  replace SR := SR.ext x
  replace SU := SU.ext x
  clear x
  go_wp2_with (refine loadgV (B := B19) (by rfl) rfl rfl LB19 ?_)
  clear LB19
  refine (ct p _ NP.is).mono ?_
  rintro e w97 ⟨rfl, x⟩
  have z19 := x.size
  replace E := E.trans x
  replace NV := NV.ext x
  replace NU := NU.ext x
  replace SP := SP.ext x
  replace SQ := SQ.ext x
  replace NP := NP.ext x
  replace SR := SR.ext x
  replace SU := SU.ext x
  clear x
  go_wp2_with fail
  refine (aawake_any _).mono ?_
  rintro e w100 ⟨rfl, x⟩
  have z20 := x.size
  replace E := E.trans x
  replace NV := NV.ext x
  replace NU := NU.ext x
  replace SP := SP.ext x
  replace SQ := SQ.ext x
  replace NP := NP.ext x
  replace SR := SR.ext x
  replace SU := SU.ext x
  clear x
  go_wp2_with fail
  go_ret
  exact ⟨rfl, E⟩
end
theorem arithApplies_walk (w : World) (f : Int) (_ : (Lit.int .i64 f).wf = true) (A : Option Addr) (a : List Nat) (c : Nat) (_ : a.length ≤ c) (_ : c ≤ maxLen) (hs : Sl w 1 A a.length (a.map fun x => .float .f64 x)) (hw : ∀ x ∈ a, (Lit.float .f64 x).wf = true) (B : Option Addr) (b : List Nat) (c' : Nat) (_ : b.length ≤ c') (_ : c' ≤ maxLen) (hs' : Sl w 1 B b.length (b.map fun x => .float .f64 x)) (hw' : ∀ x ∈ b, (Lit.float .f64 x).wf = true) (j : Int) (_ : (Lit.int .i64 j).wf = true) (k : Int) (_ : (Lit.int .i64 k).wf = true) :
    Calls Try.prog 9 #[.int .i64 f, .slice A a.length c, .slice B b.length c', .int .i64 j, .int .i64 k] w fun e w' => e = .returned (.bool true) ∧ Ext w w' := by
  have hwa : ∀ x ∈ a, x < 18446744073709551616 := fun x hx => by have := hw x hx; simpa [Lit.wf] using this
  have hwb : ∀ x ∈ b, x < 18446744073709551616 := fun x hx => by have := hw' x hx; simpa [Lit.wf] using this
  by_cases h3 : a.length ≤ 300
  · by_cases h4 : b.length ≤ 300
    · cases hfa : allF a
      · exact arithApplies_no1 w f A a a.length c B b b.length c' j k rfl rfl hwa hwb h3 h4 hs hs' hfa
      · cases hfb : allF b
        · exact arithApplies_no2 w f A a a.length c B b b.length c' j k rfl rfl hwa hwb h3 h4 hs hs' hfa hfb
        · by_cases hE : arE f (dnL a) (dnL b) = 0
          · exact arithApplies_ok w f A a a.length c B b b.length c' j k rfl rfl hwa hwb h3 h4 hs hs' hfa hfb hE
          · exact arithApplies_err w f A a a.length c B b b.length c' j k rfl rfl hwa hwb h3 h4 hs hs' hfa hfb hE
    · exact arithApplies_long2 w f A a.length c B b.length c' j k h3 (by omega)
  · exact arithApplies_long1 w f A a.length c B b.length c' j k (by omega)
end Go.Proofs.Ytidnikndjhfgaaa
