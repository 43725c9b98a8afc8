/- MonoApplies, MonoOthers. -/
import Derived.Test.YtidnikndjhfgaaaDoorUf
import Derived.Test.YtidnikndjhfgaaaDoorQq
namespace Go.Proofs.YtidnikndjhfgaaaDoor
open Go.ChangeShapes Go.WideShapes Go.RowKit Bv Fl
set_option maxHeartbeats 4000000
set_option maxRecDepth 100000
theorem tight_selfM (v : Value) (l : List Nat) (w : World) (h : IsNum w v (leastL l) l) : Calls Tryd.prog 19 #[v] w fun e w' => e = .returned (.bool true) ∧ Ext w w' := by
  refine (tight_num v (leastL l) l w h).mono ?_
  rintro e w' ⟨rfl, hx⟩
  exact ⟨by simp, hx⟩
section
variable (w : World) (ht : Tab w) (f : Int) (A : Option Addr) (a : List Nat) (n : Nat) (c : Nat) (K : Int)
include ht in
theorem monoApplies_long (h : 400 < n) : Calls Tryd.prog 4 #[.int .i64 f, .slice A n c, .int .i64 K] w fun e w' => e = .returned (.bool true) ∧ Ext w w' := by
  have cw := fun w' (h : Ext w w') => moawake_any w' (ht.ext h)
  clear ht
  have E := Ext.refl w
  go_enter Tryd.func4, Tryd.ntmps4
  go_wp2_with fail
  refine (cw _ E).mono ?_
  rintro e w20 ⟨rfl, x⟩
  have z1 := x.size
  replace E := E.trans x
  clear x
  go_wp2_with fail
  go_ret
  exact ⟨rfl, E⟩
include ht in
theorem monoApplies_no (hn : n = a.length) (_ : ∀ x ∈ a, x < 18446744073709551616) (h3 : n ≤ 400) (hs : Sl w 1 A n (f64s a)) (hfa : allF a = false) : Calls Tryd.prog 4 #[.int .i64 f, .slice A n c, .int .i64 K] w fun e w' => e = .returned (.bool true) ∧ Ext w w' := by
  have cw := fun w' (h : Ext w w') => moawake_any w' (ht.ext h)
  clear ht
  have cta := fun w hs => rtidyL_no A a n hn c w (by omega) hfa hs
  have cf := fun w hs => floats_no A a n hn hfa c w (by omega) hs
  have HS := Lib.hid hs
  clear hs hn hfa
  have E := Ext.refl w
  go_enter Tryd.func4, Tryd.ntmps4
  go_wp2_with fail
  refine (cta _ (HS.out.ext E)).mono ?_
  rintro e w23 ⟨P, rfl, x⟩
  have z1 := x.size
  replace E := E.trans x
  clear x
  go_wp2_with fail
  refine (cf _ (HS.out.ext E)).mono ?_
  rintro e w28 ⟨rfl, x⟩
  have z2 := x.size
  replace E := E.trans x
  clear x
  have TB9 : True := trivial
  have TG4 : True := trivial
  go_wp2_with (first | (clear TB9; refine allocsV rfl rfl ?_; intro B9 w9 bB9 cB9 XB9 LB9 RB9; have z3 := XB9.size; replace E := E.trans XB9; clear LB9) | (clear TG4; have hRl := (RB9).lt (Nat.zero_lt_succ _); refine storesV (B := B9) rfl rfl rfl (v := zeroVec) rfl RB9 zeroVec_flat ?_; intro s4 G4 LB9 RQ; have z5 := G4.size; replace E := grown_ext E G4 (by omega); clear RB9; have RB9 := RQ; clear RQ hRl; clear LB9 RB9))
  refine (cw _ E).mono ?_
  rintro e w33 ⟨rfl, x⟩
  have z6 := x.size
  replace E := E.trans x
  clear x
  go_wp2_with fail
  go_ret
  exact ⟨rfl, E⟩
include ht in
theorem monoApplies_err0 (hn : n = a.length) (hwa : ∀ x ∈ a, x < 18446744073709551616) (h3 : n ≤ 400) (hs : Sl w 1 A n (f64s a)) (hfa : allF a = true) (hfit : fitsL (dnL a) K = false) (hE : erM f (dnL a) ≠ 0) : Calls Tryd.prog 4 #[.int .i64 f, .slice A n c, .int .i64 K] w fun e w' => e = .returned (.bool true) ∧ Ext w w' := by
  have cw := fun w' (h : Ext w w') => moawake_any w' (ht.ext h)
  have cta := fun w hs => rtidyL_yes A a n hn c w (by omega) hfa hs
  have cf := fun w hs => floats_yes A a n hn hwa hfa c w (by omega) hs
  have la : n = (dnL a).length := by rw [dnL_length]; exact hn
  have tda : ∀ x ∈ dnL a, tidy x := dnL_tidy hwa
  have HS := Lib.hid hs
  clear hs hn hwa hfa
  generalize dnL a = X at *
  have cap : ∀ v J w', Ext w w' → IsNum w' v J X → Calls Tryd.prog 14 #[.int .i64 f, v] w' (MoU (erM f X) (resM f X) w') := fun v J w' hx hv => ma_u f v J X w' hv (ht.ext hx)
  have cra := fun P c w h1 => mrapp_u f P n c w X la tda (by omega) h1
  clear ht
  obtain ⟨z, hz⟩ : ∃ z, zeroVec = z := ⟨_, rfl⟩
  have hZ := zeroVec_flat
  have cp : ∀ v J w', Ext w w' → IsNum w' v J X → Calls Tryd.prog 14 #[.int .i64 f, v] w' fun e w2 => e = .returned (.tuple #[z, .int .i64 (erM f X)]) ∧ Ext w' w2 := fun v J w' hx hv => (cap v J w' hx hv).mono fun e w2 => by
    rintro ⟨p, rfl, h1, _, hx⟩
    exact ⟨by rw [h1 hE, hz], hx⟩
  have cr : ∀ P c w', Sl w' 1 P n (f64s X) → Calls Tryd.prog 15 #[.int .i64 f, .slice P n c] w' fun e w2 => ∃ R k cr, e = .returned (.tuple #[.slice R k cr, .int .i64 (erM f X)]) ∧ Ext w' w2 := fun P c w' h1 => (cra P c w' h1).mono fun e w2 => by
    rintro ⟨R, k, cr, rfl, _, hx⟩
    exact ⟨R, k, cr, rfl, hx⟩
  have e57 : (erM f X != 0) = true := by simpa using hE
  rw [hz] at hZ
  have kz := fun w => kind_zero z hz w
  clear cap cra la tda hE hz
  generalize erM f X = er at *
  have ci := fun v w h => into_no v 4 X K hfit w h
  clear hfit
  have E := Ext.refl w
  go_enter Tryd.func4, Tryd.ntmps4
  go_wp2_with fail
  refine (cta _ (HS.out.ext E)).mono ?_
  rintro e w23 ⟨P, cP, rfl, hq, x⟩
  have SP := SlS.all hq
  clear hq
  have z1 := x.size
  replace E := E.trans x
  clear x
  go_wp2_with fail
  refine (cf _ (HS.out.ext E)).mono ?_
  rintro e w28 ⟨v, rfl, hq, x⟩
  have NV := hq.now
  have Fv := NV.is.flat
  clear hq
  have z2 := x.size
  replace E := E.trans x
  replace SP := SP.ext x
  clear x
  have TB9 : True := trivial
  have TG4 : True := trivial
  go_wp2_with (first | (clear TB9; refine allocsV rfl rfl ?_; intro B9 w9 bB9 cB9 XB9 LB9 RB9; have z3 := XB9.size; replace E := E.trans XB9; replace SP := SP.ext XB9; replace NV := NV.ext XB9) | (clear TG4; have hRl := (RB9).lt (Nat.zero_lt_succ _); refine storesV (B := B9) rfl rfl rfl (v := v) rfl RB9 Fv ?_; clear LB9; intro s4 G4 LB9 RQ; have z5 := G4.size; replace E := grown_ext E G4 (by omega); replace SP := SP.grown G4 (by first | omega | (dsimp only [New]; omega)); replace NV := NV.grown G4 (by first | omega | (dsimp only [New]; omega)); clear RB9; have RB9 := RQ; clear RQ hRl; clear RB9) | (refine loadsV (B := B9) (by rfl) rfl rfl LB9 ?_))
  refine (ci v _ NV.is).mono ?_
  rintro e w37 ⟨rfl, x⟩
  have z6 := x.size
  replace E := E.trans x
  replace SP := SP.ext x
  replace NV := NV.ext x
  replace LB9 := LB9.ext x
  clear x
  have TB11 : True := trivial
  have TG8 : True := trivial
  go_wp2_with (first | (clear TB11; refine allocsV rfl rfl ?_; intro B11 w11 bB11 cB11 XB11 LB11 RB11; have z7 := XB11.size; replace E := E.trans XB11; replace SP := SP.ext XB11; replace NV := NV.ext XB11; replace LB9 := LB9.ext XB11; clear LB11) | (clear TG8; have hRl := (RB11).lt (Nat.zero_lt_succ _); refine storesV (B := B11) rfl rfl rfl (v := zeroVec) rfl RB11 zeroVec_flat ?_; intro s8 G8 LB11 RQ; have z9 := G8.size; replace E := grown_ext E G8 (by omega); replace SP := SP.grown G8 (by first | omega | (dsimp only [New]; omega)); replace NV := NV.grown G8 (by first | omega | (dsimp only [New]; omega)); replace LB9 := LB9.grown G8 (by omega); clear RB11; have RB11 := RQ; clear RQ hRl; clear LB11 RB11) | (refine loadsV (B := B9) (by rfl) rfl rfl LB9 ?_))
  clear LB9
  refine (cp v _ _ E NV.is).mono ?_
  rintro e w45 ⟨rfl, x⟩
  have z10 := x.size
  replace E := E.trans x
  replace SP := SP.ext x
  replace NV := NV.ext x
  clear x
  have TB13 : True := trivial
  have TG12 : True := trivial
  go_wp2_with (first | (clear TB13; refine allocsV rfl rfl ?_; intro B13 w13 bB13 cB13 XB13 LB13 RB13; have z11 := XB13.size; replace E := E.trans XB13; replace SP := SP.ext XB13; replace NV := NV.ext XB13) | (clear TG12; have hRl := (RB13).lt (Nat.zero_lt_succ _); refine storesV (B := B13) rfl rfl rfl (v := z) rfl RB13 hZ ?_; clear LB13; intro s12 G12 LB13 RQ; have z13 := G12.size; replace E := grown_ext E G12 (by omega); replace SP := SP.grown G12 (by first | omega | (dsimp only [New]; omega)); replace NV := NV.grown G12 (by first | omega | (dsimp only [New]; omega)); clear RB13; have RB13 := RQ; clear RQ hRl; clear RB13))
  refine (cr P cP _ SP.is).mono ?_
  rintro e w51 ⟨R, kR, cR, rfl, x⟩
  have z14 := x.size
  replace E := E.trans x
  replace SP := SP.ext x
  replace NV := NV.ext x
  replace LB13 := LB13.ext x
  clear x
  go_wp2_with (refine loadsV (B := B13) (by rfl) rfl rfl LB13 ?_)
  clear LB13
  refine (kz _).mono ?_
  rintro e w60 ⟨rfl, x⟩
  have z15 := x.size
  replace E := E.trans x
  replace SP := SP.ext x
  replace NV := NV.ext x
  clear x
  go_wp2_with fail
  refine (cw _ E).mono ?_
  rintro e w63 ⟨rfl, x⟩
  have z16 := x.size
  replace E := E.trans x
  replace SP := SP.ext x
  replace NV := NV.ext x
  clear x
  go_wp2_with fail
  go_ret
  exact ⟨rfl, E⟩
include ht in
theorem monoApplies_ok0 (hn : n = a.length) (hwa : ∀ x ∈ a, x < 18446744073709551616) (h3 : n ≤ 400) (hs : Sl w 1 A n (f64s a)) (hfa : allF a = true) (hfit : fitsL (dnL a) K = false) (hE : erM f (dnL a) = 0) : Calls Tryd.prog 4 #[.int .i64 f, .slice A n c, .int .i64 K] w fun e w' => e = .returned (.bool true) ∧ Ext w w' := by
  have cw := fun w' (h : Ext w w') => moawake_any w' (ht.ext h)
  have cta := fun w hs => rtidyL_yes A a n hn c w (by omega) hfa hs
  have cf := fun w hs => floats_yes A a n hn hwa hfa c w (by omega) hs
  have la : n = (dnL a).length := by rw [dnL_length]; exact hn
  have tda : ∀ x ∈ dnL a, tidy x := dnL_tidy hwa
  have HS := Lib.hid hs
  clear hs hn hwa hfa
  generalize dnL a = X at *
  have cap : ∀ v J w', Ext w w' → IsNum w' v J X → Calls Tryd.prog 14 #[.int .i64 f, v] w' (MoU (erM f X) (resM f X) w') := fun v J w' hx hv => ma_u f v J X w' hv (ht.ext hx)
  have cra := fun P c w h1 => mrapp_u f P n c w X la tda (by omega) h1
  clear ht
  obtain ⟨m0, hm0⟩ : ∃ m0, m0 = (resM f X).length := ⟨_, rfl⟩
  have hmn : m0 = n := by rw [hm0, resM_length]; exact la.symm
  have hm00 : m0 ≤ 1048576 := by omega
  have htl : ∀ i ∈ resM f X, tidy i := resM_tidy f tda
  have cp : ∀ v J w', Ext w w' → IsNum w' v J X → Calls Tryd.prog 14 #[.int .i64 f, v] w' fun e w2 => ∃ p, e = .returned (.tuple #[p, .int .i64 0]) ∧ IsNum w2 p (leastL (resM f X)) (resM f X) ∧ Ext w' w2 := fun v J w' hx hv => (cap v J w' hx hv).mono fun e w2 => by
    rintro ⟨p, rfl, _, h1, hx⟩
    exact ⟨p, by rw [hE], h1 hE, hx⟩
  have cr : ∀ P c w', Sl w' 1 P n (f64s X) → Calls Tryd.prog 15 #[.int .i64 f, .slice P n c] w' fun e w2 => ∃ R cr, e = .returned (.tuple #[.slice R m0 cr, .int .i64 0]) ∧ Sl w2 1 R m0 (f64s (resM f X)) ∧ Ext w' w2 := fun P c w' h1 => (cra P c w' h1).mono fun e w2 => by
    rintro ⟨R, k, cr, rfl, h, hx⟩
    obtain ⟨hk, hS⟩ := h hE
    rw [← hmn] at hk
    subst hk
    exact ⟨R, cr, by rw [hE], hS, hx⟩
  have cn := fun p K w h => nnums_sl p K (resM f X) m0 hm0 w h
  have cs := fun P Q c c' w h h' => same_yes P Q (resM f X) m0 c c' hm0 w hm00 htl h h'
  have ct := fun p w h => tight_selfM p (resM f X) w h
  have ck := fun p w h => nkind_any p (leastL (resM f X)) (resM f X) w h
  have hkp : (0 : Int) < (leastL (resM f X) : Int) := by have := leastL_ge (resM f X); omega
  clear cap cra la tda hE hm0 hm00 htl hmn
  generalize resM f X = L at *
  generalize leastL L = kL at *
  generalize hki : (kL : Int) = kI at ck hkp
  have e72 : decide ((0 : Int) < kI) = true := decide_eq_true hkp
  clear hki
  have ci := fun v w h => into_no v 4 X K hfit w h
  clear hfit
  have E := Ext.refl w
  go_enter Tryd.func4, Tryd.ntmps4
  go_wp2_with fail
  refine (cta _ (HS.out.ext E)).mono ?_
  rintro e w23 ⟨P, cP, rfl, hq, x⟩
  have SP := SlS.all hq
  clear hq
  have z1 := x.size
  replace E := E.trans x
  clear x
  go_wp2_with fail
  refine (cf _ (HS.out.ext E)).mono ?_
  rintro e w28 ⟨v, rfl, hq, x⟩
  have NV := hq.now
  have Fv := NV.is.flat
  clear hq
  have z2 := x.size
  replace E := E.trans x
  replace SP := SP.ext x
  clear x
  have TB9 : True := trivial
  have TG4 : True := trivial
  go_wp2_with (first | (clear TB9; refine allocsV rfl rfl ?_; intro B9 w9 bB9 cB9 XB9 LB9 RB9; have z3 := XB9.size; replace E := E.trans XB9; replace SP := SP.ext XB9; replace NV := NV.ext XB9) | (clear TG4; have hRl := (RB9).lt (Nat.zero_lt_succ _); refine storesV (B := B9) rfl rfl rfl (v := v) rfl RB9 Fv ?_; clear LB9; intro s4 G4 LB9 RQ; have z5 := G4.size; replace E := grown_ext E G4 (by omega); replace SP := SP.grown G4 (by first | omega | (dsimp only [New]; omega)); replace NV := NV.grown G4 (by first | omega | (dsimp only [New]; omega)); clear RB9; have RB9 := RQ; clear RQ hRl; clear RB9) | (refine loadsV (B := B9) (by rfl) rfl rfl LB9 ?_))
  refine (ci v _ NV.is).mono ?_
  rintro e w37 ⟨rfl, x⟩
  have z6 := x.size
  replace E := E.trans x
  replace SP := SP.ext x
  replace NV := NV.ext x
  replace LB9 := LB9.ext x
  clear x
  have TB11 : True := trivial
  have TG8 : True := trivial
  go_wp2_with (first | (clear TB11; refine allocsV rfl rfl ?_; intro B11 w11 bB11 cB11 XB11 LB11 RB11; have z7 := XB11.size; replace E := E.trans XB11; replace SP := SP.ext XB11; replace NV := NV.ext XB11; replace LB9 := LB9.ext XB11; clear LB11) | (clear TG8; have hRl := (RB11).lt (Nat.zero_lt_succ _); refine storesV (B := B11) rfl rfl rfl (v := zeroVec) rfl RB11 zeroVec_flat ?_; intro s8 G8 LB11 RQ; have z9 := G8.size; replace E := grown_ext E G8 (by omega); replace SP := SP.grown G8 (by first | omega | (dsimp only [New]; omega)); replace NV := NV.grown G8 (by first | omega | (dsimp only [New]; omega)); replace LB9 := LB9.grown G8 (by omega); clear RB11; have RB11 := RQ; clear RQ hRl; clear LB11 RB11) | (refine loadsV (B := B9) (by rfl) rfl rfl LB9 ?_))
  clear LB9
  refine (cp v _ _ E NV.is).mono ?_
  rintro e w45 ⟨p, rfl, hq, x⟩
  have NP := NumS.all hq
  have Fp := NP.is.flat
  clear hq
  have z10 := x.size
  replace E := E.trans x
  replace SP := SP.ext x
  replace NV := NV.ext x
  clear x
  have TB13 : True := trivial
  have TG12 : True := trivial
  go_wp2_with (first | (clear TB13; refine allocsV rfl rfl ?_; intro B13 w13 bB13 cB13 XB13 LB13 RB13; have z11 := XB13.size; replace E := E.trans XB13; replace SP := SP.ext XB13; replace NV := NV.ext XB13; replace NP := NP.ext XB13) | (clear TG12; have hRl := (RB13).lt (Nat.zero_lt_succ _); refine storesV (B := B13) rfl rfl rfl (v := p) rfl RB13 Fp ?_; clear LB13; intro s12 G12 LB13 RQ; have z13 := G12.size; replace E := grown_ext E G12 (by omega); replace SP := SP.grown G12 (by first | omega | (dsimp only [New]; omega)); replace NV := NV.grown G12 (by first | omega | (dsimp only [New]; omega)); replace NP := NP.grown G12 (by first | omega | (dsimp only [New]; omega)); clear RB13; have RB13 := RQ; clear RQ hRl; clear RB13))
  refine (cr P cP _ SP.is).mono ?_
  rintro e w51 ⟨R, cR, rfl, hq, x⟩
  have SR := SlS.all hq
  clear hq
  have z14 := x.size
  replace E := E.trans x
  replace SP := SP.ext x
  replace NV := NV.ext x
  replace NP := NP.ext x
  replace LB13 := LB13.ext x
  clear x
  go_wp2_with (refine loadsV (B := B13) (by rfl) rfl rfl LB13 ?_)
  refine (cn p _ _ NP.is).mono ?_
  rintro e w66 ⟨U, cU, rfl, hq, x⟩
  have SU := SlS.all hq
  clear hq
  have z15 := x.size
  replace E := E.trans x
  replace SP := SP.ext x
  replace NV := NV.ext x
  replace NP := NP.ext x
  replace LB13 := LB13.ext x
  replace SR := SR.ext x
  clear x
  go_wp2_with fail
  refine (cs U R cU cR _ SU.is SR.is).mono ?_
  rintro e w68 ⟨rfl, x⟩
  have z16 := x.size
  replace E := E.trans x
  replace SP := SP.ext x
  replace NV := NV.ext x
  replace NP := NP.ext x
  replace LB13 := LB13.ext x
  replace SR := SR.ext x
  replace SU := SU.ext x
  clear x
  go_wp2_with (refine loadgV (B := B13) (by rfl) rfl rfl LB13 ?_)
  refine (ck p _ NP.is).mono ?_
  rintro e w71 ⟨rfl, x⟩
  have z17 := x.size
  replace E := E.trans x
  replace SP := SP.ext x
  replace NV := NV.ext x
  replace NP := NP.ext x
  replace LB13 := LB13.ext x
  replace SR := SR.ext x
  replace SU := SU.ext x
  clear x
  go_wp2_with (refine loadgV (B := B13) (by rfl) rfl rfl LB13 ?_)
  clear LB13
  refine (ct p _ NP.is).mono ?_
  rintro e w76 ⟨rfl, x⟩
  have z18 := x.size
  replace E := E.trans x
  replace SP := SP.ext x
  replace NV := NV.ext x
  replace NP := NP.ext x
  replace SR := SR.ext x
  replace SU := SU.ext x
  clear x
  go_wp2_with fail
  refine (cw _ E).mono ?_
  rintro e w79 ⟨rfl, x⟩
  have z19 := x.size
  replace E := E.trans x
  replace SP := SP.ext x
  replace NV := NV.ext x
  replace NP := NP.ext x
  replace SR := SR.ext x
  replace SU := SU.ext x
  clear x
  go_wp2_with fail
  go_ret
  exact ⟨rfl, E⟩
include ht in
theorem monoApplies_err1 (hn : n = a.length) (hwa : ∀ x ∈ a, x < 18446744073709551616) (h3 : n ≤ 400) (hs : Sl w 1 A n (f64s a)) (hfa : allF a = true) (hfit : fitsL (dnL a) K = true) (hE : erM f (dnL a) ≠ 0) : Calls Tryd.prog 4 #[.int .i64 f, .slice A n c, .int .i64 K] w fun e w' => e = .returned (.bool true) ∧ Ext w w' := by
  have cw := fun w' (h : Ext w w') => moawake_any w' (ht.ext h)
  have cta := fun w hs => rtidyL_yes A a n hn c w (by omega) hfa hs
  have cf := fun w hs => floats_yes A a n hn hwa hfa c w (by omega) hs
  have la : n = (dnL a).length := by rw [dnL_length]; exact hn
  have tda : ∀ x ∈ dnL a, tidy x := dnL_tidy hwa
  have HS := Lib.hid hs
  clear hs hn hwa hfa
  generalize dnL a = X at *
  have cap : ∀ v J w', Ext w w' → IsNum w' v J X → Calls Tryd.prog 14 #[.int .i64 f, v] w' (MoU (erM f X) (resM f X) w') := fun v J w' hx hv => ma_u f v J X w' hv (ht.ext hx)
  have cra := fun P c w h1 => mrapp_u f P n c w X la tda (by omega) h1
  clear ht
  obtain ⟨z, hz⟩ : ∃ z, zeroVec = z := ⟨_, rfl⟩
  have hZ := zeroVec_flat
  have cp : ∀ v J w', Ext w w' → IsNum w' v J X → Calls Tryd.prog 14 #[.int .i64 f, v] w' fun e w2 => e = .returned (.tuple #[z, .int .i64 (erM f X)]) ∧ Ext w' w2 := fun v J w' hx hv => (cap v J w' hx hv).mono fun e w2 => by
    rintro ⟨p, rfl, h1, _, hx⟩
    exact ⟨by rw [h1 hE, hz], hx⟩
  have cr : ∀ P c w', Sl w' 1 P n (f64s X) → Calls Tryd.prog 15 #[.int .i64 f, .slice P n c] w' fun e w2 => ∃ R k cr, e = .returned (.tuple #[.slice R k cr, .int .i64 (erM f X)]) ∧ Ext w' w2 := fun P c w' h1 => (cra P c w' h1).mono fun e w2 => by
    rintro ⟨R, k, cr, rfl, _, hx⟩
    exact ⟨R, k, cr, rfl, hx⟩
  have e57 : (erM f X != 0) = true := by simpa using hE
  rw [hz] at hZ
  have kz := fun w => kind_zero z hz w
  clear cap cra la tda hE hz
  generalize erM f X = er at *
  obtain ⟨k, rfl⟩ : ∃ k : Nat, K = k := by
    have := of_decide_eq_true hfit
    have := leastL_ge X
    exact ⟨K.toNat, by omega⟩
  have ci := fun v w h => into_yes v 4 X k hfit w h
  clear hfit
  have E := Ext.refl w
  go_enter Tryd.func4, Tryd.ntmps4
  go_wp2_with fail
  refine (cta _ (HS.out.ext E)).mono ?_
  rintro e w23 ⟨P, cP, rfl, hq, x⟩
  have SP := SlS.all hq
  clear hq
  have z1 := x.size
  replace E := E.trans x
  clear x
  go_wp2_with fail
  refine (cf _ (HS.out.ext E)).mono ?_
  rintro e w28 ⟨v, rfl, hq, x⟩
  have NV := hq.now
  have Fv := NV.is.flat
  clear hq
  have z2 := x.size
  replace E := E.trans x
  replace SP := SP.ext x
  clear x
  have TB9 : True := trivial
  have TG4 : True := trivial
  go_wp2_with (first | (clear TB9; refine allocsV rfl rfl ?_; intro B9 w9 bB9 cB9 XB9 LB9 RB9; have z3 := XB9.size; replace E := E.trans XB9; replace SP := SP.ext XB9; replace NV := NV.ext XB9) | (clear TG4; have hRl := (RB9).lt (Nat.zero_lt_succ _); refine storesV (B := B9) rfl rfl rfl (v := v) rfl RB9 Fv ?_; clear LB9; intro s4 G4 LB9 RQ; have z5 := G4.size; replace E := grown_ext E G4 (by omega); replace SP := SP.grown G4 (by first | omega | (dsimp only [New]; omega)); replace NV := NV.grown G4 (by first | omega | (dsimp only [New]; omega)); clear RB9; have RB9 := RQ; clear RQ hRl) | (refine loadsV (B := B9) (by rfl) rfl rfl LB9 ?_))
  refine (ci v _ NV.is).mono ?_
  rintro e w37 ⟨v2, rfl, hq, x⟩
  have NV2 := (hq _ NV).now
  have Fv2 := NV2.is.flat
  clear hq
  have z6 := x.size
  replace E := E.trans x
  replace SP := SP.ext x
  replace NV := NV.ext x
  replace LB9 := LB9.ext x
  replace RB9 := RB9.ext x
  clear x
  have TB11 : True := trivial
  have TG8 : True := trivial
  have TG10 : True := trivial
  go_wp2_with (first | (clear TB11; refine allocsV rfl rfl ?_; intro B11 w11 bB11 cB11 XB11 LB11 RB11; have z7 := XB11.size; replace E := E.trans XB11; replace SP := SP.ext XB11; replace NV := NV.ext XB11; replace LB9 := LB9.ext XB11; replace RB9 := RB9.ext XB11; replace NV2 := NV2.ext XB11) | (clear TG8; have hRl := (RB11).lt (Nat.zero_lt_succ _); refine storesV (B := B11) rfl rfl rfl (v := v2) rfl RB11 Fv2 ?_; clear LB11; intro s8 G8 LB11 RQ; have z9 := G8.size; replace E := grown_ext E G8 (by omega); replace SP := SP.grown G8 (by first | omega | (dsimp only [New]; omega)); replace NV := NV.grown G8 (by first | omega | (dsimp only [New]; omega)); replace LB9 := LB9.grown G8 (by omega); replace RB9 := RB9.grown G8 (by omega); replace NV2 := NV2.grown G8 (by first | omega | (dsimp only [New]; omega)); clear RB11; have RB11 := RQ; clear RQ hRl; clear RB11) | (refine loadsV (B := B11) (by rfl) rfl rfl LB11 ?_) | (clear TG10; have hRl := (RB9).lt (Nat.zero_lt_succ _); refine storesV (B := B9) rfl rfl rfl (v := v2) rfl RB9 Fv2 ?_; clear LB9; intro s10 G10 LB9 RQ; have z11 := G10.size; replace E := grown_ext E G10 (by omega); replace SP := SP.grown G10 (by first | omega | (dsimp only [New]; omega)); replace NV := NV.grown G10 (by first | omega | (dsimp only [New]; omega)); replace NV2 := NV2.grown G10 (by first | omega | (dsimp only [New]; omega)); replace LB11 := LB11.grown G10 (by omega); clear RB9; have RB9 := RQ; clear RQ hRl; clear RB9) | (refine loadsV (B := B9) (by rfl) rfl rfl LB9 ?_))
  clear LB9 LB11
  refine (cp v2 _ _ E NV2.is).mono ?_
  rintro e w45 ⟨rfl, x⟩
  have z12 := x.size
  replace E := E.trans x
  replace SP := SP.ext x
  replace NV := NV.ext x
  replace NV2 := NV2.ext x
  clear x
  have TB13 : True := trivial
  have TG14 : True := trivial
  go_wp2_with (first | (clear TB13; refine allocsV rfl rfl ?_; intro B13 w13 bB13 cB13 XB13 LB13 RB13; have z13 := XB13.size; replace E := E.trans XB13; replace SP := SP.ext XB13; replace NV := NV.ext XB13; replace NV2 := NV2.ext XB13) | (clear TG14; have hRl := (RB13).lt (Nat.zero_lt_succ _); refine storesV (B := B13) rfl rfl rfl (v := z) rfl RB13 hZ ?_; clear LB13; intro s14 G14 LB13 RQ; have z15 := G14.size; replace E := grown_ext E G14 (by omega); replace SP := SP.grown G14 (by first | omega | (dsimp only [New]; omega)); replace NV := NV.grown G14 (by first | omega | (dsimp only [New]; omega)); replace NV2 := NV2.grown G14 (by first | omega | (dsimp only [New]; omega)); clear RB13; have RB13 := RQ; clear RQ hRl; clear RB13))
  refine (cr P cP _ SP.is).mono ?_
  rintro e w51 ⟨R, kR, cR, rfl, x⟩
  have z16 := x.size
  replace E := E.trans x
  replace SP := SP.ext x
  replace NV := NV.ext x
  replace NV2 := NV2.ext x
  replace LB13 := LB13.ext x
  clear x
  go_wp2_with (refine loadsV (B := B13) (by rfl) rfl rfl LB13 ?_)
  clear LB13
  refine (kz _).mono ?_
  rintro e w60 ⟨rfl, x⟩
  have z17 := x.size
  replace E := E.trans x
  replace SP := SP.ext x
  replace NV := NV.ext x
  replace NV2 := NV2.ext x
  clear x
  go_wp2_with fail
  refine (cw _ E).mono ?_
  rintro e w63 ⟨rfl, x⟩
  have z18 := x.size
  replace E := E.trans x
  replace SP := SP.ext x
  replace NV := NV.ext x
  replace NV2 := NV2.ext x
  clear x
  go_wp2_with fail
  go_ret
  exact ⟨rfl, E⟩
include ht in
theorem monoApplies_ok1 (hn : n = a.length) (hwa : ∀ x ∈ a, x < 18446744073709551616) (h3 : n ≤ 400) (hs : Sl w 1 A n (f64s a)) (hfa : allF a = true) (hfit : fitsL (dnL a) K = true) (hE : erM f (dnL a) = 0) : Calls Tryd.prog 4 #[.int .i64 f, .slice A n c, .int .i64 K] w fun e w' => e = .returned (.bool true) ∧ Ext w w' := by
  have cw := fun w' (h : Ext w w') => moawake_any w' (ht.ext h)
  have cta := fun w hs => rtidyL_yes A a n hn c w (by omega) hfa hs
  have cf := fun w hs => floats_yes A a n hn hwa hfa c w (by omega) hs
  have la : n = (dnL a).length := by rw [dnL_length]; exact hn
  have tda : ∀ x ∈ dnL a, tidy x := dnL_tidy hwa
  have HS := Lib.hid hs
  clear hs hn hwa hfa
  generalize dnL a = X at *
  have cap : ∀ v J w', Ext w w' → IsNum w' v J X → Calls Tryd.prog 14 #[.int .i64 f, v] w' (MoU (erM f X) (resM f X) w') := fun v J w' hx hv => ma_u f v J X w' hv (ht.ext hx)
  have cra := fun P c w h1 => mrapp_u f P n c w X la tda (by omega) h1
  clear ht
  obtain ⟨m0, hm0⟩ : ∃ m0, m0 = (resM f X).length := ⟨_, rfl⟩
  have hmn : m0 = n := by rw [hm0, resM_length]; exact la.symm
  have hm00 : m0 ≤ 1048576 := by omega
  have htl : ∀ i ∈ resM f X, tidy i := resM_tidy f tda
  have cp : ∀ v J w', Ext w w' → IsNum w' v J X → Calls Tryd.prog 14 #[.int .i64 f, v] w' fun e w2 => ∃ p, e = .returned (.tuple #[p, .int .i64 0]) ∧ IsNum w2 p (leastL (resM f X)) (resM f X) ∧ Ext w' w2 := fun v J w' hx hv => (cap v J w' hx hv).mono fun e w2 => by
    rintro ⟨p, rfl, _, h1, hx⟩
    exact ⟨p, by rw [hE], h1 hE, hx⟩
  have cr : ∀ P c w', Sl w' 1 P n (f64s X) → Calls Tryd.prog 15 #[.int .i64 f, .slice P n c] w' fun e w2 => ∃ R cr, e = .returned (.tuple #[.slice R m0 cr, .int .i64 0]) ∧ Sl w2 1 R m0 (f64s (resM f X)) ∧ Ext w' w2 := fun P c w' h1 => (cra P c w' h1).mono fun e w2 => by
    rintro ⟨R, k, cr, rfl, h, hx⟩
    obtain ⟨hk, hS⟩ := h hE
    rw [← hmn] at hk
    subst hk
    exact ⟨R, cr, by rw [hE], hS, hx⟩
  have cn := fun p K w h => nnums_sl p K (resM f X) m0 hm0 w h
  have cs := fun P Q c c' w h h' => same_yes P Q (resM f X) m0 c c' hm0 w hm00 htl h h'
  have ct := fun p w h => tight_selfM p (resM f X) w h
  have ck := fun p w h => nkind_any p (leastL (resM f X)) (resM f X) w h
  have hkp : (0 : Int) < (leastL (resM f X) : Int) := by have := leastL_ge (resM f X); omega
  clear cap cra la tda hE hm0 hm00 htl hmn
  generalize resM f X = L at *
  generalize leastL L = kL at *
  generalize hki : (kL : Int) = kI at ck hkp
  have e72 : decide ((0 : Int) < kI) = true := decide_eq_true hkp
  clear hki
  obtain ⟨k, rfl⟩ : ∃ k : Nat, K = k := by
    have := of_decide_eq_true hfit
    have := leastL_ge X
    exact ⟨K.toNat, by omega⟩
  have ci := fun v w h => into_yes v 4 X k hfit w h
  clear hfit
  have E := Ext.refl w
  go_enter Tryd.func4, Tryd.ntmps4
  go_wp2_with fail
  refine (cta _ (HS.out.ext E)).mono ?_
  rintro e w23 ⟨P, cP, rfl, hq, x⟩
  have SP := SlS.all hq
  clear hq
  have z1 := x.size
  replace E := E.trans x
  clear x
  go_wp2_with fail
  refine (cf _ (HS.out.ext E)).mono ?_
  rintro e w28 ⟨v, rfl, hq, x⟩
  have NV := hq.now
  have Fv := NV.is.flat
  clear hq
  have z2 := x.size
  replace E := E.trans x
  replace SP := SP.ext x
  clear x
  have TB9 : True := trivial
  have TG4 : True := trivial
  go_wp2_with (first | (clear TB9; refine allocsV rfl rfl ?_; intro B9 w9 bB9 cB9 XB9 LB9 RB9; have z3 := XB9.size; replace E := E.trans XB9; replace SP := SP.ext XB9; replace NV := NV.ext XB9) | (clear TG4; have hRl := (RB9).lt (Nat.zero_lt_succ _); refine storesV (B := B9) rfl rfl rfl (v := v) rfl RB9 Fv ?_; clear LB9; intro s4 G4 LB9 RQ; have z5 := G4.size; replace E := grown_ext E G4 (by omega); replace SP := SP.grown G4 (by first | omega | (dsimp only [New]; omega)); replace NV := NV.grown G4 (by first | omega | (dsimp only [New]; omega)); clear RB9; have RB9 := RQ; clear RQ hRl) | (refine loadsV (B := B9) (by rfl) rfl rfl LB9 ?_))
  refine (ci v _ NV.is).mono ?_
  rintro e w37 ⟨v2, rfl, hq, x⟩
  have NV2 := (hq _ NV).now
  have Fv2 := NV2.is.flat
  clear hq
  have z6 := x.size
  replace E := E.trans x
  replace SP := SP.ext x
  replace NV := NV.ext x
  replace LB9 := LB9.ext x
  replace RB9 := RB9.ext x
  clear x
  have TB11 : True := trivial
  have TG8 : True := trivial
  have TG10 : True := trivial
  go_wp2_with (first | (clear TB11; refine allocsV rfl rfl ?_; intro B11 w11 bB11 cB11 XB11 LB11 RB11; have z7 := XB11.size; replace E := E.trans XB11; replace SP := SP.ext XB11; replace NV := NV.ext XB11; replace LB9 := LB9.ext XB11; replace RB9 := RB9.ext XB11; replace NV2 := NV2.ext XB11) | (clear TG8; have hRl := (RB11).lt (Nat.zero_lt_succ _); refine storesV (B := B11) rfl rfl rfl (v := v2) rfl RB11 Fv2 ?_; clear LB11; intro s8 G8 LB11 RQ; have z9 := G8.size; replace E := grown_ext E G8 (by omega); replace SP := SP.grown G8 (by first | omega | (dsimp only [New]; omega)); replace NV := NV.grown G8 (by first | omega | (dsimp only [New]; omega)); replace LB9 := LB9.grown G8 (by omega); replace RB9 := RB9.grown G8 (by omega); replace NV2 := NV2.grown G8 (by first | omega | (dsimp only [New]; omega)); clear RB11; have RB11 := RQ; clear RQ hRl; clear RB11) | (refine loadsV (B := B11) (by rfl) rfl rfl LB11 ?_) | (clear TG10; have hRl := (RB9).lt (Nat.zero_lt_succ _); refine storesV (B := B9) rfl rfl rfl (v := v2) rfl RB9 Fv2 ?_; clear LB9; intro s10 G10 LB9 RQ; have z11 := G10.size; replace E := grown_ext E G10 (by omega); replace SP := SP.grown G10 (by first | omega | (dsimp only [New]; omega)); replace NV := NV.grown G10 (by first | omega | (dsimp only [New]; omega)); replace NV2 := NV2.grown G10 (by first | omega | (dsimp only [New]; omega)); replace LB11 := LB11.grown G10 (by omega); clear RB9; have RB9 := RQ; clear RQ hRl; clear RB9) | (refine loadsV (B := B9) (by rfl) rfl rfl LB9 ?_))
  clear LB9 LB11
  refine (cp v2 _ _ E NV2.is).mono ?_
  rintro e w45 ⟨p, rfl, hq, x⟩
  have NP := NumS.all hq
  have Fp := NP.is.flat
  clear hq
  have z12 := x.size
  replace E := E.trans x
  replace SP := SP.ext x
  replace NV := NV.ext x
  replace NV2 := NV2.ext x
  clear x
  have TB13 : True := trivial
  have TG14 : True := trivial
  go_wp2_with (first | (clear TB13; refine allocsV rfl rfl ?_; intro B13 w13 bB13 cB13 XB13 LB13 RB13; have z13 := XB13.size; replace E := E.trans XB13; replace SP := SP.ext XB13; replace NV := NV.ext XB13; replace NV2 := NV2.ext XB13; replace NP := NP.ext XB13) | (clear TG14; have hRl := (RB13).lt (Nat.zero_lt_succ _); refine storesV (B := B13) rfl rfl rfl (v := p) rfl RB13 Fp ?_; clear LB13; intro s14 G14 LB13 RQ; have z15 := G14.size; replace E := grown_ext E G14 (by omega); replace SP := SP.grown G14 (by first | omega | (dsimp only [New]; omega)); replace NV := NV.grown G14 (by first | omega | (dsimp only [New]; omega)); replace NV2 := NV2.grown G14 (by first | omega | (dsimp only [New]; omega)); replace NP := NP.grown G14 (by first | omega | (dsimp only [New]; omega)); clear RB13; have RB13 := RQ; clear RQ hRl; clear RB13))
  refine (cr P cP _ SP.is).mono ?_
  rintro e w51 ⟨R, cR, rfl, hq, x⟩
  have SR := SlS.all hq
  clear hq
  have z16 := x.size
  replace E := E.trans x
  replace SP := SP.ext x
  replace NV := NV.ext x
  replace NV2 := NV2.ext x
  replace NP := NP.ext x
  replace LB13 := LB13.ext x
  clear x
  go_wp2_with (refine loadsV (B := B13) (by rfl) rfl rfl LB13 ?_)
  refine (cn p _ _ NP.is).mono ?_
  rintro e w66 ⟨U, cU, rfl, hq, x⟩
  have SU := SlS.all hq
  clear hq
  have z17 := x.size
  replace E := E.trans x
  replace SP := SP.ext x
  replace NV := NV.ext x
  replace NV2 := NV2.ext x
  replace NP := NP.ext x
  replace LB13 := LB13.ext x
  replace SR := SR.ext x
  clear x
  go_wp2_with fail
  refine (cs U R cU cR _ SU.is SR.is).mono ?_
  rintro e w68 ⟨rfl, x⟩
  have z18 := x.size
  replace E := E.trans x
  replace SP := SP.ext x
  replace NV := NV.ext x
  replace NV2 := NV2.ext x
  replace NP := NP.ext x
  replace LB13 := LB13.ext x
  replace SR := SR.ext x
  replace SU := SU.ext x
  clear x
  go_wp2_with (refine loadgV (B := B13) (by rfl) rfl rfl LB13 ?_)
  refine (ck p _ NP.is).mono ?_
  rintro e w71 ⟨rfl, x⟩
  have z19 := x.size
  replace E := E.trans x
  replace SP := SP.ext x
  replace NV := NV.ext x
  replace NV2 := NV2.ext x
  replace NP := NP.ext x
  replace LB13 := LB13.ext x
  replace SR := SR.ext x
  replace SU := SU.ext x
  clear x
  go_wp2_with (refine loadgV (B := B13) (by rfl) rfl rfl LB13 ?_)
  clear LB13
  refine (ct p _ NP.is).mono ?_
  rintro e w76 ⟨rfl, x⟩
  have z20 := x.size
  replace E := E.trans x
  replace SP := SP.ext x
  replace NV := NV.ext x
  replace NV2 := NV2.ext x
  replace NP := NP.ext x
  replace SR := SR.ext x
  replace SU := SU.ext x
  clear x
  go_wp2_with fail
  refine (cw _ E).mono ?_
  rintro e w79 ⟨rfl, x⟩
  have z21 := x.size
  replace E := E.trans x
  replace SP := SP.ext x
  replace NV := NV.ext x
  replace NV2 := NV2.ext x
  replace NP := NP.ext x
  replace SR := SR.ext x
  replace SU := SU.ext x
  clear x
  go_wp2_with fail
  go_ret
  exact ⟨rfl, E⟩
end
theorem monoApplies_walk (w : World) (ht : Tab w) (f : Int) (_ : (Lit.int .i64 f).wf = true) (A : Option Addr) (a : List Nat) (c : Nat) (_ : a.length ≤ c) (_ : c ≤ maxLen) (hs : Sl w 1 A a.length (a.map fun x => .float .f64 x)) (hw : ∀ x ∈ a, (Lit.float .f64 x).wf = true) (K : Int) (_ : (Lit.int .i64 K).wf = true) :
    Calls Tryd.prog 4 #[.int .i64 f, .slice A a.length c, .int .i64 K] w fun e w' => e = .returned (.bool true) ∧ Ext w w' := by
  have hwa : ∀ x ∈ a, x < 18446744073709551616 := fun x hx => by have := hw x hx; simpa [Lit.wf] using this
  by_cases h3 : a.length ≤ 400
  · cases hfa : allF a
    · exact monoApplies_no w ht f A a a.length c K rfl hwa h3 hs hfa
    · cases hfit : fitsL (dnL a) K
      · by_cases hE : erM f (dnL a) = 0
        · exact monoApplies_ok0 w ht f A a a.length c K rfl hwa h3 hs hfa hfit hE
        · exact monoApplies_err0 w ht f A a a.length c K rfl hwa h3 hs hfa hfit hE
      · by_cases hE : erM f (dnL a) = 0
        · exact monoApplies_ok1 w ht f A a a.length c K rfl hwa h3 hs hfa hfit hE
        · exact monoApplies_err1 w ht f A a a.length c K rfl hwa h3 hs hfa hfit hE
  · exact monoApplies_long w ht f A a.length c K (by omega)
theorem chars_vM (A : Option Addr) (l : List Int) (n : Nat) (hn : n = l.length) (c : Nat) (w : World) (hl : n ≤ 1048576) (hs : Sl w 1 A n (i32s l)) : Calls Tryd.prog 20 #[.slice A n c] w fun e w' => ∃ v, e = .returned v ∧ VecS w' v (VD.chars l) (New w.heap.size) ∧ Ext w w' := by
  refine (chars_s A l n hn c w hl hs).mono ?_
  rintro e w' ⟨B, cb, rfl, h1, hx⟩
  exact ⟨_, rfl, h1, hx⟩
section
variable (w : World) (ht : Tab w) (f : Int) (A : Option Addr) (a : List Int) (n : Nat) (c : Nat)
include ht in
theorem monoOthers_long (h : 200 < n) : Calls Tryd.prog 5 #[.int .i64 f, .slice A n c] w fun e w' => e = .returned (.bool true) ∧ Ext w w' := by
  have cw := fun w' (h : Ext w w') => moawake_any w' (ht.ext h)
  clear ht
  have E := Ext.refl w
  go_enter Tryd.func5, Tryd.ntmps5
  go_wp2_with fail
  refine (cw _ E).mono ?_
  rintro e w13 ⟨rfl, x⟩
  have z1 := x.size
  replace E := E.trans x
  clear x
  go_wp2_with fail
  go_ret
  exact ⟨rfl, E⟩
include ht in
theorem monoOthers_lo (hn : n = a.length) (h3 : n ≤ 200) (hs : Sl w 1 A n (i32s a)) (h1 : f < 1) : Calls Tryd.prog 5 #[.int .i64 f, .slice A n c] w fun e w' => e = .returned (.bool true) ∧ Ext w w' := by
  have cw := fun w' (h : Ext w w') => moawake_any w' (ht.ext h)
  clear ht
  obtain ⟨z, hz⟩ : ∃ z, zeroVec = z := ⟨_, rfl⟩
  have hZ := zeroVec_flat
  rw [hz] at hZ
  have cp : ∀ v d w', IsVec w' v d → d.cls ≠ 0 → Calls Tryd.prog 14 #[.int .i64 f, v] w' fun e w2 => e = .returned (.tuple #[z, .int .i64 1]) ∧ Ext w' w2 := fun v d w' h _ => hz ▸ ma_bad1 f v w' h1 h.flat
  have kz := fun w => kind_zero z hz w
  have cc := fun w hs => chars_vM A a n hn c w (by omega) hs
  have cb := fun w => boxes_s none [] 0 0 (fun _ h => by cases h) w (by omega) (Sl.nil w 9 none)
  have ka : (VD.chars a).cls ≠ 0 := by have : (VD.chars a).cls = 1 := rfl; omega
  have kb : (VD.boxes []).cls ≠ 0 := by decide
  have HS := Lib.hid hs
  clear hs hn hz
  generalize VD.chars a = D at *
  have E := Ext.refl w
  go_enter Tryd.func5, Tryd.ntmps5
  go_wp2_with fail
  refine (cc _ (HS.out.ext E)).mono ?_
  rintro e w17 ⟨v, rfl, hq, x⟩
  have NV := hq.now
  have Fv := NV.is.flat
  clear hq
  have z1 := x.size
  replace E := E.trans x
  clear x
  go_wp2_with fail
  refine (cp v _ _ NV.is ka).mono ?_
  rintro e w18 ⟨rfl, x⟩
  have z2 := x.size
  replace E := E.trans x
  replace NV := NV.ext x
  clear x
  have TB5 : True := trivial
  have TG4 : True := trivial
  go_wp2_with (first | (clear TB5; refine allocsV rfl rfl ?_; intro B5 w5 bB5 cB5 XB5 LB5 RB5; have z3 := XB5.size; replace E := E.trans XB5; replace NV := NV.ext XB5) | (clear TG4; have hRl := (RB5).lt (Nat.zero_lt_succ _); refine storesV (B := B5) rfl rfl rfl (v := z) rfl RB5 hZ ?_; clear LB5; intro s4 G4 LB5 RQ; have z5 := G4.size; replace E := grown_ext E G4 (by omega); replace NV := NV.grown G4 (by first | omega | (dsimp only [New]; omega)); clear RB5; have RB5 := RQ; clear RQ hRl; clear RB5))
  refine (cb _).mono ?_
  rintro e w23 ⟨u, rfl, hq, x⟩
  have NU := hq.now
  have Fu := NU.is.flat
  clear hq
  have z6 := x.size
  replace E := E.trans x
  replace NV := NV.ext x
  replace LB5 := LB5.ext x
  clear x
  go_wp2_with fail
  refine (cp u _ _ NU.is kb).mono ?_
  rintro e w24 ⟨rfl, x⟩
  have z7 := x.size
  replace E := E.trans x
  replace NV := NV.ext x
  replace LB5 := LB5.ext x
  replace NU := NU.ext x
  clear x
  have TB7 : True := trivial
  have TG9 : True := trivial
  go_wp2_with (first | (clear TB7; refine allocsV rfl rfl ?_; intro B7 w7 bB7 cB7 XB7 LB7 RB7; have z8 := XB7.size; replace E := E.trans XB7; replace NV := NV.ext XB7; replace LB5 := LB5.ext XB7; replace NU := NU.ext XB7) | (clear TG9; have hRl := (RB7).lt (Nat.zero_lt_succ _); refine storesV (B := B7) rfl rfl rfl (v := z) rfl RB7 hZ ?_; clear LB7; intro s9 G9 LB7 RQ; have z10 := G9.size; replace E := grown_ext E G9 (by omega); replace NV := NV.grown G9 (by first | omega | (dsimp only [New]; omega)); replace LB5 := LB5.grown G9 (by omega); replace NU := NU.grown G9 (by first | omega | (dsimp only [New]; omega)); clear RB7; have RB7 := RQ; clear RQ hRl; clear RB7) | (refine loadsV (B := B5) (by rfl) rfl rfl LB5 ?_))
  clear LB5
  refine (kz _).mono ?_
  rintro e w34 ⟨rfl, x⟩
  have z11 := x.size
  replace E := E.trans x
  replace NV := NV.ext x
  replace NU := NU.ext x
  replace LB7 := LB7.ext x
  clear x
  go_wp2_with (refine loadgV (B := B7) (by rfl) rfl rfl LB7 ?_)
  clear LB7
  refine (kz _).mono ?_
  rintro e w38 ⟨rfl, x⟩
  have z12 := x.size
  replace E := E.trans x
  replace NV := NV.ext x
  replace NU := NU.ext x
  clear x
  go_wp2_with fail
  refine (cw _ E).mono ?_
  rintro e w52 ⟨rfl, x⟩
  have z13 := x.size
  replace E := E.trans x
  replace NV := NV.ext x
  replace NU := NU.ext x
  clear x
  go_wp2_with fail
  go_ret
  exact ⟨rfl, E⟩
include ht in
theorem monoOthers_hi (hn : n = a.length) (h3 : n ≤ 200) (hs : Sl w 1 A n (i32s a)) (h1 : ¬ f < 1) (h2 : 8 < f) : Calls Tryd.prog 5 #[.int .i64 f, .slice A n c] w fun e w' => e = .returned (.bool true) ∧ Ext w w' := by
  have cw := fun w' (h : Ext w w') => moawake_any w' (ht.ext h)
  clear ht
  obtain ⟨z, hz⟩ : ∃ z, zeroVec = z := ⟨_, rfl⟩
  have hZ := zeroVec_flat
  rw [hz] at hZ
  have cp : ∀ v d w', IsVec w' v d → d.cls ≠ 0 → Calls Tryd.prog 14 #[.int .i64 f, v] w' fun e w2 => e = .returned (.tuple #[z, .int .i64 1]) ∧ Ext w' w2 := fun v d w' h _ => hz ▸ ma_bad2 f v w' h1 h2 h.flat
  have kz := fun w => kind_zero z hz w
  have cc := fun w hs => chars_vM A a n hn c w (by omega) hs
  have cb := fun w => boxes_s none [] 0 0 (fun _ h => by cases h) w (by omega) (Sl.nil w 9 none)
  have ka : (VD.chars a).cls ≠ 0 := by have : (VD.chars a).cls = 1 := rfl; omega
  have kb : (VD.boxes []).cls ≠ 0 := by decide
  have HS := Lib.hid hs
  clear hs hn hz
  generalize VD.chars a = D at *
  have E := Ext.refl w
  go_enter Tryd.func5, Tryd.ntmps5
  go_wp2_with fail
  refine (cc _ (HS.out.ext E)).mono ?_
  rintro e w17 ⟨v, rfl, hq, x⟩
  have NV := hq.now
  have Fv := NV.is.flat
  clear hq
  have z1 := x.size
  replace E := E.trans x
  clear x
  go_wp2_with fail
  refine (cp v _ _ NV.is ka).mono ?_
  rintro e w18 ⟨rfl, x⟩
  have z2 := x.size
  replace E := E.trans x
  replace NV := NV.ext x
  clear x
  have TB5 : True := trivial
  have TG4 : True := trivial
  go_wp2_with (first | (clear TB5; refine allocsV rfl rfl ?_; intro B5 w5 bB5 cB5 XB5 LB5 RB5; have z3 := XB5.size; replace E := E.trans XB5; replace NV := NV.ext XB5) | (clear TG4; have hRl := (RB5).lt (Nat.zero_lt_succ _); refine storesV (B := B5) rfl rfl rfl (v := z) rfl RB5 hZ ?_; clear LB5; intro s4 G4 LB5 RQ; have z5 := G4.size; replace E := grown_ext E G4 (by omega); replace NV := NV.grown G4 (by first | omega | (dsimp only [New]; omega)); clear RB5; have RB5 := RQ; clear RQ hRl; clear RB5))
  refine (cb _).mono ?_
  rintro e w23 ⟨u, rfl, hq, x⟩
  have NU := hq.now
  have Fu := NU.is.flat
  clear hq
  have z6 := x.size
  replace E := E.trans x
  replace NV := NV.ext x
  replace LB5 := LB5.ext x
  clear x
  go_wp2_with fail
  refine (cp u _ _ NU.is kb).mono ?_
  rintro e w24 ⟨rfl, x⟩
  have z7 := x.size
  replace E := E.trans x
  replace NV := NV.ext x
  replace LB5 := LB5.ext x
  replace NU := NU.ext x
  clear x
  have TB7 : True := trivial
  have TG9 : True := trivial
  go_wp2_with (first | (clear TB7; refine allocsV rfl rfl ?_; intro B7 w7 bB7 cB7 XB7 LB7 RB7; have z8 := XB7.size; replace E := E.trans XB7; replace NV := NV.ext XB7; replace LB5 := LB5.ext XB7; replace NU := NU.ext XB7) | (clear TG9; have hRl := (RB7).lt (Nat.zero_lt_succ _); refine storesV (B := B7) rfl rfl rfl (v := z) rfl RB7 hZ ?_; clear LB7; intro s9 G9 LB7 RQ; have z10 := G9.size; replace E := grown_ext E G9 (by omega); replace NV := NV.grown G9 (by first | omega | (dsimp only [New]; omega)); replace LB5 := LB5.grown G9 (by omega); replace NU := NU.grown G9 (by first | omega | (dsimp only [New]; omega)); clear RB7; have RB7 := RQ; clear RQ hRl; clear RB7) | (refine loadsV (B := B5) (by rfl) rfl rfl LB5 ?_))
  clear LB5
  refine (kz _).mono ?_
  rintro e w34 ⟨rfl, x⟩
  have z11 := x.size
  replace E := E.trans x
  replace NV := NV.ext x
  replace NU := NU.ext x
  replace LB7 := LB7.ext x
  clear x
  go_wp2_with (refine loadgV (B := B7) (by rfl) rfl rfl LB7 ?_)
  clear LB7
  refine (kz _).mono ?_
  rintro e w38 ⟨rfl, x⟩
  have z12 := x.size
  replace E := E.trans x
  replace NV := NV.ext x
  replace NU := NU.ext x
  clear x
  go_wp2_with fail
  refine (cw _ E).mono ?_
  rintro e w52 ⟨rfl, x⟩
  have z13 := x.size
  replace E := E.trans x
  replace NV := NV.ext x
  replace NU := NU.ext x
  clear x
  go_wp2_with fail
  go_ret
  exact ⟨rfl, E⟩
include ht in
theorem monoOthers_in (hn : n = a.length) (h3 : n ≤ 200) (hs : Sl w 1 A n (i32s a)) (h1 : ¬ f < 1) (h2 : ¬ 8 < f) : Calls Tryd.prog 5 #[.int .i64 f, .slice A n c] w fun e w' => e = .returned (.bool true) ∧ Ext w w' := by
  have cw := fun w' (h : Ext w w') => moawake_any w' (ht.ext h)
  clear ht
  obtain ⟨z, hz⟩ : ∃ z, zeroVec = z := ⟨_, rfl⟩
  have hZ := zeroVec_flat
  rw [hz] at hZ
  have cp : ∀ v d w', IsVec w' v d → d.cls ≠ 0 → Calls Tryd.prog 14 #[.int .i64 f, v] w' fun e w2 => e = .returned (.tuple #[z, .int .i64 24]) ∧ Ext w' w2 := fun v d w' h hc => hz ▸ ma_cls f v w' h1 h2 h.flat (d.cls : Int) (by simpa using hc) (fun w2 hx => vclass_any v d w2 (h.ext hx))
  have kz := fun w => kind_zero z hz w
  have cc := fun w hs => chars_vM A a n hn c w (by omega) hs
  have cb := fun w => boxes_s none [] 0 0 (fun _ h => by cases h) w (by omega) (Sl.nil w 9 none)
  have ka : (VD.chars a).cls ≠ 0 := by have : (VD.chars a).cls = 1 := rfl; omega
  have kb : (VD.boxes []).cls ≠ 0 := by decide
  have HS := Lib.hid hs
  clear hs hn hz
  generalize VD.chars a = D at *
  have E := Ext.refl w
  go_enter Tryd.func5, Tryd.ntmps5
  go_wp2_with fail
  refine (cc _ (HS.out.ext E)).mono ?_
  rintro e w17 ⟨v, rfl, hq, x⟩
  have NV := hq.now
  have Fv := NV.is.flat
  clear hq
  have z1 := x.size
  replace E := E.trans x
  clear x
  go_wp2_with fail
  refine (cp v _ _ NV.is ka).mono ?_
  rintro e w18 ⟨rfl, x⟩
  have z2 := x.size
  replace E := E.trans x
  replace NV := NV.ext x
  clear x
  have TB5 : True := trivial
  have TG4 : True := trivial
  go_wp2_with (first | (clear TB5; refine allocsV rfl rfl ?_; intro B5 w5 bB5 cB5 XB5 LB5 RB5; have z3 := XB5.size; replace E := E.trans XB5; replace NV := NV.ext XB5) | (clear TG4; have hRl := (RB5).lt (Nat.zero_lt_succ _); refine storesV (B := B5) rfl rfl rfl (v := z) rfl RB5 hZ ?_; clear LB5; intro s4 G4 LB5 RQ; have z5 := G4.size; replace E := grown_ext E G4 (by omega); replace NV := NV.grown G4 (by first | omega | (dsimp only [New]; omega)); clear RB5; have RB5 := RQ; clear RQ hRl; clear RB5))
  refine (cb _).mono ?_
  rintro e w23 ⟨u, rfl, hq, x⟩
  have NU := hq.now
  have Fu := NU.is.flat
  clear hq
  have z6 := x.size
  replace E := E.trans x
  replace NV := NV.ext x
  replace LB5 := LB5.ext x
  clear x
  go_wp2_with fail
  refine (cp u _ _ NU.is kb).mono ?_
  rintro e w24 ⟨rfl, x⟩
  have z7 := x.size
  replace E := E.trans x
  replace NV := NV.ext x
  replace LB5 := LB5.ext x
  replace NU := NU.ext x
  clear x
  have TB7 : True := trivial
  have TG9 : True := trivial
  go_wp2_with (first | (clear TB7; refine allocsV rfl rfl ?_; intro B7 w7 bB7 cB7 XB7 LB7 RB7; have z8 := XB7.size; replace E := E.trans XB7; replace NV := NV.ext XB7; replace LB5 := LB5.ext XB7; replace NU := NU.ext XB7) | (clear TG9; have hRl := (RB7).lt (Nat.zero_lt_succ _); refine storesV (B := B7) rfl rfl rfl (v := z) rfl RB7 hZ ?_; clear LB7; intro s9 G9 LB7 RQ; have z10 := G9.size; replace E := grown_ext E G9 (by omega); replace NV := NV.grown G9 (by first | omega | (dsimp only [New]; omega)); replace LB5 := LB5.grown G9 (by omega); replace NU := NU.grown G9 (by first | omega | (dsimp only [New]; omega)); clear RB7; have RB7 := RQ; clear RQ hRl; clear RB7) | (refine loadsV (B := B5) (by rfl) rfl rfl LB5 ?_))
  clear LB5
  refine (kz _).mono ?_
  rintro e w34 ⟨rfl, x⟩
  have z11 := x.size
  replace E := E.trans x
  replace NV := NV.ext x
  replace NU := NU.ext x
  replace LB7 := LB7.ext x
  clear x
  go_wp2_with (refine loadgV (B := B7) (by rfl) rfl rfl LB7 ?_)
  clear LB7
  refine (kz _).mono ?_
  rintro e w38 ⟨rfl, x⟩
  have z12 := x.size
  replace E := E.trans x
  replace NV := NV.ext x
  replace NU := NU.ext x
  clear x
  go_wp2_with fail
  refine (cw _ E).mono ?_
  rintro e w52 ⟨rfl, x⟩
  have z13 := x.size
  replace E := E.trans x
  replace NV := NV.ext x
  replace NU := NU.ext x
  clear x
  go_wp2_with fail
  go_ret
  exact ⟨rfl, E⟩
end
theorem monoOthers_walk (w : World) (ht : Tab w) (f : Int) (_ : (Lit.int .i64 f).wf = true) (A : Option Addr) (a : List Int) (c : Nat) (_ : a.length ≤ c) (_ : c ≤ maxLen) (hs : Sl w 1 A a.length (a.map fun x => .int .i32 x)) (_ : ∀ x ∈ a, (Lit.int .i32 x).wf = true) :
    Calls Tryd.prog 5 #[.int .i64 f, .slice A a.length c] w fun e w' => e = .returned (.bool true) ∧ Ext w w' := by
  by_cases h3 : a.length ≤ 200
  · by_cases h1 : f < 1
    · exact monoOthers_lo w ht f A a a.length c rfl h3 hs h1
    · by_cases h2 : 8 < f
      · exact monoOthers_hi w ht f A a a.length c rfl h3 hs h1 h2
      · exact monoOthers_in w ht f A a a.length c rfl h3 hs h1 h2
  · exact monoOthers_long w ht f A a.length c (by omega)
end Go.Proofs.YtidnikndjhfgaaaDoor
