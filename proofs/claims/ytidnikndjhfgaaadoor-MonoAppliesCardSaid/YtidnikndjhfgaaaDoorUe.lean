/- mono.Apply. -/
import Derived.Test.YtidnikndjhfgaaaDoorUd
namespace Go.Proofs.YtidnikndjhfgaaaDoor
open Go.ChangeShapes Go.WideShapes Go.RowKit Bv Fl
set_option maxHeartbeats 2000000
set_option maxRecDepth 100000
def MoU (er : Int) (L : List Nat) (w : World) (e : Ending) (w' : World) : Prop := ∃ p, e = .returned (.tuple #[p, .int .i64 er]) ∧ (er ≠ 0 → p = zeroVec) ∧ (er = 0 → IsNum w' p (leastL L) L) ∧ Ext w w'
theorem mwh_0 (f : Int) (A : Option Addr) (c : Nat) (w : World) : Calls Tryd.prog 44 #[.int .i64 f, .slice A 0 c] w fun e w' => ∃ q, e = .returned (.tuple #[q, .int .i64 0]) ∧ NumS w' q (leastL []) [] (New w.heap.size) ∧ Ext w w' := by
  have ci := fun w2 => vints_sM A [] 0 rfl rfl c w2 (by omega) (Sl.nil w2 1 A)
  rw [show (VD.ints []).nums = [] from ints_numsM []] at ci
  have csq := fun p w2 h => squeeze_num p 3 [] w2 h
  have E := Ext.refl w
  go_enter Tryd.func44, Tryd.ntmps44
  have TB4 : True := trivial
  go_wp2_with (clear TB4; refine allocsV rfl rfl ?_; intro B4 w4 bB4 cB4 XB4 LB4 RB4; have z1 := XB4.size; replace E := E.trans XB4)
  go_loopw [12] (fun i wr => i = .int .i64 0 ∧ Ext w4 wr) (fun i _ => 0)
  case atStart => exact ⟨rfl, Ext.refl _⟩
  case round =>
    obtain ⟨rfl, HX⟩ := hrel
    have z2 := HX.size
    replace E := E.trans HX
    replace LB4 := LB4.ext HX
    replace RB4 := RB4.ext HX
    have TT := trivial
    · clear TT HX
      go_wp2_with fail
      refine (ci _).mono ?_
      rintro e w59 ⟨p, rfl, hq, x⟩
      have NP := hq.now
      have Fp := NP.is.flat
      clear hq
      have z3 := x.size
      replace E := E.trans x
      replace LB4 := LB4.ext x
      replace RB4 := RB4.ext x
      clear x
      have TB8 : True := trivial
      have TG5 : True := trivial
      go_wp2_with (first | (clear TB8; refine allocsV rfl rfl ?_; intro B8 w8 bB8 cB8 XB8 LB8 RB8; have z4 := XB8.size; replace E := E.trans XB8; replace LB4 := LB4.ext XB8; replace RB4 := RB4.ext XB8; replace NP := NP.ext XB8) | (clear TG5; have hRl := (RB8).lt (Nat.zero_lt_succ _); refine storesV (B := B8) rfl rfl rfl (v := p) rfl RB8 Fp ?_; clear LB8; intro s5 G5 LB8 RQ; have z6 := G5.size; replace E := grown_ext E G5 (by omega); replace LB4 := LB4.grown G5 (by omega); replace RB4 := RB4.grown G5 (by omega); replace NP := NP.grown G5 (by first | omega | (dsimp only [New]; omega)); clear RB8; have RB8 := RQ; clear RQ hRl; clear RB8) | (refine loadsV (B := B8) (by rfl) rfl rfl LB8 ?_))
      clear LB8
      refine (csq p _ NP.is).mono ?_
      rintro e w66 ⟨q, rfl, hq, x⟩
      have NQ := (hq _ NP).now
      have Fq := NQ.is.flat
      clear hq
      have z7 := x.size
      replace E := E.trans x
      replace LB4 := LB4.ext x
      replace RB4 := RB4.ext x
      replace NP := NP.ext x
      clear x
      have TG8 : True := trivial
      go_wp2_with (clear TG8; have hRl := (RB4).lt (Nat.zero_lt_succ _); refine storesV (B := B4) rfl rfl rfl (v := q) rfl RB4 Fq ?_; clear LB4; intro s8 G8 LB4 RQ; have z9 := G8.size; replace E := grown_ext E G8 (by omega); replace NP := NP.grown G8 (by first | omega | (dsimp only [New]; omega)); replace NQ := NQ.grown G8 (by first | omega | (dsimp only [New]; omega)); clear RB4; have RB4 := RQ; clear RQ hRl; clear RB4)
      refine bodyPost_ret (results_lay2 rfl rfl rfl (ldV LB4)) rfl ?_
      exact ⟨q, rfl, NQ.mono (fun i hi h => by dsimp only [New] at *; omega), E⟩
section
variable (f : Int) (v : Value) (w : World)
theorem ma_bad1 (h : f < 1) (hF : Flat 8 v) : Calls Tryd.prog 14 #[.int .i64 f, v] w fun e w' => e = .returned (.tuple #[zeroVec, .int .i64 1]) ∧ Ext w w' := by
  have E := Ext.refl w
  go_enter Tryd.func14, Tryd.ntmps14
  have TB3 : True := trivial
  have TB4 : True := trivial
  have TG3 : True := trivial
  go_wp2_with (first | (clear TB3; refine boxsV (v := v) rfl rfl rfl hF ?_; intro B3 w3 bB3 cB3 XB3 LB3 RB3; have z1 := XB3.size; replace E := E.trans XB3; clear LB3 RB3) | (clear TB4; refine allocsV rfl rfl ?_; intro B4 w4 bB4 cB4 XB4 LB4 RB4; have z2 := XB4.size; replace E := E.trans XB4) | (clear TG3; have hRl := (RB4).lt (Nat.zero_lt_succ _); refine storesV (B := B4) rfl rfl rfl (v := zeroVec) rfl RB4 zeroVec_flat ?_; clear LB4; intro s3 G3 LB4 RQ; have z4 := G3.size; replace E := grown_ext E G3 (by omega); clear RB4; have RB4 := RQ; clear RQ hRl; clear RB4))
  refine bodyPost_ret (results_lay2 rfl rfl rfl (ldV LB4)) rfl ?_
  exact ⟨rfl, E⟩
theorem ma_bad2 (h1 : ¬ f < 1) (h2 : 8 < f) (hF : Flat 8 v) : Calls Tryd.prog 14 #[.int .i64 f, v] w fun e w' => e = .returned (.tuple #[zeroVec, .int .i64 1]) ∧ Ext w w' := by
  have E := Ext.refl w
  go_enter Tryd.func14, Tryd.ntmps14
  have TB3 : True := trivial
  have TB4 : True := trivial
  have TG3 : True := trivial
  go_wp2_with (first | (clear TB3; refine boxsV (v := v) rfl rfl rfl hF ?_; intro B3 w3 bB3 cB3 XB3 LB3 RB3; have z1 := XB3.size; replace E := E.trans XB3; clear LB3 RB3) | (clear TB4; refine allocsV rfl rfl ?_; intro B4 w4 bB4 cB4 XB4 LB4 RB4; have z2 := XB4.size; replace E := E.trans XB4) | (clear TG3; have hRl := (RB4).lt (Nat.zero_lt_succ _); refine storesV (B := B4) rfl rfl rfl (v := zeroVec) rfl RB4 zeroVec_flat ?_; clear LB4; intro s3 G3 LB4 RQ; have z4 := G3.size; replace E := grown_ext E G3 (by omega); clear RB4; have RB4 := RQ; clear RQ hRl; clear RB4))
  refine bodyPost_ret (results_lay2 rfl rfl rfl (ldV LB4)) rfl ?_
  exact ⟨rfl, E⟩
theorem ma_cls (h1 : ¬ f < 1) (h2 : ¬ 8 < f) (hF : Flat 8 v) (ka : Int) (e24 : (ka != 0) = true) (da : ∀ w', Ext w w' → Calls Tryd.prog 36 #[v] w' fun e w2 => e = .returned (.int .i64 ka) ∧ Ext w' w2) : Calls Tryd.prog 14 #[.int .i64 f, v] w fun e w' => e = .returned (.tuple #[zeroVec, .int .i64 24]) ∧ Ext w w' := by
  have E := Ext.refl w
  go_enter Tryd.func14, Tryd.ntmps14
  have TB3 : True := trivial
  have TB4 : True := trivial
  go_wp2_with (first | (clear TB3; refine boxsV (v := v) rfl rfl rfl hF ?_; intro B3 w3 bB3 cB3 XB3 LB3 RB3; have z1 := XB3.size; replace E := E.trans XB3; clear RB3) | (clear TB4; refine allocsV rfl rfl ?_; intro B4 w4 bB4 cB4 XB4 LB4 RB4; have z2 := XB4.size; replace E := E.trans XB4; replace LB3 := LB3.ext XB4) | (refine loadsV (B := B3) (by rfl) rfl rfl LB3 ?_))
  clear LB3
  refine (da _ E).mono ?_
  rintro e w23 ⟨rfl, x⟩
  have z3 := x.size
  replace E := E.trans x
  replace LB4 := LB4.ext x
  replace RB4 := RB4.ext x
  clear x
  have TG4 : True := trivial
  go_wp2_with (clear TG4; have hRl := (RB4).lt (Nat.zero_lt_succ _); refine storesV (B := B4) rfl rfl rfl (v := zeroVec) rfl RB4 zeroVec_flat ?_; clear LB4; intro s4 G4 LB4 RQ; have z5 := G4.size; replace E := grown_ext E G4 (by omega); clear RB4; have RB4 := RQ; clear RQ hRl; clear RB4)
  refine bodyPost_ret (results_lay2 rfl rfl rfl (ldV LB4)) rfl ?_
  exact ⟨rfl, E⟩
theorem ma_bits (h1 : ¬ f < 1) (h2 : ¬ 8 < f) (b : List Bool) (hv : IsVec w v (VD.bits b)) (L : List Nat) (cb : ∀ pv w' S, BitS w' pv b S → Calls Tryd.prog 42 #[.int .i64 f, pv] w' (MbP L S w')) : Calls Tryd.prog 14 #[.int .i64 f, v] w fun e w' => ∃ p, e = .returned (.tuple #[p, .int .i64 0]) ∧ IsNum w' p (leastL L) L ∧ Ext w w' := by
  have hF := hv.flat
  have NB := VecS.all hv
  have da := fun w' h => vclass_any v (VD.bits b) w' h
  rw [show (((VD.bits b).cls : Nat) : Int) = 0 from rfl] at da
  clear hv
  have E := Ext.refl w
  go_enter Tryd.func14, Tryd.ntmps14
  have TB3 : True := trivial
  have TB4 : True := trivial
  go_wp2_with (first | (clear TB3; refine boxsV (v := v) rfl rfl rfl hF ?_; intro B3 w3 bB3 cB3 XB3 LB3 RB3; have z1 := XB3.size; replace E := E.trans XB3; replace NB := NB.ext XB3; clear RB3) | (clear TB4; refine allocsV rfl rfl ?_; intro B4 w4 bB4 cB4 XB4 LB4 RB4; have z2 := XB4.size; replace E := E.trans XB4; replace NB := NB.ext XB4; replace LB3 := LB3.ext XB4) | (refine loadsV (B := B3) (by rfl) rfl rfl LB3 ?_))
  refine (da _ (NB.is)).mono ?_
  rintro e w23 ⟨rfl, x⟩
  have z3 := x.size
  replace E := E.trans x
  replace NB := NB.ext x
  replace LB3 := LB3.ext x
  replace LB4 := LB4.ext x
  replace RB4 := RB4.ext x
  clear x
  go_wp2_with (refine loadsV (B := B3) (by rfl) rfl rfl LB3 ?_)
  clear LB3
  refine (VecS.packed v b _ NB.is).mono ?_
  rintro e w28 ⟨pv, rfl, hq, x⟩
  have BP := hq _ NB
  have Fpv := BP.is.flat
  clear hq
  have z4 := x.size
  replace E := E.trans x
  replace NB := NB.ext x
  replace LB4 := LB4.ext x
  replace RB4 := RB4.ext x
  clear x
  have TB6 : True := trivial
  have TG6 : True := trivial
  go_wp2_with (first | (clear TB6; refine allocsB rfl rfl ?_; intro B6 w6 bB6 cB6 XB6 LB6 RB6; have z5 := XB6.size; replace E := E.trans XB6; replace NB := NB.ext XB6; replace LB4 := LB4.ext XB6; replace RB4 := RB4.ext XB6; replace BP := BP.ext XB6) | (clear TG6; have hRl := (RB6).lt (Nat.zero_lt_succ _); refine storesB (B := B6) rfl rfl rfl (v := pv) rfl RB6 Fpv ?_; clear LB6; intro s6 G6 LB6 RQ; have z7 := G6.size; replace E := grown_ext E G6 (by omega); replace NB := NB.grown G6 (by omega); replace LB4 := LB4.grown G6 (by omega); replace RB4 := RB4.grown G6 (by omega); replace BP := BP.grown G6 (by omega); clear RB6; have RB6 := RQ; clear RQ hRl; clear RB6) | (refine loadsB (B := B6) (by rfl) rfl rfl LB6 ?_))
  clear LB6
  refine (cb pv _ _ BP).mono ?_
  rintro e w34 ⟨q, rfl, NQ, x⟩
  have Fq := NQ.is.flat
  have z8 := x.size
  replace E := E.trans x
  replace NB := NB.ext x
  replace LB4 := LB4.ext x
  replace RB4 := RB4.ext x
  replace BP := BP.ext x
  clear x
  have TG9 : True := trivial
  go_wp2_with (clear TG9; have hRl := (RB4).lt (Nat.zero_lt_succ _); refine storesV (B := B4) rfl rfl rfl (v := q) rfl RB4 Fq ?_; clear LB4; intro s9 G9 LB4 RQ; have z10 := G9.size; replace E := grown_ext E G9 (by omega); replace NB := NB.grown G9 (by omega); replace NQ := NQ.grown G9 (fun h => h.elim (fun h => absurd h (by omega)) (fun h => absurd h (by dsimp only [New]; omega))); clear RB4; have RB4 := RQ; clear RQ hRl; clear RB4)
  refine bodyPost_ret (results_lay2 rfl rfl rfl (ldV LB4)) rfl ?_
  exact ⟨q, rfl, NQ.is, E⟩
theorem ma_bits2 (b : List Bool) (hv : IsVec w v (VD.bits b)) (L : List Nat) (ht : Tab w) (cb : ∀ pv w' S, Tab w' → BitS w' pv b S → Calls Tryd.prog 42 #[.int .i64 2, pv] w' (MbP L S w')) : Calls Tryd.prog 14 #[.int .i64 2, v] w fun e w' => ∃ p, e = .returned (.tuple #[p, .int .i64 0]) ∧ IsNum w' p (leastL L) L ∧ Ext w w' := by
  have HT : Hid (∀ w', Ext w w' → Tab w') := fun w' h => ht.ext h
  clear ht
  have hF := hv.flat
  have NB := VecS.all hv
  have da := fun w' h => vclass_any v (VD.bits b) w' h
  rw [show (((VD.bits b).cls : Nat) : Int) = 0 from rfl] at da
  clear hv
  have E := Ext.refl w
  go_enter Tryd.func14, Tryd.ntmps14
  have TB3 : True := trivial
  have TB4 : True := trivial
  go_wp2_with (first | (clear TB3; refine boxsV (v := v) rfl rfl rfl hF ?_; intro B3 w3 bB3 cB3 XB3 LB3 RB3; have z1 := XB3.size; replace E := E.trans XB3; replace NB := NB.ext XB3; clear RB3) | (clear TB4; refine allocsV rfl rfl ?_; intro B4 w4 bB4 cB4 XB4 LB4 RB4; have z2 := XB4.size; replace E := E.trans XB4; replace NB := NB.ext XB4; replace LB3 := LB3.ext XB4) | (refine loadsV (B := B3) (by rfl) rfl rfl LB3 ?_))
  refine (da _ (NB.is)).mono ?_
  rintro e w23 ⟨rfl, x⟩
  have z3 := x.size
  replace E := E.trans x
  replace NB := NB.ext x
  replace LB3 := LB3.ext x
  replace LB4 := LB4.ext x
  replace RB4 := RB4.ext x
  clear x
  go_wp2_with (refine loadsV (B := B3) (by rfl) rfl rfl LB3 ?_)
  clear LB3
  refine (VecS.packed v b _ NB.is).mono ?_
  rintro e w28 ⟨pv, rfl, hq, x⟩
  have BP := hq _ NB
  have Fpv := BP.is.flat
  clear hq
  have z4 := x.size
  replace E := E.trans x
  replace NB := NB.ext x
  replace LB4 := LB4.ext x
  replace RB4 := RB4.ext x
  clear x
  have TB6 : True := trivial
  have TG6 : True := trivial
  go_wp2_with (first | (clear TB6; refine allocsB rfl rfl ?_; intro B6 w6 bB6 cB6 XB6 LB6 RB6; have z5 := XB6.size; replace E := E.trans XB6; replace NB := NB.ext XB6; replace LB4 := LB4.ext XB6; replace RB4 := RB4.ext XB6; replace BP := BP.ext XB6) | (clear TG6; have hRl := (RB6).lt (Nat.zero_lt_succ _); refine storesB (B := B6) rfl rfl rfl (v := pv) rfl RB6 Fpv ?_; clear LB6; intro s6 G6 LB6 RQ; have z7 := G6.size; replace E := grown_ext E G6 (by omega); replace NB := NB.grown G6 (by omega); replace LB4 := LB4.grown G6 (by omega); replace RB4 := RB4.grown G6 (by omega); replace BP := BP.grown G6 (by omega); clear RB6; have RB6 := RQ; clear RQ hRl; clear RB6) | (refine loadsB (B := B6) (by rfl) rfl rfl LB6 ?_))
  clear LB6
  refine (cb pv _ _ (HT.out _ E) BP).mono ?_
  rintro e w34 ⟨q, rfl, NQ, x⟩
  have Fq := NQ.is.flat
  have z8 := x.size
  replace E := E.trans x
  replace NB := NB.ext x
  replace LB4 := LB4.ext x
  replace RB4 := RB4.ext x
  replace BP := BP.ext x
  clear x
  have TG9 : True := trivial
  go_wp2_with (clear TG9; have hRl := (RB4).lt (Nat.zero_lt_succ _); refine storesV (B := B4) rfl rfl rfl (v := q) rfl RB4 Fq ?_; clear LB4; intro s9 G9 LB4 RQ; have z10 := G9.size; replace E := grown_ext E G9 (by omega); replace NB := NB.grown G9 (by omega); replace NQ := NQ.grown G9 (fun h => h.elim (fun h => absurd h (by omega)) (fun h => absurd h (by dsimp only [New]; omega))); clear RB4; have RB4 := RQ; clear RQ hRl; clear RB4)
  refine bodyPost_ret (results_lay2 rfl rfl rfl (ldV LB4)) rfl ?_
  exact ⟨q, rfl, NQ.is, E⟩
theorem ma_bitse (h1 : ¬ f < 1) (h2 : ¬ 8 < f) (b : List Bool) (hv : IsVec w v (VD.bits b)) (er : Int) (cb : ∀ pv w' S, BitS w' pv b S → Calls Tryd.prog 42 #[.int .i64 f, pv] w' fun e w2 => e = .returned (.tuple #[zeroVec, .int .i64 er]) ∧ Ext w' w2) : Calls Tryd.prog 14 #[.int .i64 f, v] w fun e w' => e = .returned (.tuple #[zeroVec, .int .i64 er]) ∧ Ext w w' := by
  have hF := hv.flat
  have NB := VecS.all hv
  have da := fun w' h => vclass_any v (VD.bits b) w' h
  rw [show (((VD.bits b).cls : Nat) : Int) = 0 from rfl] at da
  clear hv
  have E := Ext.refl w
  go_enter Tryd.func14, Tryd.ntmps14
  have TB3 : True := trivial
  have TB4 : True := trivial
  go_wp2_with (first | (clear TB3; refine boxsV (v := v) rfl rfl rfl hF ?_; intro B3 w3 bB3 cB3 XB3 LB3 RB3; have z1 := XB3.size; replace E := E.trans XB3; replace NB := NB.ext XB3; clear RB3) | (clear TB4; refine allocsV rfl rfl ?_; intro B4 w4 bB4 cB4 XB4 LB4 RB4; have z2 := XB4.size; replace E := E.trans XB4; replace NB := NB.ext XB4; replace LB3 := LB3.ext XB4) | (refine loadsV (B := B3) (by rfl) rfl rfl LB3 ?_))
  refine (da _ (NB.is)).mono ?_
  rintro e w23 ⟨rfl, x⟩
  have z3 := x.size
  replace E := E.trans x
  replace NB := NB.ext x
  replace LB3 := LB3.ext x
  replace LB4 := LB4.ext x
  replace RB4 := RB4.ext x
  clear x
  go_wp2_with (refine loadsV (B := B3) (by rfl) rfl rfl LB3 ?_)
  clear LB3
  refine (VecS.packed v b _ NB.is).mono ?_
  rintro e w28 ⟨pv, rfl, hq, x⟩
  have BP := hq _ NB
  have Fpv := BP.is.flat
  clear hq
  have z4 := x.size
  replace E := E.trans x
  replace NB := NB.ext x
  replace LB4 := LB4.ext x
  replace RB4 := RB4.ext x
  clear x
  have TB6 : True := trivial
  have TG6 : True := trivial
  go_wp2_with (first | (clear TB6; refine allocsB rfl rfl ?_; intro B6 w6 bB6 cB6 XB6 LB6 RB6; have z5 := XB6.size; replace E := E.trans XB6; replace NB := NB.ext XB6; replace LB4 := LB4.ext XB6; replace RB4 := RB4.ext XB6; replace BP := BP.ext XB6) | (clear TG6; have hRl := (RB6).lt (Nat.zero_lt_succ _); refine storesB (B := B6) rfl rfl rfl (v := pv) rfl RB6 Fpv ?_; clear LB6; intro s6 G6 LB6 RQ; have z7 := G6.size; replace E := grown_ext E G6 (by omega); replace NB := NB.grown G6 (by omega); replace LB4 := LB4.grown G6 (by omega); replace RB4 := RB4.grown G6 (by omega); replace BP := BP.grown G6 (by omega); clear RB6; have RB6 := RQ; clear RQ hRl; clear RB6) | (refine loadsB (B := B6) (by rfl) rfl rfl LB6 ?_))
  clear LB6
  refine (cb pv _ _ BP).mono ?_
  rintro e w34 ⟨rfl, x⟩
  have z8 := x.size
  replace E := E.trans x
  replace NB := NB.ext x
  replace LB4 := LB4.ext x
  replace RB4 := RB4.ext x
  replace BP := BP.ext x
  clear x
  have TG9 : True := trivial
  go_wp2_with (clear TG9; have hRl := (RB4).lt (Nat.zero_lt_succ _); refine storesV (B := B4) rfl rfl rfl (v := zeroVec) rfl RB4 zeroVec_flat ?_; clear LB4; intro s9 G9 LB4 RQ; have z10 := G9.size; replace E := grown_ext E G9 (by omega); replace NB := NB.grown G9 (by omega); clear RB4; have RB4 := RQ; clear RQ hRl; clear RB4)
  refine bodyPost_ret (results_lay2 rfl rfl rfl (ldV LB4)) rfl ?_
  exact ⟨rfl, E⟩
theorem ma_wh0 (h1 : ¬ f < 1) (h2 : ¬ 8 < f) (K : Nat) (x : List Nat) (hv : IsNum w v K x) (hK : K ≠ 1) (hK3 : K ≤ 3) (h4 : (f != 4) = true) (h0 : x.length = 0) : Calls Tryd.prog 14 #[.int .i64 f, v] w fun e w' => ∃ p, e = .returned (.tuple #[p, .int .i64 0]) ∧ IsNum w' p (leastL []) [] ∧ Ext w w' := by
  have hF := hv.flat
  have NV := NumS.all hv
  have da := fun w' h => nclass_any v K x w' h
  have dp : ∀ w', IsNum w' v K x → Calls Tryd.prog 41 #[v] w' fun e w2 => e = .returned (.tuple #[zeroBits, .bool false]) ∧ Ext w' w2 := fun w' h => npacked_none v K x w' h hK
  have dw : ∀ w', IsNum w' v K x → Calls Tryd.prog 43 #[v] w' fun e w2 => ∃ A c, e = .returned (.tuple #[.slice A 0 c, .bool true]) ∧ Ext w' w2 := fun w' h => (nwholes_any v K x w' h hK3).mono fun e w2 => by
    rintro ⟨v', rfl, ho, hx⟩
    rw [h0] at ho
    rcases RowC.of ho with ⟨rfl, _, _⟩ | ⟨g, c, rfl, _, _⟩
    · exact ⟨none, 0, rfl, hx⟩
    · exact ⟨_, c, rfl, hx⟩
  have cw := fun A c w' => mwh_0 f A c w'
  clear hv
  have E := Ext.refl w
  go_enter Tryd.func14, Tryd.ntmps14
  have TB3 : True := trivial
  have TB4 : True := trivial
  go_wp2_with (first | (clear TB3; refine boxsV (v := v) rfl rfl rfl hF ?_; intro B3 w3 bB3 cB3 XB3 LB3 RB3; have z1 := XB3.size; replace E := E.trans XB3; replace NV := NV.ext XB3; clear RB3) | (clear TB4; refine allocsV rfl rfl ?_; intro B4 w4 bB4 cB4 XB4 LB4 RB4; have z2 := XB4.size; replace E := E.trans XB4; replace NV := NV.ext XB4; replace LB3 := LB3.ext XB4) | (refine loadsV (B := B3) (by rfl) rfl rfl LB3 ?_))
  refine (da _ NV.is).mono ?_
  rintro e w23 ⟨rfl, x'⟩
  have z3 := x'.size
  replace E := E.trans x'
  replace NV := NV.ext x'
  replace LB3 := LB3.ext x'
  replace LB4 := LB4.ext x'
  replace RB4 := RB4.ext x'
  clear x'
  go_wp2_with (refine loadsV (B := B3) (by rfl) rfl rfl LB3 ?_)
  refine (dp _ NV.is).mono ?_
  rintro e w28 ⟨rfl, x'⟩
  have z4 := x'.size
  replace E := E.trans x'
  replace NV := NV.ext x'
  replace LB3 := LB3.ext x'
  replace LB4 := LB4.ext x'
  replace RB4 := RB4.ext x'
  clear x'
  have TB6 : True := trivial
  have TG6 : True := trivial
  go_wp2_with (first | (clear TB6; refine allocsB rfl rfl ?_; intro B6 w6 bB6 cB6 XB6 LB6 RB6; have z5 := XB6.size; replace E := E.trans XB6; replace NV := NV.ext XB6; replace LB3 := LB3.ext XB6; replace LB4 := LB4.ext XB6; replace RB4 := RB4.ext XB6; clear LB6) | (clear TG6; have hRl := (RB6).lt (Nat.zero_lt_succ _); refine storesB (B := B6) rfl rfl rfl (v := zeroBits) rfl RB6 zeroBits_flat ?_; intro s6 G6 LB6 RQ; have z7 := G6.size; replace E := grown_ext E G6 (by omega); replace NV := NV.grown G6 (by omega); replace LB3 := LB3.grown G6 (by omega); replace LB4 := LB4.grown G6 (by omega); replace RB4 := RB4.grown G6 (by omega); clear RB6; have RB6 := RQ; clear RQ hRl; clear LB6 RB6) | (refine loadsV (B := B3) (by rfl) rfl rfl LB3 ?_))
  clear LB3
  refine (dw _ NV.is).mono ?_
  rintro e w39 ⟨A, c, rfl, x'⟩
  have z8 := x'.size
  replace E := E.trans x'
  replace NV := NV.ext x'
  replace LB4 := LB4.ext x'
  replace RB4 := RB4.ext x'
  clear x'
  go_wp2_with fail
  refine (cw A c _).mono ?_
  rintro e w49 ⟨q, rfl, hq, x'⟩
  have NQ := hq.now
  have Fq := NQ.is.flat
  clear hq
  have z9 := x'.size
  replace E := E.trans x'
  replace NV := NV.ext x'
  replace LB4 := LB4.ext x'
  replace RB4 := RB4.ext x'
  clear x'
  have TG10 : True := trivial
  go_wp2_with (clear TG10; have hRl := (RB4).lt (Nat.zero_lt_succ _); refine storesV (B := B4) rfl rfl rfl (v := q) rfl RB4 Fq ?_; clear LB4; intro s10 G10 LB4 RQ; have z11 := G10.size; replace E := grown_ext E G10 (by omega); replace NV := NV.grown G10 (by omega); replace NQ := NQ.grown G10 (by first | omega | (dsimp only [New]; omega)); clear RB4; have RB4 := RQ; clear RQ hRl; clear RB4)
  refine bodyPost_ret (results_lay2 rfl rfl rfl (ldV LB4)) rfl ?_
  exact ⟨q, rfl, NQ.is, E⟩
theorem ma_wh (h1 : ¬ f < 1) (h2 : ¬ 8 < f) (K : Nat) (x : List Nat) (hv : IsNum w v K x) (hK : K ≠ 1) (hK3 : K ≤ 3) (h4 : (f != 4) = true) (n : Nat) (hn : n = x.length) (hn0 : n ≠ 0) (L : List Nat) (cw : ∀ g c w', Ext w w' → w.heap.size ≤ g → RowC 2 w' g n c (i64s (toI x)) → Calls Tryd.prog 44 #[.int .i64 f, .slice (some ⟨g, 0, none⟩) n c] w' fun e w2 => ∃ q, e = .returned (.tuple #[q, .int .i64 0]) ∧ NumS w2 q (leastL L) L (New w'.heap.size) ∧ Ext w w2 ∧ Grw w' g w2) : Calls Tryd.prog 14 #[.int .i64 f, v] w fun e w' => ∃ p, e = .returned (.tuple #[p, .int .i64 0]) ∧ IsNum w' p (leastL L) L ∧ Ext w w' := by
  have hF := hv.flat
  have NV := NumS.all hv
  have da := fun w' h => nclass_any v K x w' h
  have dp : ∀ w', IsNum w' v K x → Calls Tryd.prog 41 #[v] w' fun e w2 => e = .returned (.tuple #[zeroBits, .bool false]) ∧ Ext w' w2 := fun w' h => npacked_none v K x w' h hK
  have dw : ∀ w', IsNum w' v K x → Calls Tryd.prog 43 #[v] w' fun e w2 => ∃ g c, e = .returned (.tuple #[.slice (some ⟨g, 0, none⟩) n c, .bool true]) ∧ w'.heap.size ≤ g ∧ RowC 2 w2 g n c (i64s (toI x)) ∧ Ext w' w2 := fun w' h => (nwholes_any v K x w' h hK3).mono fun e w2 => by
    rintro ⟨v', rfl, ho, hx⟩
    rw [← hn] at ho
    rcases RowC.of ho with ⟨_, h0, _⟩ | ⟨g, c, rfl, hg, hr⟩
    · exact absurd h0 hn0
    · exact ⟨g, c, rfl, hg, hr, hx⟩
  clear hv hn
  have E := Ext.refl w
  go_enter Tryd.func14, Tryd.ntmps14
  have TB3 : True := trivial
  have TB4 : True := trivial
  go_wp2_with (first | (clear TB3; refine boxsV (v := v) rfl rfl rfl hF ?_; intro B3 w3 bB3 cB3 XB3 LB3 RB3; have z1 := XB3.size; replace E := E.trans XB3; replace NV := NV.ext XB3; clear RB3) | (clear TB4; refine allocsV rfl rfl ?_; intro B4 w4 bB4 cB4 XB4 LB4 RB4; have z2 := XB4.size; replace E := E.trans XB4; replace NV := NV.ext XB4; replace LB3 := LB3.ext XB4) | (refine loadsV (B := B3) (by rfl) rfl rfl LB3 ?_))
  refine (da _ NV.is).mono ?_
  rintro e w23 ⟨rfl, x'⟩
  have z3 := x'.size
  replace E := E.trans x'
  replace NV := NV.ext x'
  replace LB3 := LB3.ext x'
  replace LB4 := LB4.ext x'
  replace RB4 := RB4.ext x'
  clear x'
  go_wp2_with (refine loadsV (B := B3) (by rfl) rfl rfl LB3 ?_)
  refine (dp _ NV.is).mono ?_
  rintro e w28 ⟨rfl, x'⟩
  have z4 := x'.size
  replace E := E.trans x'
  replace NV := NV.ext x'
  replace LB3 := LB3.ext x'
  replace LB4 := LB4.ext x'
  replace RB4 := RB4.ext x'
  clear x'
  have TB6 : True := trivial
  have TG6 : True := trivial
  go_wp2_with (first | (clear TB6; refine allocsB rfl rfl ?_; intro B6 w6 bB6 cB6 XB6 LB6 RB6; have z5 := XB6.size; replace E := E.trans XB6; replace NV := NV.ext XB6; replace LB3 := LB3.ext XB6; replace LB4 := LB4.ext XB6; replace RB4 := RB4.ext XB6; clear LB6) | (clear TG6; have hRl := (RB6).lt (Nat.zero_lt_succ _); refine storesB (B := B6) rfl rfl rfl (v := zeroBits) rfl RB6 zeroBits_flat ?_; intro s6 G6 LB6 RQ; have z7 := G6.size; replace E := grown_ext E G6 (by omega); replace NV := NV.grown G6 (by omega); replace LB3 := LB3.grown G6 (by omega); replace LB4 := LB4.grown G6 (by omega); replace RB4 := RB4.grown G6 (by omega); clear RB6; have RB6 := RQ; clear RQ hRl; clear LB6 RB6) | (refine loadsV (B := B3) (by rfl) rfl rfl LB3 ?_))
  clear LB3
  refine (dw _ NV.is).mono ?_
  rintro e w39 ⟨g, c, rfl, hgg, Og, x'⟩
  have z8 := x'.size
  replace E := E.trans x'
  replace NV := NV.ext x'
  replace LB4 := LB4.ext x'
  replace RB4 := RB4.ext x'
  clear x'
  go_wp2_with fail
  refine (cw g c _ E (by omega) Og).mono ?_
  rintro e w49 ⟨q, rfl, hq, E', hg⟩
  clear Og
  have NQ := hq.now
  have Fq := NQ.is.flat
  clear hq
  clear E'
  have z9 := hg.size
  replace E := grown_ext E hg (by omega)
  replace NV := NV.grown hg (by omega)
  replace LB4 := LB4.grown hg (by omega)
  replace RB4 := RB4.grown hg (by omega)
  clear hg
  have TG10 : True := trivial
  go_wp2_with (clear TG10; have hRl := (RB4).lt (Nat.zero_lt_succ _); refine storesV (B := B4) rfl rfl rfl (v := q) rfl RB4 Fq ?_; clear LB4; intro s10 G10 LB4 RQ; have z11 := G10.size; replace E := grown_ext E G10 (by omega); replace NV := NV.grown G10 (by omega); replace NQ := NQ.grown G10 (by first | omega | (dsimp only [New]; omega)); clear RB4; have RB4 := RQ; clear RQ hRl; clear RB4)
  refine bodyPost_ret (results_lay2 rfl rfl rfl (ldV LB4)) rfl ?_
  exact ⟨q, rfl, NQ.is, E⟩
theorem ma_whe (h1 : ¬ f < 1) (h2 : ¬ 8 < f) (K : Nat) (x : List Nat) (hv : IsNum w v K x) (hK : K ≠ 1) (hK3 : K ≤ 3) (h4 : (f != 4) = true) (n : Nat) (hn : n = x.length) (hn0 : n ≠ 0) (er : Int) (cw : ∀ g c w', Ext w w' → w.heap.size ≤ g → RowC 2 w' g n c (i64s (toI x)) → Calls Tryd.prog 44 #[.int .i64 f, .slice (some ⟨g, 0, none⟩) n c] w' fun e w2 => e = .returned (.tuple #[zeroVec, .int .i64 er]) ∧ Ext w w2 ∧ Grw w' g w2) : Calls Tryd.prog 14 #[.int .i64 f, v] w fun e w' => e = .returned (.tuple #[zeroVec, .int .i64 er]) ∧ Ext w w' := by
  have hF := hv.flat
  have NV := NumS.all hv
  have da := fun w' h => nclass_any v K x w' h
  have dp : ∀ w', IsNum w' v K x → Calls Tryd.prog 41 #[v] w' fun e w2 => e = .returned (.tuple #[zeroBits, .bool false]) ∧ Ext w' w2 := fun w' h => npacked_none v K x w' h hK
  have dw : ∀ w', IsNum w' v K x → Calls Tryd.prog 43 #[v] w' fun e w2 => ∃ g c, e = .returned (.tuple #[.slice (some ⟨g, 0, none⟩) n c, .bool true]) ∧ w'.heap.size ≤ g ∧ RowC 2 w2 g n c (i64s (toI x)) ∧ Ext w' w2 := fun w' h => (nwholes_any v K x w' h hK3).mono fun e w2 => by
    rintro ⟨v', rfl, ho, hx⟩
    rw [← hn] at ho
    rcases RowC.of ho with ⟨_, h0, _⟩ | ⟨g, c, rfl, hg, hr⟩
    · exact absurd h0 hn0
    · exact ⟨g, c, rfl, hg, hr, hx⟩
  clear hv hn
  have E := Ext.refl w
  go_enter Tryd.func14, Tryd.ntmps14
  have TB3 : True := trivial
  have TB4 : True := trivial
  go_wp2_with (first | (clear TB3; refine boxsV (v := v) rfl rfl rfl hF ?_; intro B3 w3 bB3 cB3 XB3 LB3 RB3; have z1 := XB3.size; replace E := E.trans XB3; replace NV := NV.ext XB3; clear RB3) | (clear TB4; refine allocsV rfl rfl ?_; intro B4 w4 bB4 cB4 XB4 LB4 RB4; have z2 := XB4.size; replace E := E.trans XB4; replace NV := NV.ext XB4; replace LB3 := LB3.ext XB4) | (refine loadsV (B := B3) (by rfl) rfl rfl LB3 ?_))
  refine (da _ NV.is).mono ?_
  rintro e w23 ⟨rfl, x'⟩
  have z3 := x'.size
  replace E := E.trans x'
  replace NV := NV.ext x'
  replace LB3 := LB3.ext x'
  replace LB4 := LB4.ext x'
  replace RB4 := RB4.ext x'
  clear x'
  go_wp2_with (refine loadsV (B := B3) (by rfl) rfl rfl LB3 ?_)
  refine (dp _ NV.is).mono ?_
  rintro e w28 ⟨rfl, x'⟩
  have z4 := x'.size
  replace E := E.trans x'
  replace NV := NV.ext x'
  replace LB3 := LB3.ext x'
  replace LB4 := LB4.ext x'
  replace RB4 := RB4.ext x'
  clear x'
  have TB6 : True := trivial
  have TG6 : True := trivial
  go_wp2_with (first | (clear TB6; refine allocsB rfl rfl ?_; intro B6 w6 bB6 cB6 XB6 LB6 RB6; have z5 := XB6.size; replace E := E.trans XB6; replace NV := NV.ext XB6; replace LB3 := LB3.ext XB6; replace LB4 := LB4.ext XB6; replace RB4 := RB4.ext XB6; clear LB6) | (clear TG6; have hRl := (RB6).lt (Nat.zero_lt_succ _); refine storesB (B := B6) rfl rfl rfl (v := zeroBits) rfl RB6 zeroBits_flat ?_; intro s6 G6 LB6 RQ; have z7 := G6.size; replace E := grown_ext E G6 (by omega); replace NV := NV.grown G6 (by omega); replace LB3 := LB3.grown G6 (by omega); replace LB4 := LB4.grown G6 (by omega); replace RB4 := RB4.grown G6 (by omega); clear RB6; have RB6 := RQ; clear RQ hRl; clear LB6 RB6) | (refine loadsV (B := B3) (by rfl) rfl rfl LB3 ?_))
  clear LB3
  refine (dw _ NV.is).mono ?_
  rintro e w39 ⟨g, c, rfl, hgg, Og, x'⟩
  have z8 := x'.size
  replace E := E.trans x'
  replace NV := NV.ext x'
  replace LB4 := LB4.ext x'
  replace RB4 := RB4.ext x'
  clear x'
  go_wp2_with fail
  refine (cw g c _ E (by omega) Og).mono ?_
  rintro e w49 ⟨rfl, E', hg⟩
  clear Og
  clear E'
  have z9 := hg.size
  replace E := grown_ext E hg (by omega)
  replace NV := NV.grown hg (by omega)
  replace LB4 := LB4.grown hg (by omega)
  replace RB4 := RB4.grown hg (by omega)
  clear hg
  have TG10 : True := trivial
  go_wp2_with (clear TG10; have hRl := (RB4).lt (Nat.zero_lt_succ _); refine storesV (B := B4) rfl rfl rfl (v := zeroVec) rfl RB4 zeroVec_flat ?_; clear LB4; intro s10 G10 LB4 RQ; have z11 := G10.size; replace E := grown_ext E G10 (by omega); replace NV := NV.grown G10 (by omega); clear RB4; have RB4 := RQ; clear RQ hRl; clear RB4)
  refine bodyPost_ret (results_lay2 rfl rfl rfl (ldV LB4)) rfl ?_
  exact ⟨rfl, E⟩
theorem ma_fl04 (h1 : ¬ f < 1) (h2 : ¬ 8 < f) (K : Nat) (x : List Nat) (hv : IsNum w v K x) (hK : K ≠ 1) (h4 : (f != 4) = false) (hK3 : K ≤ 3) (h0 : x.length = 0) : Calls Tryd.prog 14 #[.int .i64 f, v] w fun e w' => ∃ p, e = .returned (.tuple #[p, .int .i64 0]) ∧ IsNum w' p (leastL []) [] ∧ Ext w w' := by
  have hF := hv.flat
  have NV := NumS.all hv
  have da := fun w' h => nclass_any v K x w' h
  have dp : ∀ w', IsNum w' v K x → Calls Tryd.prog 41 #[v] w' fun e w2 => e = .returned (.tuple #[zeroBits, .bool false]) ∧ Ext w' w2 := fun w' h => npacked_none v K x w' h hK
  have dw : ∀ w', IsNum w' v K x → Calls Tryd.prog 43 #[v] w' fun e w2 => ∃ A n c, e = .returned (.tuple #[.slice A n c, .bool true]) ∧ Ext w' w2 := fun w' h => (nwholes_any v K x w' h hK3).mono fun e w2 => by
    rintro ⟨v', rfl, ho, hx⟩
    rcases RowC.of ho with ⟨rfl, _, _⟩ | ⟨g, c, rfl, _, _⟩
    · exact ⟨none, 0, 0, rfl, hx⟩
    · exact ⟨_, _, c, rfl, hx⟩
  have dn : ∀ w', IsNum w' v K x → Calls Tryd.prog 18 #[v] w' fun e w2 => ∃ A c, e = .returned (.slice A 0 c) ∧ Ext w' w2 := fun w' h => (nnums_any v K x w' h).mono fun e w2 => by
    rintro ⟨v', rfl, ho, hx⟩
    rw [h0] at ho
    rcases RowC.of ho with ⟨rfl, _, _⟩ | ⟨g, c, rfl, _, _⟩
    · exact ⟨none, 0, rfl, hx⟩
    · exact ⟨_, c, rfl, hx⟩
  have ck := fun A c w' => mkept_any A [] 0 rfl (fun _ h => by cases h) c w' (by omega) (Sl.nil w' 1 A)
  clear hv
  have E := Ext.refl w
  go_enter Tryd.func14, Tryd.ntmps14
  have TB3 : True := trivial
  have TB4 : True := trivial
  go_wp2_with (first | (clear TB3; refine boxsV (v := v) rfl rfl rfl hF ?_; intro B3 w3 bB3 cB3 XB3 LB3 RB3; have z1 := XB3.size; replace E := E.trans XB3; replace NV := NV.ext XB3; clear RB3) | (clear TB4; refine allocsV rfl rfl ?_; intro B4 w4 bB4 cB4 XB4 LB4 RB4; have z2 := XB4.size; replace E := E.trans XB4; replace NV := NV.ext XB4; replace LB3 := LB3.ext XB4) | (refine loadsV (B := B3) (by rfl) rfl rfl LB3 ?_))
  refine (da _ NV.is).mono ?_
  rintro e w23 ⟨rfl, x'⟩
  have z3 := x'.size
  replace E := E.trans x'
  replace NV := NV.ext x'
  replace LB3 := LB3.ext x'
  replace LB4 := LB4.ext x'
  replace RB4 := RB4.ext x'
  clear x'
  go_wp2_with (refine loadsV (B := B3) (by rfl) rfl rfl LB3 ?_)
  refine (dp _ NV.is).mono ?_
  rintro e w28 ⟨rfl, x'⟩
  have z4 := x'.size
  replace E := E.trans x'
  replace NV := NV.ext x'
  replace LB3 := LB3.ext x'
  replace LB4 := LB4.ext x'
  replace RB4 := RB4.ext x'
  clear x'
  have TB6 : True := trivial
  have TG6 : True := trivial
  go_wp2_with (first | (clear TB6; refine allocsB rfl rfl ?_; intro B6 w6 bB6 cB6 XB6 LB6 RB6; have z5 := XB6.size; replace E := E.trans XB6; replace NV := NV.ext XB6; replace LB3 := LB3.ext XB6; replace LB4 := LB4.ext XB6; replace RB4 := RB4.ext XB6; clear LB6) | (clear TG6; have hRl := (RB6).lt (Nat.zero_lt_succ _); refine storesB (B := B6) rfl rfl rfl (v := zeroBits) rfl RB6 zeroBits_flat ?_; intro s6 G6 LB6 RQ; have z7 := G6.size; replace E := grown_ext E G6 (by omega); replace NV := NV.grown G6 (by omega); replace LB3 := LB3.grown G6 (by omega); replace LB4 := LB4.grown G6 (by omega); replace RB4 := RB4.grown G6 (by omega); clear RB6; have RB6 := RQ; clear RQ hRl; clear LB6 RB6) | (refine loadsV (B := B3) (by rfl) rfl rfl LB3 ?_))
  refine (dw _ NV.is).mono ?_
  rintro e w39 ⟨A9, n9, c9, rfl, x'⟩
  have z8 := x'.size
  replace E := E.trans x'
  replace NV := NV.ext x'
  replace LB3 := LB3.ext x'
  replace LB4 := LB4.ext x'
  replace RB4 := RB4.ext x'
  clear x'
  go_wp2_with (refine loadsV (B := B3) (by rfl) rfl rfl LB3 ?_)
  clear LB3
  refine (dn _ NV.is).mono ?_
  rintro e w53 ⟨A, c, rfl, x'⟩
  have z9 := x'.size
  replace E := E.trans x'
  replace NV := NV.ext x'
  replace LB4 := LB4.ext x'
  replace RB4 := RB4.ext x'
  clear x'
  go_wp2_with fail
  go_loopw [56] (fun i wr => i = .int .i64 0 ∧ Ext w53 wr) (fun i _ => 0)
  case atStart => exact ⟨rfl, Ext.refl _⟩
  case round =>
    obtain ⟨rfl, HX⟩ := hrel
    have z10 := HX.size
    replace E := E.trans HX
    replace NV := NV.ext HX
    replace LB4 := LB4.ext HX
    replace RB4 := RB4.ext HX
    have TT := trivial
    · clear TT HX
      go_wp2_with fail
      refine (ck A c _).mono ?_
      rintro e w77 ⟨q, rfl, hq, x'⟩
      have NQ := hq.now
      have Fq := NQ.is.flat
      clear hq
      have z11 := x'.size
      replace E := E.trans x'
      replace NV := NV.ext x'
      replace LB4 := LB4.ext x'
      replace RB4 := RB4.ext x'
      clear x'
      have TG12 : True := trivial
      go_wp2_with (clear TG12; have hRl := (RB4).lt (Nat.zero_lt_succ _); refine storesV (B := B4) rfl rfl rfl (v := q) rfl RB4 Fq ?_; clear LB4; intro s12 G12 LB4 RQ; have z13 := G12.size; replace E := grown_ext E G12 (by omega); replace NV := NV.grown G12 (by omega); replace NQ := NQ.grown G12 (by first | omega | (dsimp only [New]; omega)); clear RB4; have RB4 := RQ; clear RQ hRl; clear RB4)
      refine bodyPost_ret (results_lay2 rfl rfl rfl (ldV LB4)) rfl ?_
      exact ⟨q, rfl, NQ.is, E⟩
theorem ma_fl4 (h1 : ¬ f < 1) (h2 : ¬ 8 < f) (K : Nat) (x : List Nat) (hv : IsNum w v K x) (hK : K ≠ 1) (h4 : (f != 4) = false) (hK3 : K ≤ 3) (n : Nat) (hn : n = x.length) (hN2 : n ≤ 1048576) (hn0 : n ≠ 0) : Calls Tryd.prog 14 #[.int .i64 f, v] w (MoU (errMF f x n) (resM f x) w) := by
  have hF := hv.flat
  have NV := NumS.all hv
  have da := fun w' h => nclass_any v K x w' h
  have dp : ∀ w', IsNum w' v K x → Calls Tryd.prog 41 #[v] w' fun e w2 => e = .returned (.tuple #[zeroBits, .bool false]) ∧ Ext w' w2 := fun w' h => npacked_none v K x w' h hK
  have dw : ∀ w', IsNum w' v K x → Calls Tryd.prog 43 #[v] w' fun e w2 => ∃ A n c, e = .returned (.tuple #[.slice A n c, .bool true]) ∧ Ext w' w2 := fun w' h => (nwholes_any v K x w' h hK3).mono fun e w2 => by
    rintro ⟨v', rfl, ho, hx⟩
    rcases RowC.of ho with ⟨rfl, _, _⟩ | ⟨g, c, rfl, _, _⟩
    · exact ⟨none, 0, 0, rfl, hx⟩
    · exact ⟨_, _, c, rfl, hx⟩
  have dn : ∀ w', IsNum w' v K x → Calls Tryd.prog 18 #[v] w' fun e w2 => ∃ g c, e = .returned (.slice (some ⟨g, 0, none⟩) n c) ∧ w'.heap.size ≤ g ∧ RowC 22 w2 g n c (f64s x) ∧ Ext w' w2 := fun w' h => (nnums_any v K x w' h).mono fun e w2 => by
    rintro ⟨v', rfl, ho, hx⟩
    rw [← hn] at ho
    rcases RowC.of ho with ⟨_, h0, _⟩ | ⟨g, c, rfl, hg, hr⟩
    · exact absurd h0 hn0
    · exact ⟨g, c, rfl, hg, hr, hx⟩
  have htx := hv.tidy
  have co : ∀ k w', k < n → Calls Tryd.prog 8 #[.int .i64 f, .float .f64 (x.getD k 0)] w' fun e w2 => e = .returned (.tuple #[.float .f64 (valM f (x.getD k 0)), .int .i64 (errM f (x.getD k 0))]) ∧ Ext w' w2 := fun k w' hk => (mo_any f _ (htx _ (getD_memN (by omega))) w').mono fun e w2 h => ⟨h.1, h.2 ▸ Ext.refl _⟩
  have ck := fun g c w' (hO : RowC 22 w' g n c (f64s (resM f x))) => mkept_any (some ⟨g, 0, none⟩) (resM f x) n (by rw [resM_length]; exact hn) (resM_tidy f htx) c w' hN2 hO.sl
  have HEND : Hid (mixV (fun j => .float .f64 (valM f (x.getD j 0))) (fun j => .float .f64 (x.getD j 0)) n n = f64s (resM f x)) := by show _ = _; rw [mixV_full, resM_row, hn]
  have HSTA : Hid (f64s x = mixV (fun j => .float .f64 (valM f (x.getD j 0))) (fun j => .float .f64 (x.getD j 0)) n 0) := by show _ = _; rw [mixV_zero, range_f64, hn]
  have HE : Hid (∀ k, errMF f x (k + 1) = if errMF f x k ≠ 0 then errMF f x k else errM f (x.getD k 0)) := fun k => rfl
  have HST : Hid (∀ k, errMF f x k ≠ 0 → k ≤ n → errMF f x n = errMF f x k) := fun k h hk => errMF_stay h hk
  have H0 : Hid (errMF f x 0 = 0) := rfl
  unfold MoU
  obtain ⟨EF, hEF⟩ : ∃ EF : Nat → Int, errMF f x = EF := ⟨_, rfl⟩
  rw [hEF] at HE HST H0 ⊢
  clear hEF htx hn
  generalize resM f x = L at *
  obtain ⟨FN, hFN⟩ : ∃ FN : Nat → Value, FN = fun j => .float .f64 (valM f (x.getD j 0)) := ⟨_, rfl⟩
  obtain ⟨HN, hHN⟩ : ∃ HN : Nat → Value, HN = fun j => .float .f64 (x.getD j 0) := ⟨_, rfl⟩
  have HF : Hid (∀ k, FN k = .float .f64 (valM f (x.getD k 0))) := fun k => by rw [hFN]
  have HH : Hid (∀ k, HN k = .float .f64 (x.getD k 0)) := fun k => by rw [hHN]
  rw [← hFN, ← hHN] at HEND HSTA
  clear hFN hHN hv
  have E := Ext.refl w
  go_enter Tryd.func14, Tryd.ntmps14
  have TB3 : True := trivial
  have TB4 : True := trivial
  go_wp2_with (first | (clear TB3; refine boxsV (v := v) rfl rfl rfl hF ?_; intro B3 w3 bB3 cB3 XB3 LB3 RB3; have z1 := XB3.size; replace E := E.trans XB3; replace NV := NV.ext XB3; clear RB3) | (clear TB4; refine allocsV rfl rfl ?_; intro B4 w4 bB4 cB4 XB4 LB4 RB4; have z2 := XB4.size; replace E := E.trans XB4; replace NV := NV.ext XB4; replace LB3 := LB3.ext XB4) | (refine loadsV (B := B3) (by rfl) rfl rfl LB3 ?_))
  refine (da _ NV.is).mono ?_
  rintro e w23 ⟨rfl, x'⟩
  have z3 := x'.size
  replace E := E.trans x'
  replace NV := NV.ext x'
  replace LB3 := LB3.ext x'
  replace LB4 := LB4.ext x'
  replace RB4 := RB4.ext x'
  clear x'
  go_wp2_with (refine loadsV (B := B3) (by rfl) rfl rfl LB3 ?_)
  refine (dp _ NV.is).mono ?_
  rintro e w28 ⟨rfl, x'⟩
  have z4 := x'.size
  replace E := E.trans x'
  replace NV := NV.ext x'
  replace LB3 := LB3.ext x'
  replace LB4 := LB4.ext x'
  replace RB4 := RB4.ext x'
  clear x'
  have TB6 : True := trivial
  have TG6 : True := trivial
  go_wp2_with (first | (clear TB6; refine allocsB rfl rfl ?_; intro B6 w6 bB6 cB6 XB6 LB6 RB6; have z5 := XB6.size; replace E := E.trans XB6; replace NV := NV.ext XB6; replace LB3 := LB3.ext XB6; replace LB4 := LB4.ext XB6; replace RB4 := RB4.ext XB6; clear LB6) | (clear TG6; have hRl := (RB6).lt (Nat.zero_lt_succ _); refine storesB (B := B6) rfl rfl rfl (v := zeroBits) rfl RB6 zeroBits_flat ?_; intro s6 G6 LB6 RQ; have z7 := G6.size; replace E := grown_ext E G6 (by omega); replace NV := NV.grown G6 (by omega); replace LB3 := LB3.grown G6 (by omega); replace LB4 := LB4.grown G6 (by omega); replace RB4 := RB4.grown G6 (by omega); clear RB6; have RB6 := RQ; clear RQ hRl; clear LB6 RB6) | (refine loadsV (B := B3) (by rfl) rfl rfl LB3 ?_))
  refine (dw _ NV.is).mono ?_
  rintro e w39 ⟨A9, n9, c9, rfl, x'⟩
  have z8 := x'.size
  replace E := E.trans x'
  replace NV := NV.ext x'
  replace LB3 := LB3.ext x'
  replace LB4 := LB4.ext x'
  replace RB4 := RB4.ext x'
  clear x'
  go_wp2_with (refine loadsV (B := B3) (by rfl) rfl rfl LB3 ?_)
  clear LB3
  refine (dn _ NV.is).mono ?_
  rintro e w53 ⟨g, c, rfl, hgg, Og, x'⟩
  have z9 := x'.size
  replace E := E.trans x'
  replace NV := NV.ext x'
  replace LB4 := LB4.ext x'
  replace RB4 := RB4.ext x'
  clear x'
  go_wp2_with fail
  rw [HSTA.out] at Og
  go_loopw [56] (fun i wr => ∃ k : Nat, k ≤ n ∧ i = .int .i64 k ∧ EF k = 0 ∧ Grw w53 g wr ∧ RowC 22 wr g n c (mixV FN HN n k)) (fun i _ => n - (intOf i).toNat)
  case atStart => exact ⟨0, Nat.zero_le _, rfl, H0.out, Grw.refl _ _, Og⟩
  case round =>
    obtain ⟨k, hk, rfl, hup, HG, O2⟩ := hrel
    have HU := Lib.hid hup
    clear Og hup
    have Og := O2
    clear O2
    have z10 := HG.out.size
    replace E := grown_ext E HG.out (by omega)
    replace NV := NV.grown HG.out (by omega)
    replace LB4 := LB4.grown HG.out (by omega)
    replace RB4 := RB4.grown HG.out (by omega)
    have hcase : k < n ∧ errM f (x.getD k 0) = 0 ∨ k < n ∧ ¬ errM f (x.getD k 0) = 0 ∨ ¬ k < n := by omega
    rcases hcase with ⟨hlt, hz⟩ | ⟨hlt, hz⟩ | hlt
    · have D0 : wr.cell? ⟨g, k, none⟩ = some (.float .f64 (x.getD k 0)) := by rw [World.ownsRow.cellAt Og k (by omega), mixV_get _ _ hlt, HH.out]
      have HEk := Lib.hid (HE.out k)
      have cok := fun w' => co k w' hlt
      have HSET : Hid ((mixV FN HN n k).set k (.float .f64 (valM f (x.getD k 0))) = mixV FN HN n (k + 1)) := by show _ = _; rw [← mixV_set FN HN hlt, HF.out]
      rw [hz] at cok
      clear co
      generalize errM f (x.getD k 0) = ek at *
      have HEZ := Lib.hid hz
      clear hz
      generalize valM f (x.getD k 0) = vk at *
      generalize x.getD k 0 = xk at *
      go_wp2_with fail
      refine (cok _).mono ?_
      rintro e w64 ⟨rfl, x'⟩
      have z11 := x'.size
      replace E := E.trans x'
      replace NV := NV.ext x'
      replace LB4 := LB4.ext x'
      replace RB4 := RB4.ext x'
      replace Og := Og.ext x'
      replace HG := HG.ext x'
      clear x'
      have TG12 : True := trivial
      go_wp2_with (clear TG12; have hRl := Og.lt; refine storesc_f64 rfl rfl (g := g) (k := k) (n := n) (by rfl) rfl (by rfl) Og hlt ?_; clear Og; intro s12 G12 Og; have z13 := G12.size; replace E := grown_ext E G12 (by omega); replace NV := NV.grown G12 (by omega); replace LB4 := LB4.grown G12 (by omega); replace RB4 := RB4.grown G12 (by omega); replace HG := HG.grown G12 (by omega); clear hRl G12)
      exact ⟨⟨k + 1, by omega, by go_num, by rw [HEk.out, if_neg (by rw [HU.out]; decide)]; exact HEZ.out, HG, by rw [← HSET.out]; exact Og⟩, by simp [intOf]; omega⟩
    · have D0 : wr.cell? ⟨g, k, none⟩ = some (.float .f64 (x.getD k 0)) := by rw [World.ownsRow.cellAt Og k (by omega), mixV_get _ _ hlt, HH.out]
      have HEk := Lib.hid (HE.out k)
      have cok := fun w' => co k w' hlt
      have hE : Hid (EF n = errM f (x.getD k 0)) := by
        show EF n = _
        rw [HST.out (k + 1) (by rw [HEk.out, if_neg (by rw [HU.out]; decide)]; exact hz) (by omega), HEk.out, if_neg (by rw [HU.out]; decide)]
      have e68 : (errM f (x.getD k 0) != 0) = true := by simpa using hz
      have HZ := Lib.hid hz
      clear hz co HG
      generalize errM f (x.getD k 0) = ek at *
      generalize valM f (x.getD k 0) = vk at *
      generalize x.getD k 0 = xk at *
      go_wp2_with fail
      refine (cok _).mono ?_
      rintro e w64 ⟨rfl, x'⟩
      have z14 := x'.size
      replace E := E.trans x'
      replace NV := NV.ext x'
      replace LB4 := LB4.ext x'
      replace RB4 := RB4.ext x'
      replace Og := Og.ext x'
      clear x'
      have TG15 : True := trivial
      go_wp2_with (clear TG15; have hRl := (RB4).lt (Nat.zero_lt_succ _); refine storesV (B := B4) rfl rfl rfl (v := zeroVec) rfl RB4 zeroVec_flat ?_; clear LB4; intro s15 G15 LB4 RQ; have z16 := G15.size; replace E := grown_ext E G15 (by omega); replace NV := NV.grown G15 (by omega); replace Og := Og.grown G15 (by omega); clear RB4; have RB4 := RQ; clear RQ hRl)
      refine bodyPost_ret (results_lay2 rfl rfl rfl (ldV LB4)) rfl ?_
      exact ⟨zeroVec, by rw [hE.out]; rfl, fun _ => rfl, fun h => absurd (hE.out.symm.trans h) HZ.out, E⟩
    · have hkN : k = n := by omega
      rw [hkN] at HU
      rw [hkN, HEND.out] at Og
      clear HG hkN
      go_wp2_with fail
      refine (ck g c _ Og).mono ?_
      rintro e w77 ⟨q, rfl, hq, x'⟩
      clear Og
      have NQ := hq.now
      have Fq := NQ.is.flat
      clear hq
      have z17 := x'.size
      replace E := E.trans x'
      replace NV := NV.ext x'
      replace LB4 := LB4.ext x'
      replace RB4 := RB4.ext x'
      clear x'
      have TG18 : True := trivial
      go_wp2_with (clear TG18; have hRl := (RB4).lt (Nat.zero_lt_succ _); refine storesV (B := B4) rfl rfl rfl (v := q) rfl RB4 Fq ?_; clear LB4; intro s18 G18 LB4 RQ; have z19 := G18.size; replace E := grown_ext E G18 (by omega); replace NV := NV.grown G18 (by omega); replace NQ := NQ.grown G18 (by first | omega | (dsimp only [New]; omega)); clear RB4; have RB4 := RQ; clear RQ hRl; clear RB4)
      refine bodyPost_ret (results_lay2 rfl rfl rfl (ldV LB4)) rfl ?_
      exact ⟨q, by rw [HU.out]; rfl, fun h => absurd HU.out h, fun _ => NQ.is, E⟩
theorem ma_fl0f (h1 : ¬ f < 1) (h2 : ¬ 8 < f) (K : Nat) (x : List Nat) (hv : IsNum w v K x) (hK : K ≠ 1) (hK4 : K = 4) (h0 : x.length = 0) : Calls Tryd.prog 14 #[.int .i64 f, v] w fun e w' => ∃ p, e = .returned (.tuple #[p, .int .i64 0]) ∧ IsNum w' p (leastL []) [] ∧ Ext w w' := by
  have hF := hv.flat
  have NV := NumS.all hv
  have da := fun w' h => nclass_any v K x w' h
  have dp : ∀ w', IsNum w' v K x → Calls Tryd.prog 41 #[v] w' fun e w2 => e = .returned (.tuple #[zeroBits, .bool false]) ∧ Ext w' w2 := fun w' h => npacked_none v K x w' h hK
  have dw : ∀ w', IsNum w' v K x → Calls Tryd.prog 43 #[v] w' fun e w2 => e = .returned (.tuple #[.slice none 0 0, .bool false]) ∧ Ext w' w2 := fun w' h => nwholes_four v x w' (hK4 ▸ h)
  have dn : ∀ w', IsNum w' v K x → Calls Tryd.prog 18 #[v] w' fun e w2 => ∃ A c, e = .returned (.slice A 0 c) ∧ Ext w' w2 := fun w' h => (nnums_any v K x w' h).mono fun e w2 => by
    rintro ⟨v', rfl, ho, hx⟩
    rw [h0] at ho
    rcases RowC.of ho with ⟨rfl, _, _⟩ | ⟨g, c, rfl, _, _⟩
    · exact ⟨none, 0, rfl, hx⟩
    · exact ⟨_, c, rfl, hx⟩
  have ck := fun A c w' => mkept_any A [] 0 rfl (fun _ h => by cases h) c w' (by omega) (Sl.nil w' 1 A)
  clear hv
  have E := Ext.refl w
  go_enter Tryd.func14, Tryd.ntmps14
  have TB3 : True := trivial
  have TB4 : True := trivial
  go_wp2_with (first | (clear TB3; refine boxsV (v := v) rfl rfl rfl hF ?_; intro B3 w3 bB3 cB3 XB3 LB3 RB3; have z1 := XB3.size; replace E := E.trans XB3; replace NV := NV.ext XB3; clear RB3) | (clear TB4; refine allocsV rfl rfl ?_; intro B4 w4 bB4 cB4 XB4 LB4 RB4; have z2 := XB4.size; replace E := E.trans XB4; replace NV := NV.ext XB4; replace LB3 := LB3.ext XB4) | (refine loadsV (B := B3) (by rfl) rfl rfl LB3 ?_))
  refine (da _ NV.is).mono ?_
  rintro e w23 ⟨rfl, x'⟩
  have z3 := x'.size
  replace E := E.trans x'
  replace NV := NV.ext x'
  replace LB3 := LB3.ext x'
  replace LB4 := LB4.ext x'
  replace RB4 := RB4.ext x'
  clear x'
  go_wp2_with (refine loadsV (B := B3) (by rfl) rfl rfl LB3 ?_)
  refine (dp _ NV.is).mono ?_
  rintro e w28 ⟨rfl, x'⟩
  have z4 := x'.size
  replace E := E.trans x'
  replace NV := NV.ext x'
  replace LB3 := LB3.ext x'
  replace LB4 := LB4.ext x'
  replace RB4 := RB4.ext x'
  clear x'
  have TB6 : True := trivial
  have TG6 : True := trivial
  go_wp2_with (first | (clear TB6; refine allocsB rfl rfl ?_; intro B6 w6 bB6 cB6 XB6 LB6 RB6; have z5 := XB6.size; replace E := E.trans XB6; replace NV := NV.ext XB6; replace LB3 := LB3.ext XB6; replace LB4 := LB4.ext XB6; replace RB4 := RB4.ext XB6; clear LB6) | (clear TG6; have hRl := (RB6).lt (Nat.zero_lt_succ _); refine storesB (B := B6) rfl rfl rfl (v := zeroBits) rfl RB6 zeroBits_flat ?_; intro s6 G6 LB6 RQ; have z7 := G6.size; replace E := grown_ext E G6 (by omega); replace NV := NV.grown G6 (by omega); replace LB3 := LB3.grown G6 (by omega); replace LB4 := LB4.grown G6 (by omega); replace RB4 := RB4.grown G6 (by omega); clear RB6; have RB6 := RQ; clear RQ hRl; clear LB6 RB6) | (refine loadsV (B := B3) (by rfl) rfl rfl LB3 ?_))
  refine (dw _ NV.is).mono ?_
  rintro e w39 ⟨rfl, x'⟩
  have z8 := x'.size
  replace E := E.trans x'
  replace NV := NV.ext x'
  replace LB3 := LB3.ext x'
  replace LB4 := LB4.ext x'
  replace RB4 := RB4.ext x'
  clear x'
  go_wp2_with (refine loadsV (B := B3) (by rfl) rfl rfl LB3 ?_)
  clear LB3
  refine (dn _ NV.is).mono ?_
  rintro e w53 ⟨A, c, rfl, x'⟩
  have z9 := x'.size
  replace E := E.trans x'
  replace NV := NV.ext x'
  replace LB4 := LB4.ext x'
  replace RB4 := RB4.ext x'
  clear x'
  go_wp2_with fail
  go_loopw [56] (fun i wr => i = .int .i64 0 ∧ Ext w53 wr) (fun i _ => 0)
  case atStart => exact ⟨rfl, Ext.refl _⟩
  case round =>
    obtain ⟨rfl, HX⟩ := hrel
    have z10 := HX.size
    replace E := E.trans HX
    replace NV := NV.ext HX
    replace LB4 := LB4.ext HX
    replace RB4 := RB4.ext HX
    have TT := trivial
    · clear TT HX
      go_wp2_with fail
      refine (ck A c _).mono ?_
      rintro e w77 ⟨q, rfl, hq, x'⟩
      have NQ := hq.now
      have Fq := NQ.is.flat
      clear hq
      have z11 := x'.size
      replace E := E.trans x'
      replace NV := NV.ext x'
      replace LB4 := LB4.ext x'
      replace RB4 := RB4.ext x'
      clear x'
      have TG12 : True := trivial
      go_wp2_with (clear TG12; have hRl := (RB4).lt (Nat.zero_lt_succ _); refine storesV (B := B4) rfl rfl rfl (v := q) rfl RB4 Fq ?_; clear LB4; intro s12 G12 LB4 RQ; have z13 := G12.size; replace E := grown_ext E G12 (by omega); replace NV := NV.grown G12 (by omega); replace NQ := NQ.grown G12 (by first | omega | (dsimp only [New]; omega)); clear RB4; have RB4 := RQ; clear RQ hRl; clear RB4)
      refine bodyPost_ret (results_lay2 rfl rfl rfl (ldV LB4)) rfl ?_
      exact ⟨q, rfl, NQ.is, E⟩
theorem ma_flf (h1 : ¬ f < 1) (h2 : ¬ 8 < f) (K : Nat) (x : List Nat) (hv : IsNum w v K x) (hK : K ≠ 1) (hK4 : K = 4) (n : Nat) (hn : n = x.length) (hN2 : n ≤ 1048576) (hn0 : n ≠ 0) : Calls Tryd.prog 14 #[.int .i64 f, v] w (MoU (errMF f x n) (resM f x) w) := by
  have hF := hv.flat
  have NV := NumS.all hv
  have da := fun w' h => nclass_any v K x w' h
  have dp : ∀ w', IsNum w' v K x → Calls Tryd.prog 41 #[v] w' fun e w2 => e = .returned (.tuple #[zeroBits, .bool false]) ∧ Ext w' w2 := fun w' h => npacked_none v K x w' h hK
  have dw : ∀ w', IsNum w' v K x → Calls Tryd.prog 43 #[v] w' fun e w2 => e = .returned (.tuple #[.slice none 0 0, .bool false]) ∧ Ext w' w2 := fun w' h => nwholes_four v x w' (hK4 ▸ h)
  have dn : ∀ w', IsNum w' v K x → Calls Tryd.prog 18 #[v] w' fun e w2 => ∃ g c, e = .returned (.slice (some ⟨g, 0, none⟩) n c) ∧ w'.heap.size ≤ g ∧ RowC 22 w2 g n c (f64s x) ∧ Ext w' w2 := fun w' h => (nnums_any v K x w' h).mono fun e w2 => by
    rintro ⟨v', rfl, ho, hx⟩
    rw [← hn] at ho
    rcases RowC.of ho with ⟨_, h0, _⟩ | ⟨g, c, rfl, hg, hr⟩
    · exact absurd h0 hn0
    · exact ⟨g, c, rfl, hg, hr, hx⟩
  have htx := hv.tidy
  have co : ∀ k w', k < n → Calls Tryd.prog 8 #[.int .i64 f, .float .f64 (x.getD k 0)] w' fun e w2 => e = .returned (.tuple #[.float .f64 (valM f (x.getD k 0)), .int .i64 (errM f (x.getD k 0))]) ∧ Ext w' w2 := fun k w' hk => (mo_any f _ (htx _ (getD_memN (by omega))) w').mono fun e w2 h => ⟨h.1, h.2 ▸ Ext.refl _⟩
  have ck := fun g c w' (hO : RowC 22 w' g n c (f64s (resM f x))) => mkept_any (some ⟨g, 0, none⟩) (resM f x) n (by rw [resM_length]; exact hn) (resM_tidy f htx) c w' hN2 hO.sl
  have HEND : Hid (mixV (fun j => .float .f64 (valM f (x.getD j 0))) (fun j => .float .f64 (x.getD j 0)) n n = f64s (resM f x)) := by show _ = _; rw [mixV_full, resM_row, hn]
  have HSTA : Hid (f64s x = mixV (fun j => .float .f64 (valM f (x.getD j 0))) (fun j => .float .f64 (x.getD j 0)) n 0) := by show _ = _; rw [mixV_zero, range_f64, hn]
  have HE : Hid (∀ k, errMF f x (k + 1) = if errMF f x k ≠ 0 then errMF f x k else errM f (x.getD k 0)) := fun k => rfl
  have HST : Hid (∀ k, errMF f x k ≠ 0 → k ≤ n → errMF f x n = errMF f x k) := fun k h hk => errMF_stay h hk
  have H0 : Hid (errMF f x 0 = 0) := rfl
  unfold MoU
  obtain ⟨EF, hEF⟩ : ∃ EF : Nat → Int, errMF f x = EF := ⟨_, rfl⟩
  rw [hEF] at HE HST H0 ⊢
  clear hEF htx hn
  generalize resM f x = L at *
  obtain ⟨FN, hFN⟩ : ∃ FN : Nat → Value, FN = fun j => .float .f64 (valM f (x.getD j 0)) := ⟨_, rfl⟩
  obtain ⟨HN, hHN⟩ : ∃ HN : Nat → Value, HN = fun j => .float .f64 (x.getD j 0) := ⟨_, rfl⟩
  have HF : Hid (∀ k, FN k = .float .f64 (valM f (x.getD k 0))) := fun k => by rw [hFN]
  have HH : Hid (∀ k, HN k = .float .f64 (x.getD k 0)) := fun k => by rw [hHN]
  rw [← hFN, ← hHN] at HEND HSTA
  clear hFN hHN hv
  have E := Ext.refl w
  go_enter Tryd.func14, Tryd.ntmps14
  have TB3 : True := trivial
  have TB4 : True := trivial
  go_wp2_with (first | (clear TB3; refine boxsV (v := v) rfl rfl rfl hF ?_; intro B3 w3 bB3 cB3 XB3 LB3 RB3; have z1 := XB3.size; replace E := E.trans XB3; replace NV := NV.ext XB3; clear RB3) | (clear TB4; refine allocsV rfl rfl ?_; intro B4 w4 bB4 cB4 XB4 LB4 RB4; have z2 := XB4.size; replace E := E.trans XB4; replace NV := NV.ext XB4; replace LB3 := LB3.ext XB4) | (refine loadsV (B := B3) (by rfl) rfl rfl LB3 ?_))
  refine (da _ NV.is).mono ?_
  rintro e w23 ⟨rfl, x'⟩
  have z3 := x'.size
  replace E := E.trans x'
  replace NV := NV.ext x'
  replace LB3 := LB3.ext x'
  replace LB4 := LB4.ext x'
  replace RB4 := RB4.ext x'
  clear x'
  go_wp2_with (refine loadsV (B := B3) (by rfl) rfl rfl LB3 ?_)
  refine (dp _ NV.is).mono ?_
  rintro e w28 ⟨rfl, x'⟩
  have z4 := x'.size
  replace E := E.trans x'
  replace NV := NV.ext x'
  replace LB3 := LB3.ext x'
  replace LB4 := LB4.ext x'
  replace RB4 := RB4.ext x'
  clear x'
  have TB6 : True := trivial
  have TG6 : True := trivial
  go_wp2_with (first | (clear TB6; refine allocsB rfl rfl ?_; intro B6 w6 bB6 cB6 XB6 LB6 RB6; have z5 := XB6.size; replace E := E.trans XB6; replace NV := NV.ext XB6; replace LB3 := LB3.ext XB6; replace LB4 := LB4.ext XB6; replace RB4 := RB4.ext XB6; clear LB6) | (clear TG6; have hRl := (RB6).lt (Nat.zero_lt_succ _); refine storesB (B := B6) rfl rfl rfl (v := zeroBits) rfl RB6 zeroBits_flat ?_; intro s6 G6 LB6 RQ; have z7 := G6.size; replace E := grown_ext E G6 (by omega); replace NV := NV.grown G6 (by omega); replace LB3 := LB3.grown G6 (by omega); replace LB4 := LB4.grown G6 (by omega); replace RB4 := RB4.grown G6 (by omega); clear RB6; have RB6 := RQ; clear RQ hRl; clear LB6 RB6) | (refine loadsV (B := B3) (by rfl) rfl rfl LB3 ?_))
  refine (dw _ NV.is).mono ?_
  rintro e w39 ⟨rfl, x'⟩
  have z8 := x'.size
  replace E := E.trans x'
  replace NV := NV.ext x'
  replace LB3 := LB3.ext x'
  replace LB4 := LB4.ext x'
  replace RB4 := RB4.ext x'
  clear x'
  go_wp2_with (refine loadsV (B := B3) (by rfl) rfl rfl LB3 ?_)
  clear LB3
  refine (dn _ NV.is).mono ?_
  rintro e w53 ⟨g, c, rfl, hgg, Og, x'⟩
  have z9 := x'.size
  replace E := E.trans x'
  replace NV := NV.ext x'
  replace LB4 := LB4.ext x'
  replace RB4 := RB4.ext x'
  clear x'
  go_wp2_with fail
  rw [HSTA.out] at Og
  go_loopw [56] (fun i wr => ∃ k : Nat, k ≤ n ∧ i = .int .i64 k ∧ EF k = 0 ∧ Grw w53 g wr ∧ RowC 22 wr g n c (mixV FN HN n k)) (fun i _ => n - (intOf i).toNat)
  case atStart => exact ⟨0, Nat.zero_le _, rfl, H0.out, Grw.refl _ _, Og⟩
  case round =>
    obtain ⟨k, hk, rfl, hup, HG, O2⟩ := hrel
    have HU := Lib.hid hup
    clear Og hup
    have Og := O2
    clear O2
    have z10 := HG.out.size
    replace E := grown_ext E HG.out (by omega)
    replace NV := NV.grown HG.out (by omega)
    replace LB4 := LB4.grown HG.out (by omega)
    replace RB4 := RB4.grown HG.out (by omega)
    have hcase : k < n ∧ errM f (x.getD k 0) = 0 ∨ k < n ∧ ¬ errM f (x.getD k 0) = 0 ∨ ¬ k < n := by omega
    rcases hcase with ⟨hlt, hz⟩ | ⟨hlt, hz⟩ | hlt
    · have D0 : wr.cell? ⟨g, k, none⟩ = some (.float .f64 (x.getD k 0)) := by rw [World.ownsRow.cellAt Og k (by omega), mixV_get _ _ hlt, HH.out]
      have HEk := Lib.hid (HE.out k)
      have cok := fun w' => co k w' hlt
      have HSET : Hid ((mixV FN HN n k).set k (.float .f64 (valM f (x.getD k 0))) = mixV FN HN n (k + 1)) := by show _ = _; rw [← mixV_set FN HN hlt, HF.out]
      rw [hz] at cok
      clear co
      generalize errM f (x.getD k 0) = ek at *
      have HEZ := Lib.hid hz
      clear hz
      generalize valM f (x.getD k 0) = vk at *
      generalize x.getD k 0 = xk at *
      go_wp2_with fail
      refine (cok _).mono ?_
      rintro e w64 ⟨rfl, x'⟩
      have z11 := x'.size
      replace E := E.trans x'
      replace NV := NV.ext x'
      replace LB4 := LB4.ext x'
      replace RB4 := RB4.ext x'
      replace Og := Og.ext x'
      replace HG := HG.ext x'
      clear x'
      have TG12 : True := trivial
      go_wp2_with (clear TG12; have hRl := Og.lt; refine storesc_f64 rfl rfl (g := g) (k := k) (n := n) (by rfl) rfl (by rfl) Og hlt ?_; clear Og; intro s12 G12 Og; have z13 := G12.size; replace E := grown_ext E G12 (by omega); replace NV := NV.grown G12 (by omega); replace LB4 := LB4.grown G12 (by omega); replace RB4 := RB4.grown G12 (by omega); replace HG := HG.grown G12 (by omega); clear hRl G12)
      exact ⟨⟨k + 1, by omega, by go_num, by rw [HEk.out, if_neg (by rw [HU.out]; decide)]; exact HEZ.out, HG, by rw [← HSET.out]; exact Og⟩, by simp [intOf]; omega⟩
    · have D0 : wr.cell? ⟨g, k, none⟩ = some (.float .f64 (x.getD k 0)) := by rw [World.ownsRow.cellAt Og k (by omega), mixV_get _ _ hlt, HH.out]
      have HEk := Lib.hid (HE.out k)
      have cok := fun w' => co k w' hlt
      have hE : Hid (EF n = errM f (x.getD k 0)) := by
        show EF n = _
        rw [HST.out (k + 1) (by rw [HEk.out, if_neg (by rw [HU.out]; decide)]; exact hz) (by omega), HEk.out, if_neg (by rw [HU.out]; decide)]
      have e68 : (errM f (x.getD k 0) != 0) = true := by simpa using hz
      have HZ := Lib.hid hz
      clear hz co HG
      generalize errM f (x.getD k 0) = ek at *
      generalize valM f (x.getD k 0) = vk at *
      generalize x.getD k 0 = xk at *
      go_wp2_with fail
      refine (cok _).mono ?_
      rintro e w64 ⟨rfl, x'⟩
      have z14 := x'.size
      replace E := E.trans x'
      replace NV := NV.ext x'
      replace LB4 := LB4.ext x'
      replace RB4 := RB4.ext x'
      replace Og := Og.ext x'
      clear x'
      have TG15 : True := trivial
      go_wp2_with (clear TG15; have hRl := (RB4).lt (Nat.zero_lt_succ _); refine storesV (B := B4) rfl rfl rfl (v := zeroVec) rfl RB4 zeroVec_flat ?_; clear LB4; intro s15 G15 LB4 RQ; have z16 := G15.size; replace E := grown_ext E G15 (by omega); replace NV := NV.grown G15 (by omega); replace Og := Og.grown G15 (by omega); clear RB4; have RB4 := RQ; clear RQ hRl)
      refine bodyPost_ret (results_lay2 rfl rfl rfl (ldV LB4)) rfl ?_
      exact ⟨zeroVec, by rw [hE.out]; rfl, fun _ => rfl, fun h => absurd (hE.out.symm.trans h) HZ.out, E⟩
    · have hkN : k = n := by omega
      rw [hkN] at HU
      rw [hkN, HEND.out] at Og
      clear HG hkN
      go_wp2_with fail
      refine (ck g c _ Og).mono ?_
      rintro e w77 ⟨q, rfl, hq, x'⟩
      clear Og
      have NQ := hq.now
      have Fq := NQ.is.flat
      clear hq
      have z17 := x'.size
      replace E := E.trans x'
      replace NV := NV.ext x'
      replace LB4 := LB4.ext x'
      replace RB4 := RB4.ext x'
      clear x'
      have TG18 : True := trivial
      go_wp2_with (clear TG18; have hRl := (RB4).lt (Nat.zero_lt_succ _); refine storesV (B := B4) rfl rfl rfl (v := q) rfl RB4 Fq ?_; clear LB4; intro s18 G18 LB4 RQ; have z19 := G18.size; replace E := grown_ext E G18 (by omega); replace NV := NV.grown G18 (by omega); replace NQ := NQ.grown G18 (by first | omega | (dsimp only [New]; omega)); clear RB4; have RB4 := RQ; clear RQ hRl; clear RB4)
      refine bodyPost_ret (results_lay2 rfl rfl rfl (ldV LB4)) rfl ?_
      exact ⟨q, by rw [HU.out]; rfl, fun h => absurd HU.out h, fun _ => NQ.is, E⟩
end
end Go.Proofs.YtidnikndjhfgaaaDoor
