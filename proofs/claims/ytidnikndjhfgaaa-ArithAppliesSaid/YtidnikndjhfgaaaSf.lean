/- rebuslaw10.kept, awake, ArithOne. -/
import Derived.Test.YtidnikndjhfgaaaSe
import Derived.Test.YtidnikndjhfgaaaQm
import Derived.Test.YtidnikndjhfgaaaOs
namespace Go.Proofs.Ytidnikndjhfgaaa
open Go.ChangeShapes Go.WideShapes Go.RowKit Bv Fl
set_option maxHeartbeats 2000000
set_option maxRecDepth 100000
theorem zinto_no (v : Value) (hv : zeroVec = v) (K : Int) (hK : ((0 : Int) == K) = false) (w : World) : Calls Try.prog 68 #[v, .int .i64 K] w fun e w' => e = .returned (.tuple #[v, .bool false]) ∧ Ext w w' := by
  have hF : Flat 8 v := hv ▸ zeroVec_flat
  have ck : ∀ w, Calls Try.prog 40 #[v] w fun e w' => e = .returned (.int .i64 0) ∧ Ext w w' := fun w => kind_zero v hv w
  have cc : ∀ w, Calls Try.prog 49 #[v] w fun e w' => e = .returned (.int .i64 0) ∧ Ext w w' := fun w => by subst hv; exact vclass_any zeroVec VD.none w (IsVec.zero w)
  have HV := Lib.hid hv
  clear hv
  have E := Ext.refl w
  go_enter Try.func68, Try.ntmps68
  have TB2 : True := trivial
  have TB4 : True := trivial
  go_wp2_with (first | (clear TB2; refine boxsV (v := v) rfl rfl rfl hF ?_; intro B2 w2 bB2 cB2 XB2 LB2 RB2; have z1 := XB2.size; replace E := E.trans XB2; clear RB2) | (clear TB4; refine allocsV rfl rfl ?_; intro B4 w4 bB4 cB4 XB4 LB4 RB4; have z2 := XB4.size; replace E := E.trans XB4; replace LB2 := LB2.ext XB4) | (refine loadsV (B := B2) (by rfl) rfl rfl LB2 ?_))
  refine (ck _).mono ?_
  rintro e w9 ⟨rfl, x⟩
  have z3 := x.size
  replace E := E.trans x
  replace LB2 := LB2.ext x
  replace LB4 := LB4.ext x
  replace RB4 := RB4.ext x
  clear x
  go_wp2_with (refine loadsV (B := B2) (by rfl) rfl rfl LB2 ?_)
  refine (cc _).mono ?_
  rintro e w14 ⟨rfl, x⟩
  have z4 := x.size
  replace E := E.trans x
  replace LB2 := LB2.ext x
  replace LB4 := LB4.ext x
  replace RB4 := RB4.ext x
  clear x
  go_wp2_with (refine loadgV (B := B2) (by rfl) rfl rfl LB2 ?_)
  clear LB2
  refine (ck _).mono ?_
  rintro e w18 ⟨rfl, x⟩
  have z5 := x.size
  replace E := E.trans x
  replace LB4 := LB4.ext x
  replace RB4 := RB4.ext x
  clear x
  have TG6 : True := trivial
  go_wp2_with (clear TG6; have hRl := (RB4).lt (Nat.zero_lt_succ _); refine storesV (B := B4) rfl rfl rfl (v := zeroVec) rfl RB4 zeroVec_flat ?_; clear LB4; intro s6 G6 LB4 RQ; have z7 := G6.size; replace E := grown_ext E G6 (by omega); clear RB4; have RB4 := RQ; clear RQ hRl; clear RB4)
  refine bodyPost_ret (results_lay2 rfl rfl rfl (ldV LB4)) rfl ?_
  exact ⟨by rw [← HV.out]; rfl, E⟩
theorem zinto_yes (v : Value) (hv : zeroVec = v) (w : World) : Calls Try.prog 68 #[v, .int .i64 0] w fun e w' => e = .returned (.tuple #[v, .bool true]) ∧ Ext w w' := by
  have hF : Flat 8 v := hv ▸ zeroVec_flat
  have ck : ∀ w, Calls Try.prog 40 #[v] w fun e w' => e = .returned (.int .i64 0) ∧ Ext w w' := fun w => kind_zero v hv w
  have cc : ∀ w, Calls Try.prog 49 #[v] w fun e w' => e = .returned (.int .i64 0) ∧ Ext w w' := fun w => by subst hv; exact vclass_any zeroVec VD.none w (IsVec.zero w)
  have HV := Lib.hid hv
  clear hv
  have E := Ext.refl w
  go_enter Try.func68, Try.ntmps68
  have TB2 : True := trivial
  have TB4 : True := trivial
  go_wp2_with (first | (clear TB2; refine boxsV (v := v) rfl rfl rfl hF ?_; intro B2 w2 bB2 cB2 XB2 LB2 RB2; have z1 := XB2.size; replace E := E.trans XB2; clear RB2) | (clear TB4; refine allocsV rfl rfl ?_; intro B4 w4 bB4 cB4 XB4 LB4 RB4; have z2 := XB4.size; replace E := E.trans XB4; replace LB2 := LB2.ext XB4) | (refine loadsV (B := B2) (by rfl) rfl rfl LB2 ?_))
  refine (ck _).mono ?_
  rintro e w9 ⟨rfl, x⟩
  have z3 := x.size
  replace E := E.trans x
  replace LB2 := LB2.ext x
  replace LB4 := LB4.ext x
  replace RB4 := RB4.ext x
  clear x
  have TG4 : True := trivial
  go_wp2_with (first | (refine loadsV (B := B2) (by rfl) rfl rfl LB2 ?_) | (clear TG4; have hRl := (RB4).lt (Nat.zero_lt_succ _); refine storesV (B := B4) rfl rfl rfl (v := v) rfl RB4 hF ?_; clear LB4; intro s4 G4 LB4 RQ; have z5 := G4.size; replace E := grown_ext E G4 (by omega); replace LB2 := LB2.grown G4 (by omega); clear RB4; have RB4 := RQ; clear RQ hRl; clear RB4))
  refine bodyPost_ret (results_lay2 rfl rfl rfl (ldV LB4)) rfl ?_
  exact ⟨rfl, E⟩
def KeptY (l : List Nat) (w : World) (e : Ending) (w' : World) : Prop := ∃ v k, e = .returned (.tuple #[v, .bool true]) ∧ NumS w' v k l (New w.heap.size) ∧ Ext w w'
section
variable (A : Option Addr) (l : List Nat) (n : Nat) (hn : n = l.length) (c : Nat) (w : World) (hl : n ≤ 1048576) (K : Int)
include hn hl
theorem kept_yes (hw : ∀ x ∈ l, x < 18446744073709551616) (hf : allF l = true) (hs : Sl w 1 A n (f64s l)) : Calls Try.prog 36 #[.slice A n c, .int .i64 K] w (KeptY (dnL l) w) := by
  have cf := fun w hs => floats_yes A l n hn hw hf c w hl hs
  have HS := Lib.hid hs
  clear hs hn hf hl hw
  generalize dnL l = l' at *
  have E := Ext.refl w
  cases hfit : fitsL l' K
  · have ci := fun v w h => into_no v 4 l' K hfit w h
    clear hfit
    go_enter Try.func36, Try.ntmps36
    have TB4 : True := trivial
    go_wp2_with (clear TB4; refine allocsV rfl rfl ?_; intro B4 w4 bB4 cB4 XB4 LB4 RB4; have z1 := XB4.size; replace E := E.trans XB4)
    refine (cf _ (HS.out.ext E)).mono ?_
    rintro e w12 ⟨v, rfl, hq, x⟩
    have NV := hq.now
    have Fv := NV.is.flat
    clear hq
    have z2 := x.size
    replace E := E.trans x
    replace LB4 := LB4.ext x
    replace RB4 := RB4.ext x
    clear x
    have TB6 : True := trivial
    have TG4 : True := trivial
    go_wp2_with (first | (clear TB6; refine allocsV rfl rfl ?_; intro B6 w6 bB6 cB6 XB6 LB6 RB6; have z3 := XB6.size; replace E := E.trans XB6; replace LB4 := LB4.ext XB6; replace RB4 := RB4.ext XB6; replace NV := NV.ext XB6) | (clear TG4; have hRl := (RB6).lt (Nat.zero_lt_succ _); refine storesV (B := B6) rfl rfl rfl (v := v) rfl RB6 Fv ?_; clear LB6; intro s4 G4 LB6 RQ; have z5 := G4.size; replace E := grown_ext E G4 (by omega); replace LB4 := LB4.grown G4 (by omega); replace RB4 := RB4.grown G4 (by omega); replace NV := NV.grown G4 (by first | omega | (dsimp only [New]; omega)); clear RB6; have RB6 := RQ; clear RQ hRl; clear RB6) | (refine loadsV (B := B6) (by rfl) rfl rfl LB6 ?_))
    refine (ci v _ NV.is).mono ?_
    rintro e w18 ⟨rfl, x⟩
    have z6 := x.size
    replace E := E.trans x
    replace LB4 := LB4.ext x
    replace RB4 := RB4.ext x
    replace NV := NV.ext x
    replace LB6 := LB6.ext x
    clear x
    have TB8 : True := trivial
    have TG8 : True := trivial
    have TG10 : True := trivial
    go_wp2_with (first | (clear TB8; refine allocsV rfl rfl ?_; intro B8 w8 bB8 cB8 XB8 LB8 RB8; have z7 := XB8.size; replace E := E.trans XB8; replace LB4 := LB4.ext XB8; replace RB4 := RB4.ext XB8; replace NV := NV.ext XB8; replace LB6 := LB6.ext XB8; clear LB8) | (clear TG8; have hRl := (RB8).lt (Nat.zero_lt_succ _); refine storesV (B := B8) rfl rfl rfl (v := zeroVec) rfl RB8 zeroVec_flat ?_; intro s8 G8 LB8 RQ; have z9 := G8.size; replace E := grown_ext E G8 (by omega); replace LB4 := LB4.grown G8 (by omega); replace RB4 := RB4.grown G8 (by omega); replace NV := NV.grown G8 (by first | omega | (dsimp only [New]; omega)); replace LB6 := LB6.grown G8 (by omega); clear RB8; have RB8 := RQ; clear RQ hRl; clear LB8 RB8) | (refine loadsV (B := B6) (by rfl) rfl rfl LB6 ?_) | (clear TG10; have hRl := (RB4).lt (Nat.zero_lt_succ _); refine storesV (B := B4) rfl rfl rfl (v := v) rfl RB4 Fv ?_; clear LB4; intro s10 G10 LB4 RQ; have z11 := G10.size; replace E := grown_ext E G10 (by omega); replace NV := NV.grown G10 (by first | omega | (dsimp only [New]; omega)); replace LB6 := LB6.grown G10 (by omega); clear RB4; have RB4 := RQ; clear RQ hRl; clear RB4))
    refine bodyPost_ret (results_lay2 rfl rfl rfl (ldV LB4)) rfl ?_
    exact ⟨v, _, rfl, NV.mono (fun i hi h => by dsimp only [New] at *; omega), E⟩
  · obtain ⟨k, rfl⟩ : ∃ k : Nat, K = k := by
      have := of_decide_eq_true hfit
      have := leastL_ge l'
      exact ⟨K.toNat, by omega⟩
    have ci := fun v w h => into_yes v 4 l' k hfit w h
    clear hfit
    go_enter Try.func36, Try.ntmps36
    have TB4 : True := trivial
    go_wp2_with (clear TB4; refine allocsV rfl rfl ?_; intro B4 w4 bB4 cB4 XB4 LB4 RB4; have z1 := XB4.size; replace E := E.trans XB4)
    refine (cf _ (HS.out.ext E)).mono ?_
    rintro e w12 ⟨v, rfl, hq, x⟩
    have NV := hq.now
    have Fv := NV.is.flat
    clear hq
    have z2 := x.size
    replace E := E.trans x
    replace LB4 := LB4.ext x
    replace RB4 := RB4.ext x
    clear x
    have TB6 : True := trivial
    have TG4 : True := trivial
    go_wp2_with (first | (clear TB6; refine allocsV rfl rfl ?_; intro B6 w6 bB6 cB6 XB6 LB6 RB6; have z3 := XB6.size; replace E := E.trans XB6; replace LB4 := LB4.ext XB6; replace RB4 := RB4.ext XB6; replace NV := NV.ext XB6) | (clear TG4; have hRl := (RB6).lt (Nat.zero_lt_succ _); refine storesV (B := B6) rfl rfl rfl (v := v) rfl RB6 Fv ?_; clear LB6; intro s4 G4 LB6 RQ; have z5 := G4.size; replace E := grown_ext E G4 (by omega); replace LB4 := LB4.grown G4 (by omega); replace RB4 := RB4.grown G4 (by omega); replace NV := NV.grown G4 (by first | omega | (dsimp only [New]; omega)); clear RB6; have RB6 := RQ; clear RQ hRl) | (refine loadsV (B := B6) (by rfl) rfl rfl LB6 ?_))
    refine (ci v _ NV.is).mono ?_
    rintro e w18 ⟨v2, rfl, hq, x⟩
    have NV2 := (hq _ NV).now
    have Fv2 := NV2.is.flat
    clear hq
    have z6 := x.size
    replace E := E.trans x
    replace LB4 := LB4.ext x
    replace RB4 := RB4.ext x
    replace NV := NV.ext x
    replace LB6 := LB6.ext x
    replace RB6 := RB6.ext x
    clear x
    have TB8 : True := trivial
    have TG8 : True := trivial
    have TG10 : True := trivial
    have TG12 : True := trivial
    go_wp2_with (first | (clear TB8; refine allocsV rfl rfl ?_; intro B8 w8 bB8 cB8 XB8 LB8 RB8; have z7 := XB8.size; replace E := E.trans XB8; replace LB4 := LB4.ext XB8; replace RB4 := RB4.ext XB8; replace NV := NV.ext XB8; replace LB6 := LB6.ext XB8; replace RB6 := RB6.ext XB8; replace NV2 := NV2.ext XB8) | (clear TG8; have hRl := (RB8).lt (Nat.zero_lt_succ _); refine storesV (B := B8) rfl rfl rfl (v := v2) rfl RB8 Fv2 ?_; clear LB8; intro s8 G8 LB8 RQ; have z9 := G8.size; replace E := grown_ext E G8 (by omega); replace LB4 := LB4.grown G8 (by omega); replace RB4 := RB4.grown G8 (by omega); replace NV := NV.grown G8 (by first | omega | (dsimp only [New]; omega)); replace LB6 := LB6.grown G8 (by omega); replace RB6 := RB6.grown G8 (by omega); replace NV2 := NV2.grown G8 (by first | omega | (dsimp only [New]; omega)); clear RB8; have RB8 := RQ; clear RQ hRl; clear RB8) | (refine loadsV (B := B8) (by rfl) rfl rfl LB8 ?_) | (clear TG10; have hRl := (RB6).lt (Nat.zero_lt_succ _); refine storesV (B := B6) rfl rfl rfl (v := v2) rfl RB6 Fv2 ?_; clear LB6; intro s10 G10 LB6 RQ; have z11 := G10.size; replace E := grown_ext E G10 (by omega); replace LB4 := LB4.grown G10 (by omega); replace RB4 := RB4.grown G10 (by omega); replace NV := NV.grown G10 (by first | omega | (dsimp only [New]; omega)); replace NV2 := NV2.grown G10 (by first | omega | (dsimp only [New]; omega)); replace LB8 := LB8.grown G10 (by omega); clear RB6; have RB6 := RQ; clear RQ hRl; clear RB6) | (refine loadsV (B := B6) (by rfl) rfl rfl LB6 ?_) | (clear TG12; have hRl := (RB4).lt (Nat.zero_lt_succ _); refine storesV (B := B4) rfl rfl rfl (v := v2) rfl RB4 Fv2 ?_; clear LB4; intro s12 G12 LB4 RQ; have z13 := G12.size; replace E := grown_ext E G12 (by omega); replace NV := NV.grown G12 (by first | omega | (dsimp only [New]; omega)); replace LB6 := LB6.grown G12 (by omega); replace NV2 := NV2.grown G12 (by first | omega | (dsimp only [New]; omega)); replace LB8 := LB8.grown G12 (by omega); clear RB4; have RB4 := RQ; clear RQ hRl; clear RB4))
    refine bodyPost_ret (results_lay2 rfl rfl rfl (ldV LB4)) rfl ?_
    exact ⟨v2, _, rfl, NV2.mono (fun i hi h => by dsimp only [New] at *; omega), E⟩
theorem kept_no (hf : allF l = false) (hs : Sl w 1 A n (f64s l)) : Calls Try.prog 36 #[.slice A n c, .int .i64 K] w fun e w' => ∃ v, e = .returned (.tuple #[v, .bool false]) ∧ Flat 8 v ∧ Ext w w' := by
  have cf := fun w hs => floats_no A l n hn hf c w hl hs
  have HS := Lib.hid hs
  clear hs hn hf hl
  obtain ⟨z, hz⟩ : ∃ z, zeroVec = z := ⟨_, rfl⟩
  have hZ := zeroVec_flat
  rw [hz] at hZ cf
  have E := Ext.refl w
  by_cases hK : K = 0
  · subst hK
    have ci := fun w => zinto_yes z hz w
    clear hz
    go_enter Try.func36, Try.ntmps36
    have TB4 : True := trivial
    go_wp2_with (clear TB4; refine allocsV rfl rfl ?_; intro B4 w4 bB4 cB4 XB4 LB4 RB4; have z1 := XB4.size; replace E := E.trans XB4)
    refine (cf _ (HS.out.ext E)).mono ?_
    rintro e w12 ⟨rfl, x⟩
    have z2 := x.size
    replace E := E.trans x
    replace LB4 := LB4.ext x
    replace RB4 := RB4.ext x
    clear x
    have TB6 : True := trivial
    have TG4 : True := trivial
    go_wp2_with (first | (clear TB6; refine allocsV rfl rfl ?_; intro B6 w6 bB6 cB6 XB6 LB6 RB6; have z3 := XB6.size; replace E := E.trans XB6; replace LB4 := LB4.ext XB6; replace RB4 := RB4.ext XB6) | (clear TG4; have hRl := (RB6).lt (Nat.zero_lt_succ _); refine storesV (B := B6) rfl rfl rfl (v := z) rfl RB6 hZ ?_; clear LB6; intro s4 G4 LB6 RQ; have z5 := G4.size; replace E := grown_ext E G4 (by omega); replace LB4 := LB4.grown G4 (by omega); replace RB4 := RB4.grown G4 (by omega); clear RB6; have RB6 := RQ; clear RQ hRl) | (refine loadsV (B := B6) (by rfl) rfl rfl LB6 ?_))
    refine (ci _).mono ?_
    rintro e w18 ⟨rfl, x⟩
    have z6 := x.size
    replace E := E.trans x
    replace LB4 := LB4.ext x
    replace RB4 := RB4.ext x
    replace LB6 := LB6.ext x
    replace RB6 := RB6.ext x
    clear x
    have TB8 : True := trivial
    have TG8 : True := trivial
    have TG10 : True := trivial
    have TG12 : True := trivial
    go_wp2_with (first | (clear TB8; refine allocsV rfl rfl ?_; intro B8 w8 bB8 cB8 XB8 LB8 RB8; have z7 := XB8.size; replace E := E.trans XB8; replace LB4 := LB4.ext XB8; replace RB4 := RB4.ext XB8; replace LB6 := LB6.ext XB8; replace RB6 := RB6.ext XB8) | (clear TG8; have hRl := (RB8).lt (Nat.zero_lt_succ _); refine storesV (B := B8) rfl rfl rfl (v := z) rfl RB8 hZ ?_; clear LB8; intro s8 G8 LB8 RQ; have z9 := G8.size; replace E := grown_ext E G8 (by omega); replace LB4 := LB4.grown G8 (by omega); replace RB4 := RB4.grown G8 (by omega); replace LB6 := LB6.grown G8 (by omega); replace RB6 := RB6.grown G8 (by omega); clear RB8; have RB8 := RQ; clear RQ hRl; clear RB8) | (refine loadsV (B := B8) (by rfl) rfl rfl LB8 ?_) | (clear TG10; have hRl := (RB6).lt (Nat.zero_lt_succ _); refine storesV (B := B6) rfl rfl rfl (v := z) rfl RB6 hZ ?_; clear LB6; intro s10 G10 LB6 RQ; have z11 := G10.size; replace E := grown_ext E G10 (by omega); replace LB4 := LB4.grown G10 (by omega); replace RB4 := RB4.grown G10 (by omega); replace LB8 := LB8.grown G10 (by omega); clear RB6; have RB6 := RQ; clear RQ hRl; clear RB6) | (refine loadsV (B := B6) (by rfl) rfl rfl LB6 ?_) | (clear TG12; have hRl := (RB4).lt (Nat.zero_lt_succ _); refine storesV (B := B4) rfl rfl rfl (v := z) rfl RB4 hZ ?_; clear LB4; intro s12 G12 LB4 RQ; have z13 := G12.size; replace E := grown_ext E G12 (by omega); replace LB6 := LB6.grown G12 (by omega); replace LB8 := LB8.grown G12 (by omega); clear RB4; have RB4 := RQ; clear RQ hRl; clear RB4))
    refine bodyPost_ret (results_lay2 rfl rfl rfl (ldV LB4)) rfl ?_
    exact ⟨_, rfl, hZ, E⟩
  · have ci := fun w => zinto_no z hz K (by simpa using fun h => hK h.symm) w
    clear hz
    go_enter Try.func36, Try.ntmps36
    have TB4 : True := trivial
    go_wp2_with (clear TB4; refine allocsV rfl rfl ?_; intro B4 w4 bB4 cB4 XB4 LB4 RB4; have z1 := XB4.size; replace E := E.trans XB4)
    refine (cf _ (HS.out.ext E)).mono ?_
    rintro e w12 ⟨rfl, x⟩
    have z2 := x.size
    replace E := E.trans x
    replace LB4 := LB4.ext x
    replace RB4 := RB4.ext x
    clear x
    have TB6 : True := trivial
    have TG4 : True := trivial
    go_wp2_with (first | (clear TB6; refine allocsV rfl rfl ?_; intro B6 w6 bB6 cB6 XB6 LB6 RB6; have z3 := XB6.size; replace E := E.trans XB6; replace LB4 := LB4.ext XB6; replace RB4 := RB4.ext XB6) | (clear TG4; have hRl := (RB6).lt (Nat.zero_lt_succ _); refine storesV (B := B6) rfl rfl rfl (v := z) rfl RB6 hZ ?_; clear LB6; intro s4 G4 LB6 RQ; have z5 := G4.size; replace E := grown_ext E G4 (by omega); replace LB4 := LB4.grown G4 (by omega); replace RB4 := RB4.grown G4 (by omega); clear RB6; have RB6 := RQ; clear RQ hRl; clear RB6) | (refine loadsV (B := B6) (by rfl) rfl rfl LB6 ?_))
    refine (ci _).mono ?_
    rintro e w18 ⟨rfl, x⟩
    have z6 := x.size
    replace E := E.trans x
    replace LB4 := LB4.ext x
    replace RB4 := RB4.ext x
    replace LB6 := LB6.ext x
    clear x
    have TB8 : True := trivial
    have TG8 : True := trivial
    have TG10 : True := trivial
    go_wp2_with (first | (clear TB8; refine allocsV rfl rfl ?_; intro B8 w8 bB8 cB8 XB8 LB8 RB8; have z7 := XB8.size; replace E := E.trans XB8; replace LB4 := LB4.ext XB8; replace RB4 := RB4.ext XB8; replace LB6 := LB6.ext XB8; clear LB8) | (clear TG8; have hRl := (RB8).lt (Nat.zero_lt_succ _); refine storesV (B := B8) rfl rfl rfl (v := z) rfl RB8 hZ ?_; intro s8 G8 LB8 RQ; have z9 := G8.size; replace E := grown_ext E G8 (by omega); replace LB4 := LB4.grown G8 (by omega); replace RB4 := RB4.grown G8 (by omega); replace LB6 := LB6.grown G8 (by omega); clear RB8; have RB8 := RQ; clear RQ hRl; clear LB8 RB8) | (refine loadsV (B := B6) (by rfl) rfl rfl LB6 ?_) | (clear TG10; have hRl := (RB4).lt (Nat.zero_lt_succ _); refine storesV (B := B4) rfl rfl rfl (v := z) rfl RB4 hZ ?_; clear LB4; intro s10 G10 LB4 RQ; have z11 := G10.size; replace E := grown_ext E G10 (by omega); replace LB6 := LB6.grown G10 (by omega); clear RB4; have RB4 := RQ; clear RQ hRl; clear RB4))
    refine bodyPost_ret (results_lay2 rfl rfl rfl (ldV LB4)) rfl ?_
    exact ⟨_, rfl, hZ, E⟩
end
attribute [local go_sem ↓] Go.wp_at_zero Go.wp_at_succ
theorem aawake_any (w : World) : Calls Try.prog 32 #[] w fun e w' => e = .returned (.bool true) ∧ Ext w w' := by
  have ka : ∀ A w, Sl w 1 A 2 (f64s [4607182418800017408, 4611686018427387904]) → Calls Try.prog 36 #[.slice A 2 2, .int .i64 2] w (KeptY (dnL [4607182418800017408, 4611686018427387904]) w) := fun A w hs => kept_yes A [4607182418800017408, 4611686018427387904] 2 rfl 2 w (by omega) 2 (by intro x hx; simp at hx; omega) (by kernel_rfl) hs
  have kb : ∀ A w, Sl w 1 A 1 (f64s [4621819117588971520]) → Calls Try.prog 36 #[.slice A 1 1, .int .i64 2] w (KeptY (dnL [4621819117588971520]) w) := fun A w hs => kept_yes A [4621819117588971520] 1 rfl 1 w (by omega) 2 (by intro x hx; simp at hx; omega) (by kernel_rfl) hs
  have kc : ∀ A w, Sl w 1 A 1 (f64s [4742290407621132288]) → Calls Try.prog 36 #[.slice A 1 1, .int .i64 3] w (KeptY (dnL [4742290407621132288]) w) := fun A w hs => kept_yes A [4742290407621132288] 1 rfl 1 w (by omega) 3 (by intro x hx; simp at hx; omega) (by kernel_rfl) hs
  have a1 : ∀ v u K J w, IsNum w v K (dnL [4607182418800017408, 4611686018427387904]) → IsNum w u J (dnL [4621819117588971520]) → Calls Try.prog 38 #[.int .i64 1, v, u] w (ArU 0 [4622382067542392832, 4622945017495814144] w) := fun v u K J w hv hu => by
    have h := ar_u 1 v u K J _ _ (by decide) (by decide) w hv hu
    rwa [show arE 1 (dnL [4607182418800017408, 4611686018427387904]) (dnL [4621819117588971520]) = 0 by kernel_rfl, show arL 1 (dnL [4607182418800017408, 4611686018427387904]) (dnL [4621819117588971520]) = [4622382067542392832, 4622945017495814144] by kernel_rfl] at h
  have a2 : ∀ v u K J w, IsNum w v K (dnL [4742290407621132288]) → IsNum w u J (dnL [4742290407621132288]) → Calls Try.prog 38 #[.int .i64 3, v, u] w (ArU 0 [4877398396442247168] w) := fun v u K J w hv hu => by
    have h := ar_u 3 v u K J _ _ (by decide) (by decide) w hv hu
    rwa [show arE 3 (dnL [4742290407621132288]) (dnL [4742290407621132288]) = 0 by kernel_rfl, show arL 3 (dnL [4742290407621132288]) (dnL [4742290407621132288]) = [4877398396442247168] by kernel_rfl] at h
  have hk : leastL [4877398396442247168] = 4 := by kernel_rfl
  unfold ArU at a1 a2
  rw [hk] at a2
  have s1 : ∀ A B c w, Sl w 1 A 2 (f64s [4622382067542392832, 4622945017495814144]) → Sl w 1 B 2 (f64s [4622382067542392832, 4622945017495814144]) → Calls Try.prog 41 #[.slice A 2 c, .slice B 2 2] w fun e w' => e = .returned (.bool true) ∧ Ext w w' := fun A B c w hs hs' => same_yes A B [4622382067542392832, 4622945017495814144] 2 c 2 rfl w (by omega) (by intro x hx; simp at hx; rcases hx with rfl | rfl <;> exact ⟨by decide, by decide, fun h => absurd h (by decide)⟩) hs hs'
  have s2 : ∀ A B c w, Sl w 1 A 1 (f64s [4877398396442247168]) → Sl w 1 B 1 (f64s [4877398396442247168]) → Calls Try.prog 41 #[.slice A 1 c, .slice B 1 1] w fun e w' => e = .returned (.bool true) ∧ Ext w w' := fun A B c w hs hs' => same_yes A B [4877398396442247168] 1 c 1 rfl w (by omega) (by intro x hx; simp at hx; subst hx; exact ⟨by decide, by decide, fun h => absurd h (by decide)⟩) hs hs'
  have n1 := fun v k w h => nnums_sl v k [4622382067542392832, 4622945017495814144] 2 rfl w h
  have n2 := fun v k w h => nnums_sl v k [4877398396442247168] 1 rfl w h
  generalize dnL [4607182418800017408, 4611686018427387904] = LA at *
  generalize dnL [4621819117588971520] = LB at *
  generalize dnL [4742290407621132288] = LC at *
  clear hk
  have E := Ext.refl w
  go_enter Try.func32, Try.ntmps32
  go_wp2_with fail
  refine (ka _ _ (Sl.lit _ #[.float .f64 4607182418800017408, .float .f64 4611686018427387904] _)).mono ?_
  rintro e w13 ⟨a, ka, rfl, hq, x⟩
  have NA := hq.now
  have Fa := NA.is.flat
  clear hq
  replace x := ((Ext.refl _).alloc _).trans x
  have z1 := x.size
  replace E := E.trans x
  clear x
  have TB1 : True := trivial
  have TG3 : True := trivial
  go_wp2_with (first | (clear TB1; refine allocsV rfl rfl ?_; intro B1 w1 bB1 cB1 XB1 LB1 RB1; have z2 := XB1.size; replace E := E.trans XB1; replace NA := NA.ext XB1) | (clear TG3; have hRl := (RB1).lt (Nat.zero_lt_succ _); refine storesV (B := B1) rfl rfl rfl (v := a) rfl RB1 Fa ?_; clear LB1; intro s3 G3 LB1 RQ; have z4 := G3.size; replace E := grown_ext E G3 (by omega); replace NA := NA.grown G3 (by first | omega | (dsimp only [New]; omega)); clear RB1; have RB1 := RQ; clear RQ hRl; clear RB1))
  refine (kb _ _ (Sl.lit _ #[.float .f64 4621819117588971520] _)).mono ?_
  rintro e w18 ⟨b, kb, rfl, hq, x⟩
  have NB := hq.now
  have Fb := NB.is.flat
  clear hq
  replace x := ((Ext.refl _).alloc _).trans x
  have z5 := x.size
  replace E := E.trans x
  replace NA := NA.ext x
  replace LB1 := LB1.ext x
  clear x
  have TB3 : True := trivial
  have TG7 : True := trivial
  go_wp2_with (first | (clear TB3; refine allocsV rfl rfl ?_; intro B3 w3 bB3 cB3 XB3 LB3 RB3; have z6 := XB3.size; replace E := E.trans XB3; replace NA := NA.ext XB3; replace LB1 := LB1.ext XB3; replace NB := NB.ext XB3) | (clear TG7; have hRl := (RB3).lt (Nat.zero_lt_succ _); refine storesV (B := B3) rfl rfl rfl (v := b) rfl RB3 Fb ?_; clear LB3; intro s7 G7 LB3 RQ; have z8 := G7.size; replace E := grown_ext E G7 (by omega); replace NA := NA.grown G7 (by first | omega | (dsimp only [New]; omega)); replace LB1 := LB1.grown G7 (by omega); replace NB := NB.grown G7 (by first | omega | (dsimp only [New]; omega)); clear RB3; have RB3 := RQ; clear RQ hRl; clear RB3))
  refine (kc _ _ (Sl.lit _ #[.float .f64 4742290407621132288] _)).mono ?_
  rintro e w23 ⟨c, kc, rfl, hq, x⟩
  have NC := hq.now
  have Fc := NC.is.flat
  clear hq
  replace x := ((Ext.refl _).alloc _).trans x
  have z9 := x.size
  replace E := E.trans x
  replace NA := NA.ext x
  replace LB1 := LB1.ext x
  replace NB := NB.ext x
  replace LB3 := LB3.ext x
  clear x
  have TB5 : True := trivial
  have TG11 : True := trivial
  go_wp2_with (first | (clear TB5; refine allocsV rfl rfl ?_; intro B5 w5 bB5 cB5 XB5 LB5 RB5; have z10 := XB5.size; replace E := E.trans XB5; replace NA := NA.ext XB5; replace LB1 := LB1.ext XB5; replace NB := NB.ext XB5; replace LB3 := LB3.ext XB5; replace NC := NC.ext XB5) | (clear TG11; have hRl := (RB5).lt (Nat.zero_lt_succ _); refine storesV (B := B5) rfl rfl rfl (v := c) rfl RB5 Fc ?_; clear LB5; intro s11 G11 LB5 RQ; have z12 := G11.size; replace E := grown_ext E G11 (by omega); replace NA := NA.grown G11 (by first | omega | (dsimp only [New]; omega)); replace LB1 := LB1.grown G11 (by omega); replace NB := NB.grown G11 (by first | omega | (dsimp only [New]; omega)); replace LB3 := LB3.grown G11 (by omega); replace NC := NC.grown G11 (by first | omega | (dsimp only [New]; omega)); clear RB5; have RB5 := RQ; clear RQ hRl; clear RB5) | (refine loadsV (B := B1) (by rfl) rfl rfl LB1 ?_) | (refine loadsV (B := B3) (by rfl) rfl rfl LB3 ?_))
  clear LB1 LB3
  refine (a1 a b _ _ _ NA.is NB.is).mono ?_
  rintro e w29 ⟨s, rfl, -, hq, x⟩
  have NS := (hq (by trivial)).now
  have Fs := NS.is.flat
  clear hq
  have z13 := x.size
  replace E := E.trans x
  replace NA := NA.ext x
  replace NB := NB.ext x
  replace NC := NC.ext x
  replace LB5 := LB5.ext x
  clear x
  have TB7 : True := trivial
  have TG15 : True := trivial
  go_wp2_with (first | (clear TB7; refine allocsV rfl rfl ?_; intro B7 w7 bB7 cB7 XB7 LB7 RB7; have z14 := XB7.size; replace E := E.trans XB7; replace NA := NA.ext XB7; replace NB := NB.ext XB7; replace NC := NC.ext XB7; replace LB5 := LB5.ext XB7; replace NS := NS.ext XB7) | (clear TG15; have hRl := (RB7).lt (Nat.zero_lt_succ _); refine storesV (B := B7) rfl rfl rfl (v := s) rfl RB7 Fs ?_; clear LB7; intro s15 G15 LB7 RQ; have z16 := G15.size; replace E := grown_ext E G15 (by omega); replace NA := NA.grown G15 (by first | omega | (dsimp only [New]; omega)); replace NB := NB.grown G15 (by first | omega | (dsimp only [New]; omega)); replace NC := NC.grown G15 (by first | omega | (dsimp only [New]; omega)); replace LB5 := LB5.grown G15 (by omega); replace NS := NS.grown G15 (by first | omega | (dsimp only [New]; omega)); clear RB7; have RB7 := RQ; clear RQ hRl; clear RB7) | (refine loadsV (B := B5) (by rfl) rfl rfl LB5 ?_))
  clear LB5
  refine (a2 c c _ _ _ NC.is NC.is).mono ?_
  rintro e w35 ⟨p, rfl, -, hq, x⟩
  have NP := (hq (by trivial)).now
  have Fp := NP.is.flat
  clear hq
  have z17 := x.size
  replace E := E.trans x
  replace NA := NA.ext x
  replace NB := NB.ext x
  replace NC := NC.ext x
  replace NS := NS.ext x
  replace LB7 := LB7.ext x
  clear x
  have TB9 : True := trivial
  have TG19 : True := trivial
  go_wp2_with (first | (clear TB9; refine allocsV rfl rfl ?_; intro B9 w9 bB9 cB9 XB9 LB9 RB9; have z18 := XB9.size; replace E := E.trans XB9; replace NA := NA.ext XB9; replace NB := NB.ext XB9; replace NC := NC.ext XB9; replace NS := NS.ext XB9; replace LB7 := LB7.ext XB9; replace NP := NP.ext XB9) | (clear TG19; have hRl := (RB9).lt (Nat.zero_lt_succ _); refine storesV (B := B9) rfl rfl rfl (v := p) rfl RB9 Fp ?_; clear LB9; intro s19 G19 LB9 RQ; have z20 := G19.size; replace E := grown_ext E G19 (by omega); replace NA := NA.grown G19 (by first | omega | (dsimp only [New]; omega)); replace NB := NB.grown G19 (by first | omega | (dsimp only [New]; omega)); replace NC := NC.grown G19 (by first | omega | (dsimp only [New]; omega)); replace NS := NS.grown G19 (by first | omega | (dsimp only [New]; omega)); replace LB7 := LB7.grown G19 (by omega); replace NP := NP.grown G19 (by first | omega | (dsimp only [New]; omega)); clear RB9; have RB9 := RQ; clear RQ hRl; clear RB9) | (refine loadgV (B := B7) (by rfl) rfl rfl LB7 ?_))
  clear LB7
  refine (n1 s _ _ NS.is).mono ?_
  rintro e w47 ⟨B, cb, rfl, SB, x⟩
  have z21 := x.size
  replace E := E.trans x
  replace NA := NA.ext x
  replace NB := NB.ext x
  replace NC := NC.ext x
  replace NS := NS.ext x
  replace NP := NP.ext x
  replace LB9 := LB9.ext x
  clear x
  go_wp2_with fail
  refine (s1 B _ cb _ (SB.ext ((Ext.refl _).alloc _)) (Sl.lit _ #[.float .f64 4622382067542392832, .float .f64 4622945017495814144] _)).mono ?_
  rintro e w49 ⟨rfl, x⟩
  replace x := ((Ext.refl _).alloc _).trans x
  have z22 := x.size
  replace E := E.trans x
  replace NA := NA.ext x
  replace NB := NB.ext x
  replace NC := NC.ext x
  replace NS := NS.ext x
  replace NP := NP.ext x
  replace LB9 := LB9.ext x
  replace SB := SB.ext x
  clear x
  go_wp2_with (refine loadgV (B := B9) (by rfl) rfl rfl LB9 ?_)
  refine (n2 p _ _ NP.is).mono ?_
  rintro e w53 ⟨B2, cb2, rfl, SB2, x⟩
  have z23 := x.size
  replace E := E.trans x
  replace NA := NA.ext x
  replace NB := NB.ext x
  replace NC := NC.ext x
  replace NS := NS.ext x
  replace NP := NP.ext x
  replace LB9 := LB9.ext x
  clear x
  go_wp2_with fail
  refine (s2 B2 _ cb2 _ (SB2.ext ((Ext.refl _).alloc _)) (Sl.lit _ #[.float .f64 4877398396442247168] _)).mono ?_
  rintro e w55 ⟨rfl, x⟩
  replace x := ((Ext.refl _).alloc _).trans x
  have z24 := x.size
  replace E := E.trans x
  replace NA := NA.ext x
  replace NB := NB.ext x
  replace NC := NC.ext x
  replace NS := NS.ext x
  replace NP := NP.ext x
  replace LB9 := LB9.ext x
  replace SB2 := SB2.ext x
  clear x
  go_wp2_with (refine loadgV (B := B9) (by rfl) rfl rfl LB9 ?_)
  clear LB9
  refine (nkind_any p 4 _ _ NP.is).mono ?_
  rintro e w59 ⟨rfl, x⟩
  have z25 := x.size
  replace E := E.trans x
  replace NA := NA.ext x
  replace NB := NB.ext x
  replace NC := NC.ext x
  replace NS := NS.ext x
  replace NP := NP.ext x
  clear x
  go_wp2_with fail
  go_ret
  exact ⟨rfl, E⟩
section
variable (w : World) (f : Int) (a b : Nat) (m n : Int)
theorem arithOne_ax (h1 : m < 0) (ha : ¬ fin a) : Calls Try.prog 8 #[.int .i64 f, .float .f64 a, .float .f64 b, .int .i64 m, .int .i64 n] w fun e w' => e = .returned (.bool true) ∧ Ext w w' := by
  have ca : ∀ w, Calls Try.prog 31 #[.float .f64 a] w fun e w' => e = .returned (.tuple #[.float .f64 (dn a), .bool (decide (fin a))]) ∧ Ext w w' := fun w => (rtidy_any a w).mono fun e w2 h => ⟨h.1, h.2 ▸ Ext.refl _⟩
  have cb : ∀ w, Calls Try.prog 31 #[.float .f64 b] w fun e w' => e = .returned (.tuple #[.float .f64 (dn b), .bool (decide (fin b))]) ∧ Ext w w' := fun w => (rtidy_any b w).mono fun e w2 h => ⟨h.1, h.2 ▸ Ext.refl _⟩
  have cl : ∀ w, Calls Try.prog 29 #[.int .i64 m, .int .i64 n] w fun e w' => e = .returned (.tuple #[.int .i64 (lenV m n), .bool (lenOk m n)]) ∧ Ext w w' := fun w => (length_any m n w).mono fun e w2 h => ⟨h.1, h.2 ▸ Ext.refl _⟩
  have cr : ∀ w, Calls Try.prog 30 #[.int .i64 m, .int .i64 n] w fun e w' => e = .returned (.int .i64 (rlenV m n)) ∧ Ext w w' := fun w => (rlength_any m n w).mono fun e w2 h => ⟨h.1, h.2 ▸ Ext.refl _⟩
  rw [decide_eq_false ha] at ca
  clear ha
  generalize decide (fin b) = tb at *
  generalize dn a = x0 at *
  generalize dn b = y0 at *
  generalize lenV m n = lv at *
  generalize lenOk m n = lo at *
  generalize rlenV m n = rl at *
  have E := Ext.refl w
  go_enter Try.func8, Try.ntmps8
  go_wp2_with fail
  refine (cl _).mono ?_
  rintro e w24 ⟨rfl, x⟩
  have z1 := x.size
  replace E := E.trans x
  clear x
  go_wp2_with fail
  refine (ca _).mono ?_
  rintro e w61 ⟨rfl, x⟩
  have z2 := x.size
  replace E := E.trans x
  clear x
  go_wp2_with fail
  refine (cb _).mono ?_
  rintro e w66 ⟨rfl, x⟩
  have z3 := x.size
  replace E := E.trans x
  clear x
  go_wp2_with fail
  refine (aawake_any _).mono ?_
  rintro e w75 ⟨rfl, x⟩
  have z4 := x.size
  replace E := E.trans x
  clear x
  go_wp2_with fail
  go_ret
  exact ⟨rfl, E⟩
theorem arithOne_ay (h1 : m < 0) (ha : fin a) (hb : ¬ fin b) : Calls Try.prog 8 #[.int .i64 f, .float .f64 a, .float .f64 b, .int .i64 m, .int .i64 n] w fun e w' => e = .returned (.bool true) ∧ Ext w w' := by
  have ca : ∀ w, Calls Try.prog 31 #[.float .f64 a] w fun e w' => e = .returned (.tuple #[.float .f64 (dn a), .bool (decide (fin a))]) ∧ Ext w w' := fun w => (rtidy_any a w).mono fun e w2 h => ⟨h.1, h.2 ▸ Ext.refl _⟩
  have cb : ∀ w, Calls Try.prog 31 #[.float .f64 b] w fun e w' => e = .returned (.tuple #[.float .f64 (dn b), .bool (decide (fin b))]) ∧ Ext w w' := fun w => (rtidy_any b w).mono fun e w2 h => ⟨h.1, h.2 ▸ Ext.refl _⟩
  have cl : ∀ w, Calls Try.prog 29 #[.int .i64 m, .int .i64 n] w fun e w' => e = .returned (.tuple #[.int .i64 (lenV m n), .bool (lenOk m n)]) ∧ Ext w w' := fun w => (length_any m n w).mono fun e w2 h => ⟨h.1, h.2 ▸ Ext.refl _⟩
  have cr : ∀ w, Calls Try.prog 30 #[.int .i64 m, .int .i64 n] w fun e w' => e = .returned (.int .i64 (rlenV m n)) ∧ Ext w w' := fun w => (rlength_any m n w).mono fun e w2 h => ⟨h.1, h.2 ▸ Ext.refl _⟩
  rw [decide_eq_true ha] at ca
  rw [decide_eq_false hb] at cb
  clear ha hb
  generalize dn a = x0 at *
  generalize dn b = y0 at *
  generalize lenV m n = lv at *
  generalize lenOk m n = lo at *
  generalize rlenV m n = rl at *
  have E := Ext.refl w
  go_enter Try.func8, Try.ntmps8
  go_wp2_with fail
  refine (cl _).mono ?_
  rintro e w24 ⟨rfl, x⟩
  have z1 := x.size
  replace E := E.trans x
  clear x
  go_wp2_with fail
  refine (ca _).mono ?_
  rintro e w61 ⟨rfl, x⟩
  have z2 := x.size
  replace E := E.trans x
  clear x
  go_wp2_with fail
  refine (cb _).mono ?_
  rintro e w66 ⟨rfl, x⟩
  have z3 := x.size
  replace E := E.trans x
  clear x
  go_wp2_with fail
  refine (aawake_any _).mono ?_
  rintro e w75 ⟨rfl, x⟩
  have z4 := x.size
  replace E := E.trans x
  clear x
  go_wp2_with fail
  go_ret
  exact ⟨rfl, E⟩
theorem arithOne_az (h1 : m < 0) (ha : fin a) (hb : fin b) (hal : a < 18446744073709551616) (hbl : b < 18446744073709551616) : Calls Try.prog 8 #[.int .i64 f, .float .f64 a, .float .f64 b, .int .i64 m, .int .i64 n] w fun e w' => e = .returned (.bool true) ∧ Ext w w' := by
  have ca : ∀ w, Calls Try.prog 31 #[.float .f64 a] w fun e w' => e = .returned (.tuple #[.float .f64 (dn a), .bool (decide (fin a))]) ∧ Ext w w' := fun w => (rtidy_any a w).mono fun e w2 h => ⟨h.1, h.2 ▸ Ext.refl _⟩
  have cb : ∀ w, Calls Try.prog 31 #[.float .f64 b] w fun e w' => e = .returned (.tuple #[.float .f64 (dn b), .bool (decide (fin b))]) ∧ Ext w w' := fun w => (rtidy_any b w).mono fun e w2 h => ⟨h.1, h.2 ▸ Ext.refl _⟩
  have cl : ∀ w, Calls Try.prog 29 #[.int .i64 m, .int .i64 n] w fun e w' => e = .returned (.tuple #[.int .i64 (lenV m n), .bool (lenOk m n)]) ∧ Ext w w' := fun w => (length_any m n w).mono fun e w2 h => ⟨h.1, h.2 ▸ Ext.refl _⟩
  have cr : ∀ w, Calls Try.prog 30 #[.int .i64 m, .int .i64 n] w fun e w' => e = .returned (.int .i64 (rlenV m n)) ∧ Ext w w' := fun w => (rlength_any m n w).mono fun e w2 h => ⟨h.1, h.2 ▸ Ext.refl _⟩
  rw [decide_eq_true ha] at ca
  rw [decide_eq_true hb] at cb
  have ta := dn_tidy a hal
  have tb := dn_tidy b hbl
  have co : ∀ w, Calls Try.prog 33 #[.int .i64 f, .float .f64 (dn a), .float .f64 (dn b)] w fun e w' => e = .returned (.tuple #[.float .f64 (valA f (dn a) (dn b)), .int .i64 (errA f (dn a) (dn b))]) ∧ Ext w w' := fun w => (ao_any f _ _ ta tb w).mono fun e w2 h => ⟨h.1, h.2 ▸ Ext.refl _⟩
  have cs : ∀ w, Calls Try.prog 34 #[.int .i64 f, .float .f64 (dn a), .float .f64 (dn b)] w fun e w' => e = .returned (.tuple #[.float .f64 (valA f (dn a) (dn b)), .int .i64 (errA f (dn a) (dn b))]) ∧ Ext w w' := fun w => (rao_any f _ _ ta tb w).mono fun e w2 h => ⟨h.1, h.2 ▸ Ext.refl _⟩
  have ce : ∀ x, nn x → x < 18446744073709551616 → ∀ w, Calls Try.prog 35 #[.float .f64 x, .float .f64 x] w fun e w' => e = .returned (.bool true) ∧ Ext w w' := fun x nx lx w => (bits_any x x nx nx lx lx w).mono fun e w2 h => ⟨by rw [h.1, decide_eq_true rfl], h.2 ▸ Ext.refl _⟩
  have tv := valA_tidy f ta tb
  replace ce := ce (valA f (dn a) (dn b)) tv.1.nn tv.2.1
  clear ha hb hal hbl ta tb tv
  generalize valA f (dn a) (dn b) = va at *
  generalize errA f (dn a) (dn b) = er at *
  generalize dn a = x0 at *
  generalize dn b = y0 at *
  generalize lenV m n = lv at *
  generalize lenOk m n = lo at *
  generalize rlenV m n = rl at *
  have E := Ext.refl w
  go_enter Try.func8, Try.ntmps8
  go_wp2_with fail
  refine (cl _).mono ?_
  rintro e w24 ⟨rfl, x⟩
  have z1 := x.size
  replace E := E.trans x
  clear x
  go_wp2_with fail
  refine (ca _).mono ?_
  rintro e w61 ⟨rfl, x⟩
  have z2 := x.size
  replace E := E.trans x
  clear x
  go_wp2_with fail
  refine (cb _).mono ?_
  rintro e w66 ⟨rfl, x⟩
  have z3 := x.size
  replace E := E.trans x
  clear x
  go_wp2_with fail
  refine (co _).mono ?_
  rintro e w80 ⟨rfl, x⟩
  have z4 := x.size
  replace E := E.trans x
  clear x
  go_wp2_with fail
  refine (cs _).mono ?_
  rintro e w87 ⟨rfl, x⟩
  have z5 := x.size
  replace E := E.trans x
  clear x
  go_wp2_with fail
  refine (ce _).mono ?_
  rintro e w92 ⟨rfl, x⟩
  have z6 := x.size
  replace E := E.trans x
  clear x
  go_wp2_with fail
  refine (aawake_any _).mono ?_
  rintro e w99 ⟨rfl, x⟩
  have z7 := x.size
  replace E := E.trans x
  clear x
  go_wp2_with fail
  go_ret
  exact ⟨rfl, E⟩
theorem arithOne_bx (h1 : ¬ m < 0) (h2 : n < 0) (ha : ¬ fin a) : Calls Try.prog 8 #[.int .i64 f, .float .f64 a, .float .f64 b, .int .i64 m, .int .i64 n] w fun e w' => e = .returned (.bool true) ∧ Ext w w' := by
  have ca : ∀ w, Calls Try.prog 31 #[.float .f64 a] w fun e w' => e = .returned (.tuple #[.float .f64 (dn a), .bool (decide (fin a))]) ∧ Ext w w' := fun w => (rtidy_any a w).mono fun e w2 h => ⟨h.1, h.2 ▸ Ext.refl _⟩
  have cb : ∀ w, Calls Try.prog 31 #[.float .f64 b] w fun e w' => e = .returned (.tuple #[.float .f64 (dn b), .bool (decide (fin b))]) ∧ Ext w w' := fun w => (rtidy_any b w).mono fun e w2 h => ⟨h.1, h.2 ▸ Ext.refl _⟩
  have cl : ∀ w, Calls Try.prog 29 #[.int .i64 m, .int .i64 n] w fun e w' => e = .returned (.tuple #[.int .i64 (lenV m n), .bool (lenOk m n)]) ∧ Ext w w' := fun w => (length_any m n w).mono fun e w2 h => ⟨h.1, h.2 ▸ Ext.refl _⟩
  have cr : ∀ w, Calls Try.prog 30 #[.int .i64 m, .int .i64 n] w fun e w' => e = .returned (.int .i64 (rlenV m n)) ∧ Ext w w' := fun w => (rlength_any m n w).mono fun e w2 h => ⟨h.1, h.2 ▸ Ext.refl _⟩
  rw [decide_eq_false ha] at ca
  clear ha
  generalize decide (fin b) = tb at *
  generalize dn a = x0 at *
  generalize dn b = y0 at *
  generalize lenV m n = lv at *
  generalize lenOk m n = lo at *
  generalize rlenV m n = rl at *
  have E := Ext.refl w
  go_enter Try.func8, Try.ntmps8
  go_wp2_with fail
  refine (cl _).mono ?_
  rintro e w24 ⟨rfl, x⟩
  have z1 := x.size
  replace E := E.trans x
  clear x
  go_wp2_with fail
  refine (ca _).mono ?_
  rintro e w61 ⟨rfl, x⟩
  have z2 := x.size
  replace E := E.trans x
  clear x
  go_wp2_with fail
  refine (cb _).mono ?_
  rintro e w66 ⟨rfl, x⟩
  have z3 := x.size
  replace E := E.trans x
  clear x
  go_wp2_with fail
  refine (aawake_any _).mono ?_
  rintro e w75 ⟨rfl, x⟩
  have z4 := x.size
  replace E := E.trans x
  clear x
  go_wp2_with fail
  go_ret
  exact ⟨rfl, E⟩
theorem arithOne_by (h1 : ¬ m < 0) (h2 : n < 0) (ha : fin a) (hb : ¬ fin b) : Calls Try.prog 8 #[.int .i64 f, .float .f64 a, .float .f64 b, .int .i64 m, .int .i64 n] w fun e w' => e = .returned (.bool true) ∧ Ext w w' := by
  have ca : ∀ w, Calls Try.prog 31 #[.float .f64 a] w fun e w' => e = .returned (.tuple #[.float .f64 (dn a), .bool (decide (fin a))]) ∧ Ext w w' := fun w => (rtidy_any a w).mono fun e w2 h => ⟨h.1, h.2 ▸ Ext.refl _⟩
  have cb : ∀ w, Calls Try.prog 31 #[.float .f64 b] w fun e w' => e = .returned (.tuple #[.float .f64 (dn b), .bool (decide (fin b))]) ∧ Ext w w' := fun w => (rtidy_any b w).mono fun e w2 h => ⟨h.1, h.2 ▸ Ext.refl _⟩
  have cl : ∀ w, Calls Try.prog 29 #[.int .i64 m, .int .i64 n] w fun e w' => e = .returned (.tuple #[.int .i64 (lenV m n), .bool (lenOk m n)]) ∧ Ext w w' := fun w => (length_any m n w).mono fun e w2 h => ⟨h.1, h.2 ▸ Ext.refl _⟩
  have cr : ∀ w, Calls Try.prog 30 #[.int .i64 m, .int .i64 n] w fun e w' => e = .returned (.int .i64 (rlenV m n)) ∧ Ext w w' := fun w => (rlength_any m n w).mono fun e w2 h => ⟨h.1, h.2 ▸ Ext.refl _⟩
  rw [decide_eq_true ha] at ca
  rw [decide_eq_false hb] at cb
  clear ha hb
  generalize dn a = x0 at *
  generalize dn b = y0 at *
  generalize lenV m n = lv at *
  generalize lenOk m n = lo at *
  generalize rlenV m n = rl at *
  have E := Ext.refl w
  go_enter Try.func8, Try.ntmps8
  go_wp2_with fail
  refine (cl _).mono ?_
  rintro e w24 ⟨rfl, x⟩
  have z1 := x.size
  replace E := E.trans x
  clear x
  go_wp2_with fail
  refine (ca _).mono ?_
  rintro e w61 ⟨rfl, x⟩
  have z2 := x.size
  replace E := E.trans x
  clear x
  go_wp2_with fail
  refine (cb _).mono ?_
  rintro e w66 ⟨rfl, x⟩
  have z3 := x.size
  replace E := E.trans x
  clear x
  go_wp2_with fail
  refine (aawake_any _).mono ?_
  rintro e w75 ⟨rfl, x⟩
  have z4 := x.size
  replace E := E.trans x
  clear x
  go_wp2_with fail
  go_ret
  exact ⟨rfl, E⟩
theorem arithOne_bz (h1 : ¬ m < 0) (h2 : n < 0) (ha : fin a) (hb : fin b) (hal : a < 18446744073709551616) (hbl : b < 18446744073709551616) : Calls Try.prog 8 #[.int .i64 f, .float .f64 a, .float .f64 b, .int .i64 m, .int .i64 n] w fun e w' => e = .returned (.bool true) ∧ Ext w w' := by
  have ca : ∀ w, Calls Try.prog 31 #[.float .f64 a] w fun e w' => e = .returned (.tuple #[.float .f64 (dn a), .bool (decide (fin a))]) ∧ Ext w w' := fun w => (rtidy_any a w).mono fun e w2 h => ⟨h.1, h.2 ▸ Ext.refl _⟩
  have cb : ∀ w, Calls Try.prog 31 #[.float .f64 b] w fun e w' => e = .returned (.tuple #[.float .f64 (dn b), .bool (decide (fin b))]) ∧ Ext w w' := fun w => (rtidy_any b w).mono fun e w2 h => ⟨h.1, h.2 ▸ Ext.refl _⟩
  have cl : ∀ w, Calls Try.prog 29 #[.int .i64 m, .int .i64 n] w fun e w' => e = .returned (.tuple #[.int .i64 (lenV m n), .bool (lenOk m n)]) ∧ Ext w w' := fun w => (length_any m n w).mono fun e w2 h => ⟨h.1, h.2 ▸ Ext.refl _⟩
  have cr : ∀ w, Calls Try.prog 30 #[.int .i64 m, .int .i64 n] w fun e w' => e = .returned (.int .i64 (rlenV m n)) ∧ Ext w w' := fun w => (rlength_any m n w).mono fun e w2 h => ⟨h.1, h.2 ▸ Ext.refl _⟩
  rw [decide_eq_true ha] at ca
  rw [decide_eq_true hb] at cb
  have ta := dn_tidy a hal
  have tb := dn_tidy b hbl
  have co : ∀ w, Calls Try.prog 33 #[.int .i64 f, .float .f64 (dn a), .float .f64 (dn b)] w fun e w' => e = .returned (.tuple #[.float .f64 (valA f (dn a) (dn b)), .int .i64 (errA f (dn a) (dn b))]) ∧ Ext w w' := fun w => (ao_any f _ _ ta tb w).mono fun e w2 h => ⟨h.1, h.2 ▸ Ext.refl _⟩
  have cs : ∀ w, Calls Try.prog 34 #[.int .i64 f, .float .f64 (dn a), .float .f64 (dn b)] w fun e w' => e = .returned (.tuple #[.float .f64 (valA f (dn a) (dn b)), .int .i64 (errA f (dn a) (dn b))]) ∧ Ext w w' := fun w => (rao_any f _ _ ta tb w).mono fun e w2 h => ⟨h.1, h.2 ▸ Ext.refl _⟩
  have ce : ∀ x, nn x → x < 18446744073709551616 → ∀ w, Calls Try.prog 35 #[.float .f64 x, .float .f64 x] w fun e w' => e = .returned (.bool true) ∧ Ext w w' := fun x nx lx w => (bits_any x x nx nx lx lx w).mono fun e w2 h => ⟨by rw [h.1, decide_eq_true rfl], h.2 ▸ Ext.refl _⟩
  have tv := valA_tidy f ta tb
  replace ce := ce (valA f (dn a) (dn b)) tv.1.nn tv.2.1
  clear ha hb hal hbl ta tb tv
  generalize valA f (dn a) (dn b) = va at *
  generalize errA f (dn a) (dn b) = er at *
  generalize dn a = x0 at *
  generalize dn b = y0 at *
  generalize lenV m n = lv at *
  generalize lenOk m n = lo at *
  generalize rlenV m n = rl at *
  have E := Ext.refl w
  go_enter Try.func8, Try.ntmps8
  go_wp2_with fail
  refine (cl _).mono ?_
  rintro e w24 ⟨rfl, x⟩
  have z1 := x.size
  replace E := E.trans x
  clear x
  go_wp2_with fail
  refine (ca _).mono ?_
  rintro e w61 ⟨rfl, x⟩
  have z2 := x.size
  replace E := E.trans x
  clear x
  go_wp2_with fail
  refine (cb _).mono ?_
  rintro e w66 ⟨rfl, x⟩
  have z3 := x.size
  replace E := E.trans x
  clear x
  go_wp2_with fail
  refine (co _).mono ?_
  rintro e w80 ⟨rfl, x⟩
  have z4 := x.size
  replace E := E.trans x
  clear x
  go_wp2_with fail
  refine (cs _).mono ?_
  rintro e w87 ⟨rfl, x⟩
  have z5 := x.size
  replace E := E.trans x
  clear x
  go_wp2_with fail
  refine (ce _).mono ?_
  rintro e w92 ⟨rfl, x⟩
  have z6 := x.size
  replace E := E.trans x
  clear x
  go_wp2_with fail
  refine (aawake_any _).mono ?_
  rintro e w99 ⟨rfl, x⟩
  have z7 := x.size
  replace E := E.trans x
  clear x
  go_wp2_with fail
  go_ret
  exact ⟨rfl, E⟩
theorem arithOne_cx (h1 : ¬ m < 0) (h2 : ¬ n < 0) (hl : lenOk m n = true) (ha : ¬ fin a) : Calls Try.prog 8 #[.int .i64 f, .float .f64 a, .float .f64 b, .int .i64 m, .int .i64 n] w fun e w' => e = .returned (.bool true) ∧ Ext w w' := by
  have ca : ∀ w, Calls Try.prog 31 #[.float .f64 a] w fun e w' => e = .returned (.tuple #[.float .f64 (dn a), .bool (decide (fin a))]) ∧ Ext w w' := fun w => (rtidy_any a w).mono fun e w2 h => ⟨h.1, h.2 ▸ Ext.refl _⟩
  have cb : ∀ w, Calls Try.prog 31 #[.float .f64 b] w fun e w' => e = .returned (.tuple #[.float .f64 (dn b), .bool (decide (fin b))]) ∧ Ext w w' := fun w => (rtidy_any b w).mono fun e w2 h => ⟨h.1, h.2 ▸ Ext.refl _⟩
  have cl : ∀ w, Calls Try.prog 29 #[.int .i64 m, .int .i64 n] w fun e w' => e = .returned (.tuple #[.int .i64 (lenV m n), .bool (lenOk m n)]) ∧ Ext w w' := fun w => (length_any m n w).mono fun e w2 h => ⟨h.1, h.2 ▸ Ext.refl _⟩
  have cr : ∀ w, Calls Try.prog 30 #[.int .i64 m, .int .i64 n] w fun e w' => e = .returned (.int .i64 (rlenV m n)) ∧ Ext w w' := fun w => (rlength_any m n w).mono fun e w2 h => ⟨h.1, h.2 ▸ Ext.refl _⟩
  have h0 : (0 : Int) ≤ lenV m n := by unfold lenV; repeat (first | split | omega)
  rw [rlen_ok hl] at cr
  rw [hl] at cl
  clear hl
  rw [decide_eq_false ha] at ca
  clear ha
  generalize decide (fin b) = tb at *
  generalize dn a = x0 at *
  generalize dn b = y0 at *
  generalize lenV m n = lv at *
  generalize lenOk m n = lo at *
  generalize rlenV m n = rl at *
  have E := Ext.refl w
  go_enter Try.func8, Try.ntmps8
  go_wp2_with fail
  refine (cl _).mono ?_
  rintro e w24 ⟨rfl, x⟩
  have z1 := x.size
  replace E := E.trans x
  clear x
  go_wp2_with fail
  refine (cr _).mono ?_
  rintro e w37 ⟨rfl, x⟩
  have z2 := x.size
  replace E := E.trans x
  clear x
  go_wp2_with fail
  refine (cr _).mono ?_
  rintro e w46 ⟨rfl, x⟩
  have z3 := x.size
  replace E := E.trans x
  clear x
  go_wp2_with fail
  refine (ca _).mono ?_
  rintro e w61 ⟨rfl, x⟩
  have z4 := x.size
  replace E := E.trans x
  clear x
  go_wp2_with fail
  refine (cb _).mono ?_
  rintro e w66 ⟨rfl, x⟩
  have z5 := x.size
  replace E := E.trans x
  clear x
  go_wp2_with fail
  refine (aawake_any _).mono ?_
  rintro e w75 ⟨rfl, x⟩
  have z6 := x.size
  replace E := E.trans x
  clear x
  go_wp2_with fail
  go_ret
  exact ⟨rfl, E⟩
theorem arithOne_cy (h1 : ¬ m < 0) (h2 : ¬ n < 0) (hl : lenOk m n = true) (ha : fin a) (hb : ¬ fin b) : Calls Try.prog 8 #[.int .i64 f, .float .f64 a, .float .f64 b, .int .i64 m, .int .i64 n] w fun e w' => e = .returned (.bool true) ∧ Ext w w' := by
  have ca : ∀ w, Calls Try.prog 31 #[.float .f64 a] w fun e w' => e = .returned (.tuple #[.float .f64 (dn a), .bool (decide (fin a))]) ∧ Ext w w' := fun w => (rtidy_any a w).mono fun e w2 h => ⟨h.1, h.2 ▸ Ext.refl _⟩
  have cb : ∀ w, Calls Try.prog 31 #[.float .f64 b] w fun e w' => e = .returned (.tuple #[.float .f64 (dn b), .bool (decide (fin b))]) ∧ Ext w w' := fun w => (rtidy_any b w).mono fun e w2 h => ⟨h.1, h.2 ▸ Ext.refl _⟩
  have cl : ∀ w, Calls Try.prog 29 #[.int .i64 m, .int .i64 n] w fun e w' => e = .returned (.tuple #[.int .i64 (lenV m n), .bool (lenOk m n)]) ∧ Ext w w' := fun w => (length_any m n w).mono fun e w2 h => ⟨h.1, h.2 ▸ Ext.refl _⟩
  have cr : ∀ w, Calls Try.prog 30 #[.int .i64 m, .int .i64 n] w fun e w' => e = .returned (.int .i64 (rlenV m n)) ∧ Ext w w' := fun w => (rlength_any m n w).mono fun e w2 h => ⟨h.1, h.2 ▸ Ext.refl _⟩
  have h0 : (0 : Int) ≤ lenV m n := by unfold lenV; repeat (first | split | omega)
  rw [rlen_ok hl] at cr
  rw [hl] at cl
  clear hl
  rw [decide_eq_true ha] at ca
  rw [decide_eq_false hb] at cb
  clear ha hb
  generalize dn a = x0 at *
  generalize dn b = y0 at *
  generalize lenV m n = lv at *
  generalize lenOk m n = lo at *
  generalize rlenV m n = rl at *
  have E := Ext.refl w
  go_enter Try.func8, Try.ntmps8
  go_wp2_with fail
  refine (cl _).mono ?_
  rintro e w24 ⟨rfl, x⟩
  have z1 := x.size
  replace E := E.trans x
  clear x
  go_wp2_with fail
  refine (cr _).mono ?_
  rintro e w37 ⟨rfl, x⟩
  have z2 := x.size
  replace E := E.trans x
  clear x
  go_wp2_with fail
  refine (cr _).mono ?_
  rintro e w46 ⟨rfl, x⟩
  have z3 := x.size
  replace E := E.trans x
  clear x
  go_wp2_with fail
  refine (ca _).mono ?_
  rintro e w61 ⟨rfl, x⟩
  have z4 := x.size
  replace E := E.trans x
  clear x
  go_wp2_with fail
  refine (cb _).mono ?_
  rintro e w66 ⟨rfl, x⟩
  have z5 := x.size
  replace E := E.trans x
  clear x
  go_wp2_with fail
  refine (aawake_any _).mono ?_
  rintro e w75 ⟨rfl, x⟩
  have z6 := x.size
  replace E := E.trans x
  clear x
  go_wp2_with fail
  go_ret
  exact ⟨rfl, E⟩
theorem arithOne_cz (h1 : ¬ m < 0) (h2 : ¬ n < 0) (hl : lenOk m n = true) (ha : fin a) (hb : fin b) (hal : a < 18446744073709551616) (hbl : b < 18446744073709551616) : Calls Try.prog 8 #[.int .i64 f, .float .f64 a, .float .f64 b, .int .i64 m, .int .i64 n] w fun e w' => e = .returned (.bool true) ∧ Ext w w' := by
  have ca : ∀ w, Calls Try.prog 31 #[.float .f64 a] w fun e w' => e = .returned (.tuple #[.float .f64 (dn a), .bool (decide (fin a))]) ∧ Ext w w' := fun w => (rtidy_any a w).mono fun e w2 h => ⟨h.1, h.2 ▸ Ext.refl _⟩
  have cb : ∀ w, Calls Try.prog 31 #[.float .f64 b] w fun e w' => e = .returned (.tuple #[.float .f64 (dn b), .bool (decide (fin b))]) ∧ Ext w w' := fun w => (rtidy_any b w).mono fun e w2 h => ⟨h.1, h.2 ▸ Ext.refl _⟩
  have cl : ∀ w, Calls Try.prog 29 #[.int .i64 m, .int .i64 n] w fun e w' => e = .returned (.tuple #[.int .i64 (lenV m n), .bool (lenOk m n)]) ∧ Ext w w' := fun w => (length_any m n w).mono fun e w2 h => ⟨h.1, h.2 ▸ Ext.refl _⟩
  have cr : ∀ w, Calls Try.prog 30 #[.int .i64 m, .int .i64 n] w fun e w' => e = .returned (.int .i64 (rlenV m n)) ∧ Ext w w' := fun w => (rlength_any m n w).mono fun e w2 h => ⟨h.1, h.2 ▸ Ext.refl _⟩
  have h0 : (0 : Int) ≤ lenV m n := by unfold lenV; repeat (first | split | omega)
  rw [rlen_ok hl] at cr
  rw [hl] at cl
  clear hl
  rw [decide_eq_true ha] at ca
  rw [decide_eq_true hb] at cb
  have ta := dn_tidy a hal
  have tb := dn_tidy b hbl
  have co : ∀ w, Calls Try.prog 33 #[.int .i64 f, .float .f64 (dn a), .float .f64 (dn b)] w fun e w' => e = .returned (.tuple #[.float .f64 (valA f (dn a) (dn b)), .int .i64 (errA f (dn a) (dn b))]) ∧ Ext w w' := fun w => (ao_any f _ _ ta tb w).mono fun e w2 h => ⟨h.1, h.2 ▸ Ext.refl _⟩
  have cs : ∀ w, Calls Try.prog 34 #[.int .i64 f, .float .f64 (dn a), .float .f64 (dn b)] w fun e w' => e = .returned (.tuple #[.float .f64 (valA f (dn a) (dn b)), .int .i64 (errA f (dn a) (dn b))]) ∧ Ext w w' := fun w => (rao_any f _ _ ta tb w).mono fun e w2 h => ⟨h.1, h.2 ▸ Ext.refl _⟩
  have ce : ∀ x, nn x → x < 18446744073709551616 → ∀ w, Calls Try.prog 35 #[.float .f64 x, .float .f64 x] w fun e w' => e = .returned (.bool true) ∧ Ext w w' := fun x nx lx w => (bits_any x x nx nx lx lx w).mono fun e w2 h => ⟨by rw [h.1, decide_eq_true rfl], h.2 ▸ Ext.refl _⟩
  have tv := valA_tidy f ta tb
  replace ce := ce (valA f (dn a) (dn b)) tv.1.nn tv.2.1
  clear ha hb hal hbl ta tb tv
  generalize valA f (dn a) (dn b) = va at *
  generalize errA f (dn a) (dn b) = er at *
  generalize dn a = x0 at *
  generalize dn b = y0 at *
  generalize lenV m n = lv at *
  generalize lenOk m n = lo at *
  generalize rlenV m n = rl at *
  have E := Ext.refl w
  go_enter Try.func8, Try.ntmps8
  go_wp2_with fail
  refine (cl _).mono ?_
  rintro e w24 ⟨rfl, x⟩
  have z1 := x.size
  replace E := E.trans x
  clear x
  go_wp2_with fail
  refine (cr _).mono ?_
  rintro e w37 ⟨rfl, x⟩
  have z2 := x.size
  replace E := E.trans x
  clear x
  go_wp2_with fail
  refine (cr _).mono ?_
  rintro e w46 ⟨rfl, x⟩
  have z3 := x.size
  replace E := E.trans x
  clear x
  go_wp2_with fail
  refine (ca _).mono ?_
  rintro e w61 ⟨rfl, x⟩
  have z4 := x.size
  replace E := E.trans x
  clear x
  go_wp2_with fail
  refine (cb _).mono ?_
  rintro e w66 ⟨rfl, x⟩
  have z5 := x.size
  replace E := E.trans x
  clear x
  go_wp2_with fail
  refine (co _).mono ?_
  rintro e w80 ⟨rfl, x⟩
  have z6 := x.size
  replace E := E.trans x
  clear x
  go_wp2_with fail
  refine (cs _).mono ?_
  rintro e w87 ⟨rfl, x⟩
  have z7 := x.size
  replace E := E.trans x
  clear x
  go_wp2_with fail
  refine (ce _).mono ?_
  rintro e w92 ⟨rfl, x⟩
  have z8 := x.size
  replace E := E.trans x
  clear x
  go_wp2_with fail
  refine (aawake_any _).mono ?_
  rintro e w99 ⟨rfl, x⟩
  have z9 := x.size
  replace E := E.trans x
  clear x
  go_wp2_with fail
  go_ret
  exact ⟨rfl, E⟩
theorem arithOne_dx (h1 : ¬ m < 0) (h2 : ¬ n < 0) (hl : lenOk m n = false) (ha : ¬ fin a) : Calls Try.prog 8 #[.int .i64 f, .float .f64 a, .float .f64 b, .int .i64 m, .int .i64 n] w fun e w' => e = .returned (.bool true) ∧ Ext w w' := by
  have ca : ∀ w, Calls Try.prog 31 #[.float .f64 a] w fun e w' => e = .returned (.tuple #[.float .f64 (dn a), .bool (decide (fin a))]) ∧ Ext w w' := fun w => (rtidy_any a w).mono fun e w2 h => ⟨h.1, h.2 ▸ Ext.refl _⟩
  have cb : ∀ w, Calls Try.prog 31 #[.float .f64 b] w fun e w' => e = .returned (.tuple #[.float .f64 (dn b), .bool (decide (fin b))]) ∧ Ext w w' := fun w => (rtidy_any b w).mono fun e w2 h => ⟨h.1, h.2 ▸ Ext.refl _⟩
  have cl : ∀ w, Calls Try.prog 29 #[.int .i64 m, .int .i64 n] w fun e w' => e = .returned (.tuple #[.int .i64 (lenV m n), .bool (lenOk m n)]) ∧ Ext w w' := fun w => (length_any m n w).mono fun e w2 h => ⟨h.1, h.2 ▸ Ext.refl _⟩
  have cr : ∀ w, Calls Try.prog 30 #[.int .i64 m, .int .i64 n] w fun e w' => e = .returned (.int .i64 (rlenV m n)) ∧ Ext w w' := fun w => (rlength_any m n w).mono fun e w2 h => ⟨h.1, h.2 ▸ Ext.refl _⟩
  rw [(rlen_no hl).1] at cr
  rw [hl, (rlen_no hl).2] at cl
  clear hl
  rw [decide_eq_false ha] at ca
  clear ha
  generalize decide (fin b) = tb at *
  generalize dn a = x0 at *
  generalize dn b = y0 at *
  generalize lenV m n = lv at *
  generalize lenOk m n = lo at *
  generalize rlenV m n = rl at *
  have E := Ext.refl w
  go_enter Try.func8, Try.ntmps8
  go_wp2_with fail
  refine (cl _).mono ?_
  rintro e w24 ⟨rfl, x⟩
  have z1 := x.size
  replace E := E.trans x
  clear x
  go_wp2_with fail
  refine (cr _).mono ?_
  rintro e w37 ⟨rfl, x⟩
  have z2 := x.size
  replace E := E.trans x
  clear x
  go_wp2_with fail
  refine (ca _).mono ?_
  rintro e w61 ⟨rfl, x⟩
  have z3 := x.size
  replace E := E.trans x
  clear x
  go_wp2_with fail
  refine (cb _).mono ?_
  rintro e w66 ⟨rfl, x⟩
  have z4 := x.size
  replace E := E.trans x
  clear x
  go_wp2_with fail
  refine (aawake_any _).mono ?_
  rintro e w75 ⟨rfl, x⟩
  have z5 := x.size
  replace E := E.trans x
  clear x
  go_wp2_with fail
  go_ret
  exact ⟨rfl, E⟩
theorem arithOne_dy (h1 : ¬ m < 0) (h2 : ¬ n < 0) (hl : lenOk m n = false) (ha : fin a) (hb : ¬ fin b) : Calls Try.prog 8 #[.int .i64 f, .float .f64 a, .float .f64 b, .int .i64 m, .int .i64 n] w fun e w' => e = .returned (.bool true) ∧ Ext w w' := by
  have ca : ∀ w, Calls Try.prog 31 #[.float .f64 a] w fun e w' => e = .returned (.tuple #[.float .f64 (dn a), .bool (decide (fin a))]) ∧ Ext w w' := fun w => (rtidy_any a w).mono fun e w2 h => ⟨h.1, h.2 ▸ Ext.refl _⟩
  have cb : ∀ w, Calls Try.prog 31 #[.float .f64 b] w fun e w' => e = .returned (.tuple #[.float .f64 (dn b), .bool (decide (fin b))]) ∧ Ext w w' := fun w => (rtidy_any b w).mono fun e w2 h => ⟨h.1, h.2 ▸ Ext.refl _⟩
  have cl : ∀ w, Calls Try.prog 29 #[.int .i64 m, .int .i64 n] w fun e w' => e = .returned (.tuple #[.int .i64 (lenV m n), .bool (lenOk m n)]) ∧ Ext w w' := fun w => (length_any m n w).mono fun e w2 h => ⟨h.1, h.2 ▸ Ext.refl _⟩
  have cr : ∀ w, Calls Try.prog 30 #[.int .i64 m, .int .i64 n] w fun e w' => e = .returned (.int .i64 (rlenV m n)) ∧ Ext w w' := fun w => (rlength_any m n w).mono fun e w2 h => ⟨h.1, h.2 ▸ Ext.refl _⟩
  rw [(rlen_no hl).1] at cr
  rw [hl, (rlen_no hl).2] at cl
  clear hl
  rw [decide_eq_true ha] at ca
  rw [decide_eq_false hb] at cb
  clear ha hb
  generalize dn a = x0 at *
  generalize dn b = y0 at *
  generalize lenV m n = lv at *
  generalize lenOk m n = lo at *
  generalize rlenV m n = rl at *
  have E := Ext.refl w
  go_enter Try.func8, Try.ntmps8
  go_wp2_with fail
  refine (cl _).mono ?_
  rintro e w24 ⟨rfl, x⟩
  have z1 := x.size
  replace E := E.trans x
  clear x
  go_wp2_with fail
  refine (cr _).mono ?_
  rintro e w37 ⟨rfl, x⟩
  have z2 := x.size
  replace E := E.trans x
  clear x
  go_wp2_with fail
  refine (ca _).mono ?_
  rintro e w61 ⟨rfl, x⟩
  have z3 := x.size
  replace E := E.trans x
  clear x
  go_wp2_with fail
  refine (cb _).mono ?_
  rintro e w66 ⟨rfl, x⟩
  have z4 := x.size
  replace E := E.trans x
  clear x
  go_wp2_with fail
  refine (aawake_any _).mono ?_
  rintro e w75 ⟨rfl, x⟩
  have z5 := x.size
  replace E := E.trans x
  clear x
  go_wp2_with fail
  go_ret
  exact ⟨rfl, E⟩
theorem arithOne_dz (h1 : ¬ m < 0) (h2 : ¬ n < 0) (hl : lenOk m n = false) (ha : fin a) (hb : fin b) (hal : a < 18446744073709551616) (hbl : b < 18446744073709551616) : Calls Try.prog 8 #[.int .i64 f, .float .f64 a, .float .f64 b, .int .i64 m, .int .i64 n] w fun e w' => e = .returned (.bool true) ∧ Ext w w' := by
  have ca : ∀ w, Calls Try.prog 31 #[.float .f64 a] w fun e w' => e = .returned (.tuple #[.float .f64 (dn a), .bool (decide (fin a))]) ∧ Ext w w' := fun w => (rtidy_any a w).mono fun e w2 h => ⟨h.1, h.2 ▸ Ext.refl _⟩
  have cb : ∀ w, Calls Try.prog 31 #[.float .f64 b] w fun e w' => e = .returned (.tuple #[.float .f64 (dn b), .bool (decide (fin b))]) ∧ Ext w w' := fun w => (rtidy_any b w).mono fun e w2 h => ⟨h.1, h.2 ▸ Ext.refl _⟩
  have cl : ∀ w, Calls Try.prog 29 #[.int .i64 m, .int .i64 n] w fun e w' => e = .returned (.tuple #[.int .i64 (lenV m n), .bool (lenOk m n)]) ∧ Ext w w' := fun w => (length_any m n w).mono fun e w2 h => ⟨h.1, h.2 ▸ Ext.refl _⟩
  have cr : ∀ w, Calls Try.prog 30 #[.int .i64 m, .int .i64 n] w fun e w' => e = .returned (.int .i64 (rlenV m n)) ∧ Ext w w' := fun w => (rlength_any m n w).mono fun e w2 h => ⟨h.1, h.2 ▸ Ext.refl _⟩
  rw [(rlen_no hl).1] at cr
  rw [hl, (rlen_no hl).2] at cl
  clear hl
  rw [decide_eq_true ha] at ca
  rw [decide_eq_true hb] at cb
  have ta := dn_tidy a hal
  have tb := dn_tidy b hbl
  have co : ∀ w, Calls Try.prog 33 #[.int .i64 f, .float .f64 (dn a), .float .f64 (dn b)] w fun e w' => e = .returned (.tuple #[.float .f64 (valA f (dn a) (dn b)), .int .i64 (errA f (dn a) (dn b))]) ∧ Ext w w' := fun w => (ao_any f _ _ ta tb w).mono fun e w2 h => ⟨h.1, h.2 ▸ Ext.refl _⟩
  have cs : ∀ w, Calls Try.prog 34 #[.int .i64 f, .float .f64 (dn a), .float .f64 (dn b)] w fun e w' => e = .returned (.tuple #[.float .f64 (valA f (dn a) (dn b)), .int .i64 (errA f (dn a) (dn b))]) ∧ Ext w w' := fun w => (rao_any f _ _ ta tb w).mono fun e w2 h => ⟨h.1, h.2 ▸ Ext.refl _⟩
  have ce : ∀ x, nn x → x < 18446744073709551616 → ∀ w, Calls Try.prog 35 #[.float .f64 x, .float .f64 x] w fun e w' => e = .returned (.bool true) ∧ Ext w w' := fun x nx lx w => (bits_any x x nx nx lx lx w).mono fun e w2 h => ⟨by rw [h.1, decide_eq_true rfl], h.2 ▸ Ext.refl _⟩
  have tv := valA_tidy f ta tb
  replace ce := ce (valA f (dn a) (dn b)) tv.1.nn tv.2.1
  clear ha hb hal hbl ta tb tv
  generalize valA f (dn a) (dn b) = va at *
  generalize errA f (dn a) (dn b) = er at *
  generalize dn a = x0 at *
  generalize dn b = y0 at *
  generalize lenV m n = lv at *
  generalize lenOk m n = lo at *
  generalize rlenV m n = rl at *
  have E := Ext.refl w
  go_enter Try.func8, Try.ntmps8
  go_wp2_with fail
  refine (cl _).mono ?_
  rintro e w24 ⟨rfl, x⟩
  have z1 := x.size
  replace E := E.trans x
  clear x
  go_wp2_with fail
  refine (cr _).mono ?_
  rintro e w37 ⟨rfl, x⟩
  have z2 := x.size
  replace E := E.trans x
  clear x
  go_wp2_with fail
  refine (ca _).mono ?_
  rintro e w61 ⟨rfl, x⟩
  have z3 := x.size
  replace E := E.trans x
  clear x
  go_wp2_with fail
  refine (cb _).mono ?_
  rintro e w66 ⟨rfl, x⟩
  have z4 := x.size
  replace E := E.trans x
  clear x
  go_wp2_with fail
  refine (co _).mono ?_
  rintro e w80 ⟨rfl, x⟩
  have z5 := x.size
  replace E := E.trans x
  clear x
  go_wp2_with fail
  refine (cs _).mono ?_
  rintro e w87 ⟨rfl, x⟩
  have z6 := x.size
  replace E := E.trans x
  clear x
  go_wp2_with fail
  refine (ce _).mono ?_
  rintro e w92 ⟨rfl, x⟩
  have z7 := x.size
  replace E := E.trans x
  clear x
  go_wp2_with fail
  refine (aawake_any _).mono ?_
  rintro e w99 ⟨rfl, x⟩
  have z8 := x.size
  replace E := E.trans x
  clear x
  go_wp2_with fail
  go_ret
  exact ⟨rfl, E⟩
end
theorem arithOne_walk (w : World) (f : Int) (_ : (Lit.int .i64 f).wf = true) (a : Nat) (ha : (Lit.float .f64 a).wf = true) (b : Nat) (hb : (Lit.float .f64 b).wf = true) (m : Int) (_ : (Lit.int .i64 m).wf = true) (n : Int) (_ : (Lit.int .i64 n).wf = true) :
    Calls Try.prog 8 #[.int .i64 f, .float .f64 a, .float .f64 b, .int .i64 m, .int .i64 n] w fun e w' => e = .returned (.bool true) ∧ Ext w w' := by
  have ha' : a < 18446744073709551616 := by simpa [Lit.wf] using ha
  have hb' : b < 18446744073709551616 := by simpa [Lit.wf] using hb
  by_cases h1 : m < 0
  · by_cases fa : fin a
    · by_cases fb : fin b
      · exact arithOne_az w f a b m n h1 fa fb ha' hb'
      · exact arithOne_ay w f a b m n h1 fa fb
    · exact arithOne_ax w f a b m n h1 fa
  by_cases h2 : n < 0
  · by_cases fa : fin a
    · by_cases fb : fin b
      · exact arithOne_bz w f a b m n h1 h2 fa fb ha' hb'
      · exact arithOne_by w f a b m n h1 h2 fa fb
    · exact arithOne_bx w f a b m n h1 h2 fa
  cases hl : lenOk m n
  · by_cases fa : fin a
    · by_cases fb : fin b
      · exact arithOne_dz w f a b m n h1 h2 hl fa fb ha' hb'
      · exact arithOne_dy w f a b m n h1 h2 hl fa fb
    · exact arithOne_dx w f a b m n h1 h2 hl fa
  · by_cases fa : fin a
    · by_cases fb : fin b
      · exact arithOne_cz w f a b m n h1 h2 hl fa fb ha' hb'
      · exact arithOne_cy w f a b m n h1 h2 hl fa fb
    · exact arithOne_cx w f a b m n h1 h2 hl fa
end Go.Proofs.Ytidnikndjhfgaaa
