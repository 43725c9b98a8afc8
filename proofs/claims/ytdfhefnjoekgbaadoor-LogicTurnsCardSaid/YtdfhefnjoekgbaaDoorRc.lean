/- logic.Truths. -/
import Derived.Test.YtdfhefnjoekgbaaDoorRb
import Derived.Test.YtdfhefnjoekgbaaDoorRa
namespace Go.Proofs.YtdfhefnjoekgbaaDoor
open Go.ChangeShapes Go.WideShapes Go.RowKit Bv Fl
set_option maxHeartbeats 1000000
set_option maxRecDepth 100000
/-- numbers as truths -/
def TruthsY (v0 : Value) (K : Nat) (l : List Nat) (w : World) (e : Ending) (w' : World) : Prop :=
  ∃ v, e = .returned (.tuple #[v, .bool true]) ∧ (∀ S, NumS w v0 K l S → BitS w' v (toB l) (fun i => S i ∨ New w.heap.size i)) ∧ Ext w w'
theorem truths_yes (v : Value) (K : Nat) (l : List Nat) (hf : leastL l ≤ 1) (w : World) (h : IsNum w v K l) : Calls Tryd.prog 22 #[v] w (TruthsY v K l w) := by
  have hF := h.flat
  have ci : ∀ w, IsNum w v K l → Calls Tryd.prog 31 #[v, .int .i64 1] w (IntoY v K 1 l w) := fun w h => into_yes v K l 1 (by rw [fits_leq (by omega)]; exact decide_eq_true hf) w h
  have cc := fun w h => nclass_any v K l w h
  have cp := fun v' w h => VecS.packed v' (toB l) w h
  have HN := h
  have N0 := NumS.all h
  clear h hf
  have E := Ext.refl w
  go_enter Tryd.func22, Tryd.ntmps22
  have TB1 : True := trivial
  have TB2 : True := trivial
  go_wp2_with (first | (clear TB1; refine boxsV (v := v) rfl rfl rfl hF ?_; intro B1 w1 bB1 cB1 XB1 LB1 RB1; have z1 := XB1.size; replace E := E.trans XB1; replace N0 := N0.ext XB1; clear RB1) | (clear TB2; refine allocsB rfl rfl ?_; intro B2 w2 bB2 cB2 XB2 LB2 RB2; have z2 := XB2.size; replace E := E.trans XB2; replace N0 := N0.ext XB2; replace LB1 := LB1.ext XB2) | (refine loadsV (B := B1) (by rfl) rfl rfl LB1 ?_))
  have E3 := E
  refine (ci _ N0.is).mono ?_
  rintro e w8 ⟨v4, rfl, hq, x⟩
  have N4 : Only w v K l w8 v4 1 _ := Only.into E3 hq
  have F4 := (N4.is HN).flat
  clear hq E3
  have z3 := x.size
  replace E := E.trans x
  replace N0 := N0.ext x
  replace LB1 := LB1.ext x
  replace LB2 := LB2.ext x
  replace RB2 := RB2.ext x
  clear x
  have TB4 : True := trivial
  have TG5 : True := trivial
  go_wp2_with (first | (clear TB4; refine allocsV rfl rfl ?_; intro B4 w4 bB4 cB4 XB4 LB4 RB4; have z4 := XB4.size; replace E := E.trans XB4; replace N0 := N0.ext XB4; replace LB1 := LB1.ext XB4; replace LB2 := LB2.ext XB4; replace RB2 := RB2.ext XB4; replace N4 := N4.ext XB4) | (clear TG5; have hRl := (RB4).lt (Nat.zero_lt_succ _); refine storesV (B := B4) rfl rfl rfl (v := v4) rfl RB4 F4 ?_; clear LB4; intro s5 G5 LB4 RQ; have z6 := G5.size; replace E := grown_ext E G5 (by omega); replace N0 := N0.grown G5 (by omega); replace LB1 := LB1.grown G5 (by omega); replace LB2 := LB2.grown G5 (by omega); replace RB2 := RB2.grown G5 (by omega); replace N4 := N4.grown G5 (by dsimp only [New]; omega) (by omega); clear RB4; have RB4 := RQ; clear RQ hRl; clear RB4) | (refine loadgV (B := B1) (by rfl) rfl rfl LB1 ?_))
  clear LB1
  refine (cc _ N0.is).mono ?_
  rintro e w15 ⟨rfl, x⟩
  have z7 := x.size
  replace E := E.trans x
  replace N0 := N0.ext x
  replace LB2 := LB2.ext x
  replace RB2 := RB2.ext x
  replace N4 := N4.ext x
  replace LB4 := LB4.ext x
  clear x
  go_wp2_with (refine loadsV (B := B4) (by rfl) rfl rfl LB4 ?_)
  clear LB4
  refine (cp v4 _ (N4.num HN).bits.is).mono ?_
  rintro e w20 ⟨p, rfl, hq, x⟩
  have BP : OnlyB w v K l w20 p (toB l) _ := fun S hS => hq _ (N4 S hS).bits
  have FP := (BP.bits HN).is.flat
  clear hq N4
  have z8 := x.size
  replace E := E.trans x
  replace N0 := N0.ext x
  replace LB2 := LB2.ext x
  replace RB2 := RB2.ext x
  clear x
  have TG9 : True := trivial
  go_wp2_with (clear TG9; have hRl := (RB2).lt (Nat.zero_lt_succ _); refine storesB (B := B2) rfl rfl rfl (v := p) rfl RB2 FP ?_; clear LB2; intro s9 G9 LB2 RQ; have z10 := G9.size; replace E := grown_ext E G9 (by omega); replace N0 := N0.grown G9 (by omega); replace BP := BP.grown G9 (by dsimp only [New]; omega) (by omega); clear RB2; have RB2 := RQ; clear RQ hRl; clear RB2)
  refine bodyPost_ret (results_lay2 rfl rfl rfl (ldB LB2)) rfl ?_
  exact ⟨p, rfl, BP.post (fun i hi hT => by omega), E⟩
theorem truths_no (v : Value) (K : Nat) (l : List Nat) (hf : 1 < leastL l) (w : World) (h : IsNum w v K l) : Calls Tryd.prog 22 #[v] w fun e w' => e = .returned (.tuple #[zeroBits, .bool false]) ∧ Ext w w' := by
  have hF := h.flat
  have ci : ∀ w, IsNum w v K l → Calls Tryd.prog 31 #[v, .int .i64 1] w fun e w' => e = .returned (.tuple #[zeroVec, .bool false]) ∧ Ext w w' := fun w h => into_no v K l 1 (by rw [show (1 : Int) = ((1 : Nat) : Int) from rfl, fits_leq (by omega)]; exact decide_eq_false (by omega)) w h
  have N0 := NumS.all h
  clear h hf
  obtain ⟨z, hz⟩ : ∃ z, zeroVec = z := ⟨_, rfl⟩
  have hZ := zeroVec_flat
  rw [hz] at ci hZ
  have HZ := Lib.hid hz
  clear hz
  have E := Ext.refl w
  go_enter Tryd.func22, Tryd.ntmps22
  have TB1 : True := trivial
  have TB2 : True := trivial
  go_wp2_with (first | (clear TB1; refine boxsV (v := v) rfl rfl rfl hF ?_; intro B1 w1 bB1 cB1 XB1 LB1 RB1; have z1 := XB1.size; replace E := E.trans XB1; replace N0 := N0.ext XB1; clear RB1) | (clear TB2; refine allocsB rfl rfl ?_; intro B2 w2 bB2 cB2 XB2 LB2 RB2; have z2 := XB2.size; replace E := E.trans XB2; replace N0 := N0.ext XB2; replace LB1 := LB1.ext XB2) | (refine loadsV (B := B1) (by rfl) rfl rfl LB1 ?_))
  clear LB1
  refine (ci _ N0.is).mono ?_
  rintro e w8 ⟨rfl, x⟩
  have z3 := x.size
  replace E := E.trans x
  replace N0 := N0.ext x
  replace LB2 := LB2.ext x
  replace RB2 := RB2.ext x
  clear x
  have TB4 : True := trivial
  have TG5 : True := trivial
  have TG7 : True := trivial
  go_wp2_with (first | (clear TB4; refine allocsV rfl rfl ?_; intro B4 w4 bB4 cB4 XB4 LB4 RB4; have z4 := XB4.size; replace E := E.trans XB4; replace N0 := N0.ext XB4; replace LB2 := LB2.ext XB4; replace RB2 := RB2.ext XB4; clear LB4) | (clear TG5; have hRl := (RB4).lt (Nat.zero_lt_succ _); refine storesV (B := B4) rfl rfl rfl (v := z) rfl RB4 hZ ?_; intro s5 G5 LB4 RQ; have z6 := G5.size; replace E := grown_ext E G5 (by omega); replace N0 := N0.grown G5 (by omega); replace LB2 := LB2.grown G5 (by omega); replace RB2 := RB2.grown G5 (by omega); clear RB4; have RB4 := RQ; clear RQ hRl; clear LB4 RB4) | (clear TG7; have hRl := (RB2).lt (Nat.zero_lt_succ _); refine storesB (B := B2) rfl rfl rfl (v := zeroBits) rfl RB2 zeroBits_flat ?_; clear LB2; intro s7 G7 LB2 RQ; have z8 := G7.size; replace E := grown_ext E G7 (by omega); replace N0 := N0.grown G7 (by omega); clear RB2; have RB2 := RQ; clear RQ hRl; clear RB2))
  refine bodyPost_ret (results_lay2 rfl rfl rfl (ldB LB2)) rfl ?_
  exact ⟨rfl, E⟩
theorem truths_other (v : Value) (d : VD) (ho : Other d) (w : World) (h : IsVec w v d) : Calls Tryd.prog 22 #[v] w fun e w' => e = .returned (.tuple #[zeroBits, .bool false]) ∧ Ext w w' := by
  have hF := h.flat
  have ci : ∀ w, IsVec w v d → Calls Tryd.prog 31 #[v, .int .i64 1] w fun e w' => e = .returned (.tuple #[zeroVec, .bool false]) ∧ Ext w w' := fun w h => ointo_no v d 1 w h ho (by rcases ho with e | e <;> rw [e] <;> decide)
  have N0 := VecS.all h
  clear h ho
  obtain ⟨z, hz⟩ : ∃ z, zeroVec = z := ⟨_, rfl⟩
  have hZ := zeroVec_flat
  rw [hz] at ci hZ
  have HZ := Lib.hid hz
  clear hz
  have E := Ext.refl w
  go_enter Tryd.func22, Tryd.ntmps22
  have TB1 : True := trivial
  have TB2 : True := trivial
  go_wp2_with (first | (clear TB1; refine boxsV (v := v) rfl rfl rfl hF ?_; intro B1 w1 bB1 cB1 XB1 LB1 RB1; have z1 := XB1.size; replace E := E.trans XB1; replace N0 := N0.ext XB1; clear RB1) | (clear TB2; refine allocsB rfl rfl ?_; intro B2 w2 bB2 cB2 XB2 LB2 RB2; have z2 := XB2.size; replace E := E.trans XB2; replace N0 := N0.ext XB2; replace LB1 := LB1.ext XB2) | (refine loadsV (B := B1) (by rfl) rfl rfl LB1 ?_))
  clear LB1
  refine (ci _ N0.is).mono ?_
  rintro e w8 ⟨rfl, x⟩
  have z3 := x.size
  replace E := E.trans x
  replace N0 := N0.ext x
  replace LB2 := LB2.ext x
  replace RB2 := RB2.ext x
  clear x
  have TB4 : True := trivial
  have TG5 : True := trivial
  have TG7 : True := trivial
  go_wp2_with (first | (clear TB4; refine allocsV rfl rfl ?_; intro B4 w4 bB4 cB4 XB4 LB4 RB4; have z4 := XB4.size; replace E := E.trans XB4; replace N0 := N0.ext XB4; replace LB2 := LB2.ext XB4; replace RB2 := RB2.ext XB4; clear LB4) | (clear TG5; have hRl := (RB4).lt (Nat.zero_lt_succ _); refine storesV (B := B4) rfl rfl rfl (v := z) rfl RB4 hZ ?_; intro s5 G5 LB4 RQ; have z6 := G5.size; replace E := grown_ext E G5 (by omega); replace N0 := N0.grown G5 (by omega); replace LB2 := LB2.grown G5 (by omega); replace RB2 := RB2.grown G5 (by omega); clear RB4; have RB4 := RQ; clear RQ hRl; clear LB4 RB4) | (clear TG7; have hRl := (RB2).lt (Nat.zero_lt_succ _); refine storesB (B := B2) rfl rfl rfl (v := zeroBits) rfl RB2 zeroBits_flat ?_; clear LB2; intro s7 G7 LB2 RQ; have z8 := G7.size; replace E := grown_ext E G7 (by omega); replace N0 := N0.grown G7 (by omega); clear RB2; have RB2 := RQ; clear RQ hRl; clear RB2))
  refine bodyPost_ret (results_lay2 rfl rfl rfl (ldB LB2)) rfl ?_
  exact ⟨rfl, E⟩
theorem zinto_no (v : Value) (hv : zeroVec = v) (K : Int) (hK : ((0 : Int) == K) = false) (w : World) : Calls Tryd.prog 31 #[v, .int .i64 K] w fun e w' => e = .returned (.tuple #[v, .bool false]) ∧ Ext w w' := by
  have hF : Flat 8 v := hv ▸ zeroVec_flat
  have ck : ∀ w, Calls Tryd.prog 36 #[v] w fun e w' => e = .returned (.int .i64 0) ∧ Ext w w' := fun w => kind_zero v hv w
  have cc : ∀ w, Calls Tryd.prog 32 #[v] w fun e w' => e = .returned (.int .i64 0) ∧ Ext w w' := fun w => by subst hv; exact vclass_any zeroVec VD.none w (IsVec.zero w)
  have HV := Lib.hid hv
  clear hv
  have E := Ext.refl w
  go_enter Tryd.func31, Tryd.ntmps31
  have TB2 : True := trivial
  have TB4 : True := trivial
  go_wp2_with (first | (clear TB2; refine boxsV (v := v) rfl rfl rfl hF ?_; intro B2 w2 bB2 cB2 XB2 LB2 RB2; have z1 := XB2.size; replace E := E.trans XB2; clear RB2) | (clear TB4; refine allocsV rfl rfl ?_; intro B4 w4 bB4 cB4 XB4 LB4 RB4; have z2 := XB4.size; replace E := E.trans XB4; replace LB2 := LB2.ext XB4) | (refine loadsV (B := B2) (by rfl) rfl rfl LB2 ?_))
  refine (ck _).mono ?_
  rintro e w9 ⟨rfl, x⟩
  have z3 := x.size
  replace E := E.trans x
  replace LB2 := LB2.ext x
  replace LB4 := LB4.ext x
  replace RB4 := RB4.ext x
  clear x
  go_wp2_with (refine loadsV (B := B2) (by rfl) rfl rfl LB2 ?_)
  refine (cc _).mono ?_
  rintro e w14 ⟨rfl, x⟩
  have z4 := x.size
  replace E := E.trans x
  replace LB2 := LB2.ext x
  replace LB4 := LB4.ext x
  replace RB4 := RB4.ext x
  clear x
  go_wp2_with (refine loadgV (B := B2) (by rfl) rfl rfl LB2 ?_)
  clear LB2
  refine (ck _).mono ?_
  rintro e w18 ⟨rfl, x⟩
  have z5 := x.size
  replace E := E.trans x
  replace LB4 := LB4.ext x
  replace RB4 := RB4.ext x
  clear x
  have TG6 : True := trivial
  go_wp2_with (clear TG6; have hRl := (RB4).lt (Nat.zero_lt_succ _); refine storesV (B := B4) rfl rfl rfl (v := zeroVec) rfl RB4 zeroVec_flat ?_; clear LB4; intro s6 G6 LB4 RQ; have z7 := G6.size; replace E := grown_ext E G6 (by omega); clear RB4; have RB4 := RQ; clear RQ hRl; clear RB4)
  refine bodyPost_ret (results_lay2 rfl rfl rfl (ldV LB4)) rfl ?_
  exact ⟨by rw [← HV.out]; rfl, E⟩
theorem zinto_yes (v : Value) (hv : zeroVec = v) (w : World) : Calls Tryd.prog 31 #[v, .int .i64 0] w fun e w' => e = .returned (.tuple #[v, .bool true]) ∧ Ext w w' := by
  have hF : Flat 8 v := hv ▸ zeroVec_flat
  have ck : ∀ w, Calls Tryd.prog 36 #[v] w fun e w' => e = .returned (.int .i64 0) ∧ Ext w w' := fun w => kind_zero v hv w
  have cc : ∀ w, Calls Tryd.prog 32 #[v] w fun e w' => e = .returned (.int .i64 0) ∧ Ext w w' := fun w => by subst hv; exact vclass_any zeroVec VD.none w (IsVec.zero w)
  have HV := Lib.hid hv
  clear hv
  have E := Ext.refl w
  go_enter Tryd.func31, Tryd.ntmps31
  have TB2 : True := trivial
  have TB4 : True := trivial
  go_wp2_with (first | (clear TB2; refine boxsV (v := v) rfl rfl rfl hF ?_; intro B2 w2 bB2 cB2 XB2 LB2 RB2; have z1 := XB2.size; replace E := E.trans XB2; clear RB2) | (clear TB4; refine allocsV rfl rfl ?_; intro B4 w4 bB4 cB4 XB4 LB4 RB4; have z2 := XB4.size; replace E := E.trans XB4; replace LB2 := LB2.ext XB4) | (refine loadsV (B := B2) (by rfl) rfl rfl LB2 ?_))
  refine (ck _).mono ?_
  rintro e w9 ⟨rfl, x⟩
  have z3 := x.size
  replace E := E.trans x
  replace LB2 := LB2.ext x
  replace LB4 := LB4.ext x
  replace RB4 := RB4.ext x
  clear x
  have TG4 : True := trivial
  go_wp2_with (first | (refine loadsV (B := B2) (by rfl) rfl rfl LB2 ?_) | (clear TG4; have hRl := (RB4).lt (Nat.zero_lt_succ _); refine storesV (B := B4) rfl rfl rfl (v := v) rfl RB4 hF ?_; clear LB4; intro s4 G4 LB4 RQ; have z5 := G4.size; replace E := grown_ext E G4 (by omega); replace LB2 := LB2.grown G4 (by omega); clear RB4; have RB4 := RQ; clear RQ hRl; clear RB4))
  refine bodyPost_ret (results_lay2 rfl rfl rfl (ldV LB4)) rfl ?_
  exact ⟨rfl, E⟩
theorem truths_none (v : Value) (hv : zeroVec = v) (w : World) : Calls Tryd.prog 22 #[v] w fun e w' => e = .returned (.tuple #[zeroBits, .bool false]) ∧ Ext w w' := by
  have hF : Flat 8 v := hv ▸ zeroVec_flat
  have ci : ∀ w, Calls Tryd.prog 31 #[v, .int .i64 1] w fun e w' => e = .returned (.tuple #[v, .bool false]) ∧ Ext w w' := fun w => zinto_no v hv 1 rfl w
  clear hv
  have E := Ext.refl w
  go_enter Tryd.func22, Tryd.ntmps22
  have TB1 : True := trivial
  have TB2 : True := trivial
  go_wp2_with (first | (clear TB1; refine boxsV (v := v) rfl rfl rfl hF ?_; intro B1 w1 bB1 cB1 XB1 LB1 RB1; have z1 := XB1.size; replace E := E.trans XB1; clear RB1) | (clear TB2; refine allocsB rfl rfl ?_; intro B2 w2 bB2 cB2 XB2 LB2 RB2; have z2 := XB2.size; replace E := E.trans XB2; replace LB1 := LB1.ext XB2) | (refine loadsV (B := B1) (by rfl) rfl rfl LB1 ?_))
  clear LB1
  refine (ci _).mono ?_
  rintro e w8 ⟨rfl, x⟩
  have z3 := x.size
  replace E := E.trans x
  replace LB2 := LB2.ext x
  replace RB2 := RB2.ext x
  clear x
  have TB4 : True := trivial
  have TG5 : True := trivial
  have TG7 : True := trivial
  go_wp2_with (first | (clear TB4; refine allocsV rfl rfl ?_; intro B4 w4 bB4 cB4 XB4 LB4 RB4; have z4 := XB4.size; replace E := E.trans XB4; replace LB2 := LB2.ext XB4; replace RB2 := RB2.ext XB4; clear LB4) | (clear TG5; have hRl := (RB4).lt (Nat.zero_lt_succ _); refine storesV (B := B4) rfl rfl rfl (v := v) rfl RB4 hF ?_; intro s5 G5 LB4 RQ; have z6 := G5.size; replace E := grown_ext E G5 (by omega); replace LB2 := LB2.grown G5 (by omega); replace RB2 := RB2.grown G5 (by omega); clear RB4; have RB4 := RQ; clear RQ hRl; clear LB4 RB4) | (clear TG7; have hRl := (RB2).lt (Nat.zero_lt_succ _); refine storesB (B := B2) rfl rfl rfl (v := zeroBits) rfl RB2 zeroBits_flat ?_; clear LB2; intro s7 G7 LB2 RQ; have z8 := G7.size; replace E := grown_ext E G7 (by omega); clear RB2; have RB2 := RQ; clear RQ hRl; clear RB2))
  refine bodyPost_ret (results_lay2 rfl rfl rfl (ldB LB2)) rfl ?_
  exact ⟨rfl, E⟩
end Go.Proofs.YtdfhefnjoekgbaaDoor
