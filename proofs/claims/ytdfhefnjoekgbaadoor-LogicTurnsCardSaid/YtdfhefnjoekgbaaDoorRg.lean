/- rebuslaw12.kept, awake. -/
import Derived.Test.YtdfhefnjoekgbaaDoorRf
import Derived.Test.YtdfhefnjoekgbaaDoorQm
import Derived.Test.YtdfhefnjoekgbaaDoorOs
namespace Go.Proofs.YtdfhefnjoekgbaaDoor
open Go.ChangeShapes Go.WideShapes Go.RowKit Bv Fl
set_option maxHeartbeats 1000000
set_option maxRecDepth 100000
def KeptY (l : List Nat) (w : World) (e : Ending) (w' : World) : Prop := ∃ v k, e = .returned (.tuple #[v, .bool true]) ∧ NumS w' v k l (New w.heap.size) ∧ Ext w w'
section
variable (A : Option Addr) (l : List Nat) (n : Nat) (hn : n = l.length) (c : Nat) (w : World) (hl : n ≤ 1048576) (K : Int)
include hn hl
theorem kept_yes (hw : ∀ x ∈ l, x < 18446744073709551616) (hf : allF l = true) (hs : Sl w 1 A n (f64s l)) : Calls Tryd.prog 14 #[.slice A n c, .int .i64 K] w (KeptY (dnL l) w) := by
  have cf := fun w hs => floats_yes A l n hn hw hf c w hl hs
  have HS := Lib.hid hs
  clear hs hn hf hl hw
  generalize dnL l = l' at *
  have E := Ext.refl w
  cases hfit : fitsL l' K
  · have ci := fun v w h => into_no v 4 l' K hfit w h
    clear hfit
    go_enter Tryd.func14, Tryd.ntmps14
    have TB4 : True := trivial
    go_wp2_with (clear TB4; refine allocsV rfl rfl ?_; intro B4 w4 bB4 cB4 XB4 LB4 RB4; have z1 := XB4.size; replace E := E.trans XB4)
    refine (cf _ (HS.out.ext E)).mono ?_
    rintro e w12 ⟨v, rfl, hq, x⟩
    have NV := hq.now
    have Fv := NV.is.flat
    clear hq
    have z2 := x.size
    replace E := E.trans x
    replace LB4 := LB4.ext x
    replace RB4 := RB4.ext x
    clear x
    have TB6 : True := trivial
    have TG4 : True := trivial
    go_wp2_with (first | (clear TB6; refine allocsV rfl rfl ?_; intro B6 w6 bB6 cB6 XB6 LB6 RB6; have z3 := XB6.size; replace E := E.trans XB6; replace LB4 := LB4.ext XB6; replace RB4 := RB4.ext XB6; replace NV := NV.ext XB6) | (clear TG4; have hRl := (RB6).lt (Nat.zero_lt_succ _); refine storesV (B := B6) rfl rfl rfl (v := v) rfl RB6 Fv ?_; clear LB6; intro s4 G4 LB6 RQ; have z5 := G4.size; replace E := grown_ext E G4 (by omega); replace LB4 := LB4.grown G4 (by omega); replace RB4 := RB4.grown G4 (by omega); replace NV := NV.grown G4 (by dsimp only [New]; omega); clear RB6; have RB6 := RQ; clear RQ hRl; clear RB6) | (refine loadsV (B := B6) (by rfl) rfl rfl LB6 ?_))
    refine (ci v _ NV.is).mono ?_
    rintro e w18 ⟨rfl, x⟩
    have z6 := x.size
    replace E := E.trans x
    replace LB4 := LB4.ext x
    replace RB4 := RB4.ext x
    replace NV := NV.ext x
    replace LB6 := LB6.ext x
    clear x
    have TB8 : True := trivial
    have TG8 : True := trivial
    have TG10 : True := trivial
    go_wp2_with (first | (clear TB8; refine allocsV rfl rfl ?_; intro B8 w8 bB8 cB8 XB8 LB8 RB8; have z7 := XB8.size; replace E := E.trans XB8; replace LB4 := LB4.ext XB8; replace RB4 := RB4.ext XB8; replace NV := NV.ext XB8; replace LB6 := LB6.ext XB8; clear LB8) | (clear TG8; have hRl := (RB8).lt (Nat.zero_lt_succ _); refine storesV (B := B8) rfl rfl rfl (v := zeroVec) rfl RB8 zeroVec_flat ?_; intro s8 G8 LB8 RQ; have z9 := G8.size; replace E := grown_ext E G8 (by omega); replace LB4 := LB4.grown G8 (by omega); replace RB4 := RB4.grown G8 (by omega); replace NV := NV.grown G8 (by dsimp only [New]; omega); replace LB6 := LB6.grown G8 (by omega); clear RB8; have RB8 := RQ; clear RQ hRl; clear LB8 RB8) | (refine loadsV (B := B6) (by rfl) rfl rfl LB6 ?_) | (clear TG10; have hRl := (RB4).lt (Nat.zero_lt_succ _); refine storesV (B := B4) rfl rfl rfl (v := v) rfl RB4 Fv ?_; clear LB4; intro s10 G10 LB4 RQ; have z11 := G10.size; replace E := grown_ext E G10 (by omega); replace NV := NV.grown G10 (by dsimp only [New]; omega); replace LB6 := LB6.grown G10 (by omega); clear RB4; have RB4 := RQ; clear RQ hRl; clear RB4))
    refine bodyPost_ret (results_lay2 rfl rfl rfl (ldV LB4)) rfl ?_
    exact ⟨v, _, rfl, NV.mono (fun i hi h => by dsimp only [New] at *; omega), E⟩
  · obtain ⟨k, rfl⟩ : ∃ k : Nat, K = k := by
      have := of_decide_eq_true hfit
      have := leastL_ge l'
      exact ⟨K.toNat, by omega⟩
    have ci := fun v w h => into_yes v 4 l' k hfit w h
    clear hfit
    go_enter Tryd.func14, Tryd.ntmps14
    have TB4 : True := trivial
    go_wp2_with (clear TB4; refine allocsV rfl rfl ?_; intro B4 w4 bB4 cB4 XB4 LB4 RB4; have z1 := XB4.size; replace E := E.trans XB4)
    refine (cf _ (HS.out.ext E)).mono ?_
    rintro e w12 ⟨v, rfl, hq, x⟩
    have NV := hq.now
    have Fv := NV.is.flat
    clear hq
    have z2 := x.size
    replace E := E.trans x
    replace LB4 := LB4.ext x
    replace RB4 := RB4.ext x
    clear x
    have TB6 : True := trivial
    have TG4 : True := trivial
    go_wp2_with (first | (clear TB6; refine allocsV rfl rfl ?_; intro B6 w6 bB6 cB6 XB6 LB6 RB6; have z3 := XB6.size; replace E := E.trans XB6; replace LB4 := LB4.ext XB6; replace RB4 := RB4.ext XB6; replace NV := NV.ext XB6) | (clear TG4; have hRl := (RB6).lt (Nat.zero_lt_succ _); refine storesV (B := B6) rfl rfl rfl (v := v) rfl RB6 Fv ?_; clear LB6; intro s4 G4 LB6 RQ; have z5 := G4.size; replace E := grown_ext E G4 (by omega); replace LB4 := LB4.grown G4 (by omega); replace RB4 := RB4.grown G4 (by omega); replace NV := NV.grown G4 (by dsimp only [New]; omega); clear RB6; have RB6 := RQ; clear RQ hRl) | (refine loadsV (B := B6) (by rfl) rfl rfl LB6 ?_))
    refine (ci v _ NV.is).mono ?_
    rintro e w18 ⟨v2, rfl, hq, x⟩
    have NV2 := (hq _ NV).now
    have Fv2 := NV2.is.flat
    clear hq
    have z6 := x.size
    replace E := E.trans x
    replace LB4 := LB4.ext x
    replace RB4 := RB4.ext x
    replace NV := NV.ext x
    replace LB6 := LB6.ext x
    replace RB6 := RB6.ext x
    clear x
    have TB8 : True := trivial
    have TG8 : True := trivial
    have TG10 : True := trivial
    have TG12 : True := trivial
    go_wp2_with (first | (clear TB8; refine allocsV rfl rfl ?_; intro B8 w8 bB8 cB8 XB8 LB8 RB8; have z7 := XB8.size; replace E := E.trans XB8; replace LB4 := LB4.ext XB8; replace RB4 := RB4.ext XB8; replace NV := NV.ext XB8; replace LB6 := LB6.ext XB8; replace RB6 := RB6.ext XB8; replace NV2 := NV2.ext XB8) | (clear TG8; have hRl := (RB8).lt (Nat.zero_lt_succ _); refine storesV (B := B8) rfl rfl rfl (v := v2) rfl RB8 Fv2 ?_; clear LB8; intro s8 G8 LB8 RQ; have z9 := G8.size; replace E := grown_ext E G8 (by omega); replace LB4 := LB4.grown G8 (by omega); replace RB4 := RB4.grown G8 (by omega); replace NV := NV.grown G8 (by dsimp only [New]; omega); replace LB6 := LB6.grown G8 (by omega); replace RB6 := RB6.grown G8 (by omega); replace NV2 := NV2.grown G8 (by dsimp only [New]; omega); clear RB8; have RB8 := RQ; clear RQ hRl; clear RB8) | (refine loadsV (B := B8) (by rfl) rfl rfl LB8 ?_) | (clear TG10; have hRl := (RB6).lt (Nat.zero_lt_succ _); refine storesV (B := B6) rfl rfl rfl (v := v2) rfl RB6 Fv2 ?_; clear LB6; intro s10 G10 LB6 RQ; have z11 := G10.size; replace E := grown_ext E G10 (by omega); replace LB4 := LB4.grown G10 (by omega); replace RB4 := RB4.grown G10 (by omega); replace NV := NV.grown G10 (by dsimp only [New]; omega); replace NV2 := NV2.grown G10 (by dsimp only [New]; omega); replace LB8 := LB8.grown G10 (by omega); clear RB6; have RB6 := RQ; clear RQ hRl; clear RB6) | (refine loadsV (B := B6) (by rfl) rfl rfl LB6 ?_) | (clear TG12; have hRl := (RB4).lt (Nat.zero_lt_succ _); refine storesV (B := B4) rfl rfl rfl (v := v2) rfl RB4 Fv2 ?_; clear LB4; intro s12 G12 LB4 RQ; have z13 := G12.size; replace E := grown_ext E G12 (by omega); replace NV := NV.grown G12 (by dsimp only [New]; omega); replace LB6 := LB6.grown G12 (by omega); replace NV2 := NV2.grown G12 (by dsimp only [New]; omega); replace LB8 := LB8.grown G12 (by omega); clear RB4; have RB4 := RQ; clear RQ hRl; clear RB4))
    refine bodyPost_ret (results_lay2 rfl rfl rfl (ldV LB4)) rfl ?_
    exact ⟨v2, _, rfl, NV2.mono (fun i hi h => by dsimp only [New] at *; omega), E⟩
theorem kept_no (hf : allF l = false) (hs : Sl w 1 A n (f64s l)) : Calls Tryd.prog 14 #[.slice A n c, .int .i64 K] w fun e w' => ∃ v, e = .returned (.tuple #[v, .bool false]) ∧ Flat 8 v ∧ Ext w w' := by
  have cf := fun w hs => floats_no A l n hn hf c w hl hs
  have HS := Lib.hid hs
  clear hs hn hf hl
  obtain ⟨z, hz⟩ : ∃ z, zeroVec = z := ⟨_, rfl⟩
  have hZ := zeroVec_flat
  rw [hz] at hZ cf
  have E := Ext.refl w
  by_cases hK : K = 0
  · subst hK
    have ci := fun w => zinto_yes z hz w
    clear hz
    go_enter Tryd.func14, Tryd.ntmps14
    have TB4 : True := trivial
    go_wp2_with (clear TB4; refine allocsV rfl rfl ?_; intro B4 w4 bB4 cB4 XB4 LB4 RB4; have z1 := XB4.size; replace E := E.trans XB4)
    refine (cf _ (HS.out.ext E)).mono ?_
    rintro e w12 ⟨rfl, x⟩
    have z2 := x.size
    replace E := E.trans x
    replace LB4 := LB4.ext x
    replace RB4 := RB4.ext x
    clear x
    have TB6 : True := trivial
    have TG4 : True := trivial
    go_wp2_with (first | (clear TB6; refine allocsV rfl rfl ?_; intro B6 w6 bB6 cB6 XB6 LB6 RB6; have z3 := XB6.size; replace E := E.trans XB6; replace LB4 := LB4.ext XB6; replace RB4 := RB4.ext XB6) | (clear TG4; have hRl := (RB6).lt (Nat.zero_lt_succ _); refine storesV (B := B6) rfl rfl rfl (v := z) rfl RB6 hZ ?_; clear LB6; intro s4 G4 LB6 RQ; have z5 := G4.size; replace E := grown_ext E G4 (by omega); replace LB4 := LB4.grown G4 (by omega); replace RB4 := RB4.grown G4 (by omega); clear RB6; have RB6 := RQ; clear RQ hRl) | (refine loadsV (B := B6) (by rfl) rfl rfl LB6 ?_))
    refine (ci _).mono ?_
    rintro e w18 ⟨rfl, x⟩
    have z6 := x.size
    replace E := E.trans x
    replace LB4 := LB4.ext x
    replace RB4 := RB4.ext x
    replace LB6 := LB6.ext x
    replace RB6 := RB6.ext x
    clear x
    have TB8 : True := trivial
    have TG8 : True := trivial
    have TG10 : True := trivial
    have TG12 : True := trivial
    go_wp2_with (first | (clear TB8; refine allocsV rfl rfl ?_; intro B8 w8 bB8 cB8 XB8 LB8 RB8; have z7 := XB8.size; replace E := E.trans XB8; replace LB4 := LB4.ext XB8; replace RB4 := RB4.ext XB8; replace LB6 := LB6.ext XB8; replace RB6 := RB6.ext XB8) | (clear TG8; have hRl := (RB8).lt (Nat.zero_lt_succ _); refine storesV (B := B8) rfl rfl rfl (v := z) rfl RB8 hZ ?_; clear LB8; intro s8 G8 LB8 RQ; have z9 := G8.size; replace E := grown_ext E G8 (by omega); replace LB4 := LB4.grown G8 (by omega); replace RB4 := RB4.grown G8 (by omega); replace LB6 := LB6.grown G8 (by omega); replace RB6 := RB6.grown G8 (by omega); clear RB8; have RB8 := RQ; clear RQ hRl; clear RB8) | (refine loadsV (B := B8) (by rfl) rfl rfl LB8 ?_) | (clear TG10; have hRl := (RB6).lt (Nat.zero_lt_succ _); refine storesV (B := B6) rfl rfl rfl (v := z) rfl RB6 hZ ?_; clear LB6; intro s10 G10 LB6 RQ; have z11 := G10.size; replace E := grown_ext E G10 (by omega); replace LB4 := LB4.grown G10 (by omega); replace RB4 := RB4.grown G10 (by omega); replace LB8 := LB8.grown G10 (by omega); clear RB6; have RB6 := RQ; clear RQ hRl; clear RB6) | (refine loadsV (B := B6) (by rfl) rfl rfl LB6 ?_) | (clear TG12; have hRl := (RB4).lt (Nat.zero_lt_succ _); refine storesV (B := B4) rfl rfl rfl (v := z) rfl RB4 hZ ?_; clear LB4; intro s12 G12 LB4 RQ; have z13 := G12.size; replace E := grown_ext E G12 (by omega); replace LB6 := LB6.grown G12 (by omega); replace LB8 := LB8.grown G12 (by omega); clear RB4; have RB4 := RQ; clear RQ hRl; clear RB4))
    refine bodyPost_ret (results_lay2 rfl rfl rfl (ldV LB4)) rfl ?_
    exact ⟨_, rfl, hZ, E⟩
  · have ci := fun w => zinto_no z hz K (by simpa using fun h => hK h.symm) w
    clear hz
    go_enter Tryd.func14, Tryd.ntmps14
    have TB4 : True := trivial
    go_wp2_with (clear TB4; refine allocsV rfl rfl ?_; intro B4 w4 bB4 cB4 XB4 LB4 RB4; have z1 := XB4.size; replace E := E.trans XB4)
    refine (cf _ (HS.out.ext E)).mono ?_
    rintro e w12 ⟨rfl, x⟩
    have z2 := x.size
    replace E := E.trans x
    replace LB4 := LB4.ext x
    replace RB4 := RB4.ext x
    clear x
    have TB6 : True := trivial
    have TG4 : True := trivial
    go_wp2_with (first | (clear TB6; refine allocsV rfl rfl ?_; intro B6 w6 bB6 cB6 XB6 LB6 RB6; have z3 := XB6.size; replace E := E.trans XB6; replace LB4 := LB4.ext XB6; replace RB4 := RB4.ext XB6) | (clear TG4; have hRl := (RB6).lt (Nat.zero_lt_succ _); refine storesV (B := B6) rfl rfl rfl (v := z) rfl RB6 hZ ?_; clear LB6; intro s4 G4 LB6 RQ; have z5 := G4.size; replace E := grown_ext E G4 (by omega); replace LB4 := LB4.grown G4 (by omega); replace RB4 := RB4.grown G4 (by omega); clear RB6; have RB6 := RQ; clear RQ hRl; clear RB6) | (refine loadsV (B := B6) (by rfl) rfl rfl LB6 ?_))
    refine (ci _).mono ?_
    rintro e w18 ⟨rfl, x⟩
    have z6 := x.size
    replace E := E.trans x
    replace LB4 := LB4.ext x
    replace RB4 := RB4.ext x
    replace LB6 := LB6.ext x
    clear x
    have TB8 : True := trivial
    have TG8 : True := trivial
    have TG10 : True := trivial
    go_wp2_with (first | (clear TB8; refine allocsV rfl rfl ?_; intro B8 w8 bB8 cB8 XB8 LB8 RB8; have z7 := XB8.size; replace E := E.trans XB8; replace LB4 := LB4.ext XB8; replace RB4 := RB4.ext XB8; replace LB6 := LB6.ext XB8; clear LB8) | (clear TG8; have hRl := (RB8).lt (Nat.zero_lt_succ _); refine storesV (B := B8) rfl rfl rfl (v := z) rfl RB8 hZ ?_; intro s8 G8 LB8 RQ; have z9 := G8.size; replace E := grown_ext E G8 (by omega); replace LB4 := LB4.grown G8 (by omega); replace RB4 := RB4.grown G8 (by omega); replace LB6 := LB6.grown G8 (by omega); clear RB8; have RB8 := RQ; clear RQ hRl; clear LB8 RB8) | (refine loadsV (B := B6) (by rfl) rfl rfl LB6 ?_) | (clear TG10; have hRl := (RB4).lt (Nat.zero_lt_succ _); refine storesV (B := B4) rfl rfl rfl (v := z) rfl RB4 hZ ?_; clear LB4; intro s10 G10 LB4 RQ; have z11 := G10.size; replace E := grown_ext E G10 (by omega); replace LB6 := LB6.grown G10 (by omega); clear RB4; have RB4 := RQ; clear RQ hRl; clear RB4))
    refine bodyPost_ret (results_lay2 rfl rfl rfl (ldV LB4)) rfl ?_
    exact ⟨_, rfl, hZ, E⟩
end
theorem bools_same (A A' : Option Addr) (l : List Bool) (n n' c c' : Nat) (hn : n = l.length) (hn' : n' = l.length) (w : World) (hl : n ≤ 1048576) (hs : Sl w 1 A n (bools l)) (hs' : Sl w 1 A' n' (bools l)) : Calls Tryd.prog 15 #[.slice A n c, .slice A' n' c'] w fun e w' => e = .returned (.bool true) ∧ Ext w w' := by
  obtain rfl : n = n' := hn.trans hn'.symm
  refine (boolsq_any A A' l l n n c c' hn hn w hl hs hs').mono ?_
  rintro e w' ⟨rfl, h⟩
  exact ⟨by simp, Ext.of_drewN h⟩
theorem unpack_sl (v : Value) (l : List Bool) (n : Nat) (hn : n = l.length) (w : World) (h : IsB w v l) : Calls Tryd.prog 16 #[v] w fun e w' => ∃ B cb, e = .returned (.slice B n cb) ∧ Sl w' 1 B n (bools l) ∧ Ext w w' := by
  subst hn
  refine (unpack_any v l w h).mono ?_
  rintro e w' ⟨v', rfl, ho, hx⟩
  obtain ⟨B, cb, rfl, -, -⟩ := own_form ho
  exact ⟨B, cb, rfl, Sl.own ho, hx⟩
attribute [local go_sem ↓] Go.wp_at_zero Go.wp_at_succ
theorem lawake_any (w : World) : Calls Tryd.prog 4 #[] w fun e w' => e = .returned (.bool true) ∧ Ext w w' := by
  have ka : ∀ A w, Sl w 1 A 3 (f64s [4607182418800017408, 4607182418800017408, 0]) → Calls Tryd.prog 14 #[.slice A 3 3, .int .i64 1] w (KeptY (dnL [4607182418800017408, 4607182418800017408, 0]) w) := fun A w hs => kept_yes A [4607182418800017408, 4607182418800017408, 0] 3 rfl 3 w (by omega) 1 (by intro x hx; simp at hx; omega) (by kernel_rfl) hs
  have kb : ∀ A w, Sl w 1 A 1 (f64s [4607182418800017408]) → Calls Tryd.prog 14 #[.slice A 1 1, .int .i64 4] w (KeptY (dnL [4607182418800017408]) w) := fun A w hs => kept_yes A [4607182418800017408] 1 rfl 1 w (by omega) 4 (by intro x hx; simp at hx; omega) (by kernel_rfl) hs
  have ap : ∀ v u K J w, IsNum w v K (dnL [4607182418800017408, 4607182418800017408, 0]) → IsNum w u J (dnL [4607182418800017408]) → Calls Tryd.prog 6 #[.int .i64 21, v, u] w (AppU 0 (VD.bits [true, true, false]) w) := fun v u K J w hv hu => by
    have h := apply_u 21 v u K J _ _ (by decide) (by decide) w hv hu
    rwa [show appE 21 (dnL [4607182418800017408, 4607182418800017408, 0]) (dnL [4607182418800017408]) = 0 by kernel_rfl, show appD 21 (dnL [4607182418800017408, 4607182418800017408, 0]) (dnL [4607182418800017408]) = VD.bits [true, true, false] by kernel_rfl] at h
  generalize dnL [4607182418800017408, 4607182418800017408, 0] = L1 at *
  generalize dnL [4607182418800017408] = L2 at *
  have E := Ext.refl w
  go_enter Tryd.func4, Tryd.ntmps4
  go_wp2_with fail
  refine (ka _ _ (Sl.lit _ #[.float .f64 4607182418800017408, .float .f64 4607182418800017408, .float .f64 0] _)).mono ?_
  rintro e w11 ⟨a, ka', rfl, hq, x⟩
  have NA := hq.now
  have Fa := NA.is.flat
  clear hq
  replace x := ((Ext.refl _).alloc _).trans x
  have z1 := x.size
  replace E := E.trans x
  clear x
  have TB1 : True := trivial
  have TG3 : True := trivial
  go_wp2_with (first | (clear TB1; refine allocsV rfl rfl ?_; intro B1 w1 bB1 cB1 XB1 LB1 RB1; have z2 := XB1.size; replace E := E.trans XB1; replace NA := NA.ext XB1) | (clear TG3; have hRl := (RB1).lt (Nat.zero_lt_succ _); refine storesV (B := B1) rfl rfl rfl (v := a) rfl RB1 Fa ?_; clear LB1; intro s3 G3 LB1 RQ; have z4 := G3.size; replace E := grown_ext E G3 (by omega); replace NA := NA.grown G3 (by dsimp only [New]; omega); clear RB1; have RB1 := RQ; clear RQ hRl; clear RB1))
  refine (kb _ _ (Sl.lit _ #[.float .f64 4607182418800017408] _)).mono ?_
  rintro e w16 ⟨b, kb', rfl, hq, x⟩
  have NB := hq.now
  have Fb := NB.is.flat
  clear hq
  replace x := ((Ext.refl _).alloc _).trans x
  have z5 := x.size
  replace E := E.trans x
  replace NA := NA.ext x
  replace LB1 := LB1.ext x
  clear x
  have TB3 : True := trivial
  have TG7 : True := trivial
  go_wp2_with (first | (clear TB3; refine allocsV rfl rfl ?_; intro B3 w3 bB3 cB3 XB3 LB3 RB3; have z6 := XB3.size; replace E := E.trans XB3; replace NA := NA.ext XB3; replace LB1 := LB1.ext XB3; replace NB := NB.ext XB3) | (clear TG7; have hRl := (RB3).lt (Nat.zero_lt_succ _); refine storesV (B := B3) rfl rfl rfl (v := b) rfl RB3 Fb ?_; clear LB3; intro s7 G7 LB3 RQ; have z8 := G7.size; replace E := grown_ext E G7 (by omega); replace NA := NA.grown G7 (by dsimp only [New]; omega); replace LB1 := LB1.grown G7 (by omega); replace NB := NB.grown G7 (by dsimp only [New]; omega); clear RB3; have RB3 := RQ; clear RQ hRl; clear RB3) | (refine loadsV (B := B1) (by rfl) rfl rfl LB1 ?_) | (refine loadsV (B := B3) (by rfl) rfl rfl LB3 ?_))
  clear LB1 LB3
  refine (ap a b _ _ _ NA.is NB.is).mono ?_
  rintro e w22 ⟨v, rfl, hq, x⟩
  have NV := hq.now
  have Fv := NV.is.flat
  clear hq
  have z9 := x.size
  replace E := E.trans x
  replace NA := NA.ext x
  replace NB := NB.ext x
  clear x
  have TB5 : True := trivial
  have TG11 : True := trivial
  go_wp2_with (first | (clear TB5; refine allocsV rfl rfl ?_; intro B5 w5 bB5 cB5 XB5 LB5 RB5; have z10 := XB5.size; replace E := E.trans XB5; replace NA := NA.ext XB5; replace NB := NB.ext XB5; replace NV := NV.ext XB5) | (clear TG11; have hRl := (RB5).lt (Nat.zero_lt_succ _); refine storesV (B := B5) rfl rfl rfl (v := v) rfl RB5 Fv ?_; clear LB5; intro s11 G11 LB5 RQ; have z12 := G11.size; replace E := grown_ext E G11 (by omega); replace NA := NA.grown G11 (by dsimp only [New]; omega); replace NB := NB.grown G11 (by dsimp only [New]; omega); replace NV := NV.grown G11 (by dsimp only [New]; omega); clear RB5; have RB5 := RQ; clear RQ hRl; clear RB5) | (refine loadsV (B := B5) (by rfl) rfl rfl LB5 ?_))
  clear LB5
  refine (VecS.packed v _ _ NV.is).mono ?_
  rintro e w27 ⟨p, rfl, hq, x⟩
  have NP := hq _ NV
  have Fp := NP.is.flat
  clear hq
  have z13 := x.size
  replace E := E.trans x
  replace NA := NA.ext x
  replace NB := NB.ext x
  replace NV := NV.ext x
  clear x
  have TB7 : True := trivial
  have TG15 : True := trivial
  go_wp2_with (first | (clear TB7; refine allocsB rfl rfl ?_; intro B7 w7 bB7 cB7 XB7 LB7 RB7; have z14 := XB7.size; replace E := E.trans XB7; replace NA := NA.ext XB7; replace NB := NB.ext XB7; replace NV := NV.ext XB7; replace NP := NP.ext XB7) | (clear TG15; have hRl := (RB7).lt (Nat.zero_lt_succ _); refine storesB (B := B7) rfl rfl rfl (v := p) rfl RB7 Fp ?_; clear LB7; intro s15 G15 LB7 RQ; have z16 := G15.size; replace E := grown_ext E G15 (by omega); replace NA := NA.grown G15 (by dsimp only [New]; omega); replace NB := NB.grown G15 (by dsimp only [New]; omega); replace NV := NV.grown G15 (by dsimp only [New]; omega); replace NP := NP.grown G15 (by dsimp only [New]; omega); clear RB7; have RB7 := RQ; clear RQ hRl; clear RB7) | (refine loadgB (B := B7) (by rfl) rfl rfl LB7 ?_))
  clear LB7
  refine (unpack_sl p _ 3 rfl _ NP.is).mono ?_
  rintro e w37 ⟨B, cb, rfl, SB, x⟩
  have z17 := x.size
  replace E := E.trans x
  replace NA := NA.ext x
  replace NB := NB.ext x
  replace NV := NV.ext x
  replace NP := NP.ext x
  clear x
  go_wp2_with fail
  refine (bools_same B _ [true, true, false] 3 3 cb 3 rfl rfl _ (by omega) (SB.ext ((Ext.refl _).alloc _)) (Sl.lit _ #[.bool true, .bool true, .bool false] _)).mono ?_
  rintro e w39 ⟨rfl, x⟩
  replace x := ((Ext.refl _).alloc _).trans x
  have z18 := x.size
  replace E := E.trans x
  replace NA := NA.ext x
  replace NB := NB.ext x
  replace NV := NV.ext x
  replace NP := NP.ext x
  replace SB := SB.ext x
  clear x
  go_wp2_with fail
  go_ret
  exact ⟨rfl, E⟩
end Go.Proofs.YtdfhefnjoekgbaaDoor
