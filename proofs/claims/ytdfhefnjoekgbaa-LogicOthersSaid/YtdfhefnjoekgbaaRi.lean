/- LogicOthers. -/
import Derived.Test.YtdfhefnjoekgbaaRg
namespace Go.Proofs.Ytdfhefnjoekgbaa
open Go.ChangeShapes Go.WideShapes Go.RowKit Bv Fl
set_option maxHeartbeats 2000000
set_option maxRecDepth 100000
theorem wrap5 (N : Nat) (h : N < 5) : wrap64 (N : Int) = (N : Int) := by
  rcases (by omega : N = 0 ∨ N = 1 ∨ N = 2 ∨ N = 3 ∨ N = 4) with rfl | rfl | rfl | rfl | rfl <;> (unfold wrap64; omega)
def appO (f : Int) (m n : Nat) : Int := if okL f = false then 1 else if lenOk (m : Int) (n : Int) = false then 23 else 24
/-- no truths come of characters and boxes -/
theorem apply_o (f : Int) (v u : Value) (d : VD) (ho : Other d) (m n : Nat) (hm : d.len = m) (d' : VD) (hn : d'.len = n) (w : World) (hv : IsVec w v d) (hu : IsVec w u d') (b : Bool) (hb : ∀ w', Ext w w' → Calls Try.prog 37 #[u] w' fun e w2 => ∃ q, e = .returned (.tuple #[q, .bool b]) ∧ Flat 2 q ∧ Ext w' w2) : Calls Try.prog 34 #[.int .i64 f, v, u] w fun e w' => e = .returned (.tuple #[zeroVec, .int .i64 (appO f m n)]) ∧ Ext w w' := by
  have hF := hv.flat
  have hG := hu.flat
  subst hm
  subst hn
  have ca : ∀ w', Ext w w' → Calls Try.prog 30 #[v] w' fun e w2 => e = .returned (.int .i64 (d.len : Int)) ∧ Ext w' w2 := fun w' h => vlen_any v d w' (hv.ext h)
  have cb : ∀ w', Ext w w' → Calls Try.prog 30 #[u] w' fun e w2 => e = .returned (.int .i64 (d'.len : Int)) ∧ Ext w' w2 := fun w' h => vlen_any u d' w' (hu.ext h)
  unfold appO
  cases hok : okL f
  · rw [if_pos rfl]
    exact apply_bad f v u w hok hF hG
  rw [if_neg (by decide)]
  cases hle : lenOk (d.len : Int) (d'.len : Int)
  · rw [if_pos rfl]
    exact apply_len f v u w hok _ _ ca cb hle hF hG
  rw [if_neg (by decide)]
  obtain ⟨N, hN, hNm, hNn, hNo⟩ := lenV_pos hle
  by_cases h0 : N = 0
  · subst h0
    exact apply_zero_no f v u w hok _ _ ca cb hle (by rw [hN]; rfl) (fun w' h => lnone_no v u w' _ ho.cls hF hG (fun w2 h2 => vclass_any v d w2 (hv.ext (h.trans h2)))) hF hG
  · have hNi : (lenV (d.len : Int) (d'.len : Int) == 0) = false := by rw [hN]; simp; omega
    exact apply_dom1 f v u w hok _ _ ca cb hle hNi (fun w' h => truths_other v d ho w' (hv.ext h)) b hb hF hG
theorem chars_v (A : Option Addr) (l : List Int) (n : Nat) (hn : n = l.length) (c : Nat) (w : World) (hl : n ≤ 1048576) (hs : Sl w 1 A n (i32s l)) : Calls Try.prog 26 #[.slice A n c] w fun e w' => ∃ v, e = .returned v ∧ VecS w' v (VD.chars l) (New w.heap.size) ∧ Ext w w' := by
  refine (chars_s A l n hn c w hl hs).mono ?_
  rintro e w' ⟨B, cb, rfl, h1, hx⟩
  exact ⟨_, rfl, h1, hx⟩
section
variable (w : World) (f : Int) (A : Option Addr) (l : List Int) (n : Nat) (c : Nat) (r : Int)
theorem logicOthers_long (h : 200 < n) : Calls Try.prog 8 #[.int .i64 f, .slice A n c, .int .u8 r] w fun e w' => e = .returned (.bool true) ∧ Ext w w' := by
  have E := Ext.refl w
  go_enter Try.func8, Try.ntmps8
  go_wp2_with fail
  refine (lawake_any _).mono ?_
  rintro e w24 ⟨rfl, x⟩
  have z1 := x.size
  replace E := E.trans x
  clear x
  go_wp2_with fail
  go_ret
  exact ⟨rfl, E⟩
theorem logicOthers_b1 (hn : n = l.length) (h3 : n ≤ 200) (hs : Sl w 1 A n (i32s l)) (N : Nat) (hN : r.tmod 5 = (N : Int)) (hN5 : N < 5) (h : f < 21) : Calls Try.prog 8 #[.int .i64 f, .slice A n c, .int .u8 r] w fun e w' => e = .returned (.bool true) ∧ Ext w w' := by
  have cc := fun w hs => chars_v A l n hn c w (by omega) hs
  have cbx := fun w => boxes_s none [] 0 0 (by intro u hu; cases hu) w (by omega) ⟨rfl, fun h => absurd h (by decide)⟩
  have cm := fun w => make_bool N true (by omega) w
  unfold MakeP at cm
  have cbo := fun v w h => VecS.bits_of v (List.replicate N true) w h
  have cap : ∀ v u w, IsVec w v (VD.chars l) → IsVec w u (VD.bits (List.replicate N true)) → Calls Try.prog 34 #[.int .i64 f, v, u] w fun e w' => e = .returned (.tuple #[zeroVec, .int .i64 (appO f n N)]) ∧ Ext w w' := fun v u w hv hu =>
    apply_o f v u _ (.inl rfl) n N (hn ▸ rfl) _ (by show (List.replicate N true).length = N; simp) w hv hu _ fun w' h => (truths_u u 1 _ w' ⟨_, hu.ext h, rfl, by omega, by omega, rfl⟩).mono fun e w2 => by
      rintro ⟨q, rfl, hq, hx⟩
      exact ⟨q, rfl, (hq _ (NumS.all ⟨_, hu.ext h, rfl, by omega, by omega, rfl⟩)).is.flat, hx⟩
  have cab : ∀ v w, IsVec w v (VD.boxes []) → Calls Try.prog 34 #[.int .i64 f, v, v] w fun e w' => e = .returned (.tuple #[zeroVec, .int .i64 (appO f 0 0)]) ∧ Ext w w' := fun v w hv =>
    apply_o f v v _ (.inr rfl) 0 0 rfl _ rfl w hv hv _ fun w' h => (truths_other v _ (.inr rfl) w' (hv.ext h)).mono fun e w2 => by
      rintro ⟨rfl, hx⟩
      exact ⟨_, rfl, zeroBits_flat, hx⟩
  have ctc := fun v w h => truths_other v (VD.chars l) (.inl rfl) w h
  have ctb := fun v w h => truths_other v (VD.boxes []) (.inr rfl) w h
  have ctz := fun w => truths_none zeroVec rfl w
  have HS := Lib.hid hs
  have hok : okL f = false := decide_eq_false (by omega)
  rw [show appO f n N = 1 by unfold appO; rw [if_pos hok]] at cap
  rw [show appO f 0 0 = 1 by unfold appO; rw [if_pos hok]] at cab
  obtain ⟨z, hz⟩ : ∃ z, zeroVec = z := ⟨_, rfl⟩
  have hZ := zeroVec_flat
  rw [hz] at cap cab hZ
  clear hs hn hz hok
  generalize VD.chars l = dc at *
  generalize VD.boxes [] = db at *
  generalize List.replicate N true = rt at *
  generalize VD.bits rt = dt at *
  have hW : wrap64 (N : Int) = (N : Int) := wrap5 N hN5
  have E := Ext.refl w
  go_enter Try.func8, Try.ntmps8
  go_wp2_with fail
  refine (cc _ (HS.out.ext E)).mono ?_
  rintro e w26 ⟨a, rfl, hq, x⟩
  have NA := hq.now
  have Fa := NA.is.flat
  clear hq
  have z1 := x.size
  replace E := E.trans x
  clear x
  go_wp2_with fail
  refine (cbx _).mono ?_
  rintro e w27 ⟨b, rfl, hq, x⟩
  have NB := hq.now
  have Fb := NB.is.flat
  clear hq
  have z2 := x.size
  replace E := E.trans x
  replace NA := NA.ext x
  clear x
  have TB7 : True := trivial
  have TB8 : True := trivial
  have TG5 : True := trivial
  have TG7 : True := trivial
  go_wp2_with (first | (clear TB7; refine allocsV rfl rfl ?_; intro B7 w7 bB7 cB7 XB7 LB7 RB7; have z3 := XB7.size; replace E := E.trans XB7; replace NA := NA.ext XB7; replace NB := NB.ext XB7) | (clear TB8; refine allocsV rfl rfl ?_; intro B8 w8 bB8 cB8 XB8 LB8 RB8; have z4 := XB8.size; replace E := E.trans XB8; replace NA := NA.ext XB8; replace NB := NB.ext XB8; replace LB7 := LB7.ext XB8; replace RB7 := RB7.ext XB8) | (clear TG5; have hRl := (RB7).lt (Nat.zero_lt_succ _); refine storesV (B := B7) rfl rfl rfl (v := a) rfl RB7 Fa ?_; clear LB7; intro s5 G5 LB7 RQ; have z6 := G5.size; replace E := grown_ext E G5 (by omega); replace NA := NA.grown G5 (by first | omega | (dsimp only [New]; omega)); replace NB := NB.grown G5 (by first | omega | (dsimp only [New]; omega)); replace LB8 := LB8.grown G5 (by omega); replace RB8 := RB8.grown G5 (by omega); clear RB7; have RB7 := RQ; clear RQ hRl; clear RB7) | (clear TG7; have hRl := (RB8).lt (Nat.zero_lt_succ _); refine storesV (B := B8) rfl rfl rfl (v := b) rfl RB8 Fb ?_; clear LB8; intro s7 G7 LB8 RQ; have z8 := G7.size; replace E := grown_ext E G7 (by omega); replace NA := NA.grown G7 (by first | omega | (dsimp only [New]; omega)); replace NB := NB.grown G7 (by first | omega | (dsimp only [New]; omega)); replace LB7 := LB7.grown G7 (by omega); clear RB8; have RB8 := RQ; clear RQ hRl; clear RB8))
  refine (cm _).mono ?_
  rintro e w31 ⟨p, rfl, hq, x⟩
  have NP := hq.bs.now
  clear hq
  have z9 := x.size
  replace E := E.trans x
  replace NA := NA.ext x
  replace NB := NB.ext x
  replace LB7 := LB7.ext x
  replace LB8 := LB8.ext x
  clear x
  go_wp2_with fail
  refine (cbo p _ NP.is).mono ?_
  rintro e w32 ⟨d, rfl, hq, x⟩
  have ND := hq _ NP
  have Fd := ND.is.flat
  clear hq
  have z10 := x.size
  replace E := E.trans x
  replace NA := NA.ext x
  replace NB := NB.ext x
  replace LB7 := LB7.ext x
  replace LB8 := LB8.ext x
  replace NP := NP.ext x
  clear x
  have TB9 : True := trivial
  have TG12 : True := trivial
  go_wp2_with (first | (clear TB9; refine allocsV rfl rfl ?_; intro B9 w9 bB9 cB9 XB9 LB9 RB9; have z11 := XB9.size; replace E := E.trans XB9; replace NA := NA.ext XB9; replace NB := NB.ext XB9; replace LB7 := LB7.ext XB9; replace LB8 := LB8.ext XB9; replace NP := NP.ext XB9; replace ND := ND.ext XB9) | (clear TG12; have hRl := (RB9).lt (Nat.zero_lt_succ _); refine storesV (B := B9) rfl rfl rfl (v := d) rfl RB9 Fd ?_; clear LB9; intro s12 G12 LB9 RQ; have z13 := G12.size; replace E := grown_ext E G12 (by omega); replace NA := NA.grown G12 (by first | omega | (dsimp only [New]; omega)); replace NB := NB.grown G12 (by first | omega | (dsimp only [New]; omega)); replace LB7 := LB7.grown G12 (by omega); replace LB8 := LB8.grown G12 (by omega); replace NP := NP.grown G12 (by first | omega | (dsimp only [New]; omega)); replace ND := ND.grown G12 (by first | omega | (dsimp only [New]; omega)); clear RB9; have RB9 := RQ; clear RQ hRl; clear RB9) | (refine loadsV (B := B7) (by rfl) rfl rfl LB7 ?_) | (refine loadsV (B := B9) (by rfl) rfl rfl LB9 ?_))
  clear LB9
  refine (cap a d _ NA.is ND.is).mono ?_
  rintro e w37 ⟨rfl, x⟩
  have z14 := x.size
  replace E := E.trans x
  replace NA := NA.ext x
  replace NB := NB.ext x
  replace LB7 := LB7.ext x
  replace LB8 := LB8.ext x
  replace NP := NP.ext x
  replace ND := ND.ext x
  clear x
  have TB10 : True := trivial
  have TG16 : True := trivial
  go_wp2_with (first | (clear TB10; refine allocsV rfl rfl ?_; intro B10 w10 bB10 cB10 XB10 LB10 RB10; have z15 := XB10.size; replace E := E.trans XB10; replace NA := NA.ext XB10; replace NB := NB.ext XB10; replace LB7 := LB7.ext XB10; replace LB8 := LB8.ext XB10; replace NP := NP.ext XB10; replace ND := ND.ext XB10; clear LB10) | (clear TG16; have hRl := (RB10).lt (Nat.zero_lt_succ _); refine storesV (B := B10) rfl rfl rfl (v := z) rfl RB10 hZ ?_; intro s16 G16 LB10 RQ; have z17 := G16.size; replace E := grown_ext E G16 (by omega); replace NA := NA.grown G16 (by first | omega | (dsimp only [New]; omega)); replace NB := NB.grown G16 (by first | omega | (dsimp only [New]; omega)); replace LB7 := LB7.grown G16 (by omega); replace LB8 := LB8.grown G16 (by omega); replace NP := NP.grown G16 (by first | omega | (dsimp only [New]; omega)); replace ND := ND.grown G16 (by first | omega | (dsimp only [New]; omega)); clear RB10; have RB10 := RQ; clear RQ hRl; clear LB10 RB10) | (refine loadsV (B := B8) (by rfl) rfl rfl LB8 ?_))
  refine (cab b _ NB.is).mono ?_
  rintro e w44 ⟨rfl, x⟩
  have z18 := x.size
  replace E := E.trans x
  replace NA := NA.ext x
  replace NB := NB.ext x
  replace LB7 := LB7.ext x
  replace LB8 := LB8.ext x
  replace NP := NP.ext x
  replace ND := ND.ext x
  clear x
  have TB12 : True := trivial
  have TG20 : True := trivial
  go_wp2_with (first | (clear TB12; refine allocsV rfl rfl ?_; intro B12 w12 bB12 cB12 XB12 LB12 RB12; have z19 := XB12.size; replace E := E.trans XB12; replace NA := NA.ext XB12; replace NB := NB.ext XB12; replace LB7 := LB7.ext XB12; replace LB8 := LB8.ext XB12; replace NP := NP.ext XB12; replace ND := ND.ext XB12; clear LB12) | (clear TG20; have hRl := (RB12).lt (Nat.zero_lt_succ _); refine storesV (B := B12) rfl rfl rfl (v := z) rfl RB12 hZ ?_; intro s20 G20 LB12 RQ; have z21 := G20.size; replace E := grown_ext E G20 (by omega); replace NA := NA.grown G20 (by first | omega | (dsimp only [New]; omega)); replace NB := NB.grown G20 (by first | omega | (dsimp only [New]; omega)); replace LB7 := LB7.grown G20 (by omega); replace LB8 := LB8.grown G20 (by omega); replace NP := NP.grown G20 (by first | omega | (dsimp only [New]; omega)); replace ND := ND.grown G20 (by first | omega | (dsimp only [New]; omega)); clear RB12; have RB12 := RQ; clear RQ hRl; clear LB12 RB12) | (refine loadsV (B := B7) (by rfl) rfl rfl LB7 ?_))
  clear LB7
  refine (ctc a _ NA.is).mono ?_
  rintro e w49 ⟨rfl, x⟩
  have z22 := x.size
  replace E := E.trans x
  replace NA := NA.ext x
  replace NB := NB.ext x
  replace LB8 := LB8.ext x
  replace NP := NP.ext x
  replace ND := ND.ext x
  clear x
  have TB14 : True := trivial
  have TG24 : True := trivial
  go_wp2_with (first | (clear TB14; refine allocsB rfl rfl ?_; intro B14 w14 bB14 cB14 XB14 LB14 RB14; have z23 := XB14.size; replace E := E.trans XB14; replace NA := NA.ext XB14; replace NB := NB.ext XB14; replace LB8 := LB8.ext XB14; replace NP := NP.ext XB14; replace ND := ND.ext XB14; clear LB14) | (clear TG24; have hRl := (RB14).lt (Nat.zero_lt_succ _); refine storesB (B := B14) rfl rfl rfl (v := zeroBits) rfl RB14 zeroBits_flat ?_; intro s24 G24 LB14 RQ; have z25 := G24.size; replace E := grown_ext E G24 (by omega); replace NA := NA.grown G24 (by first | omega | (dsimp only [New]; omega)); replace NB := NB.grown G24 (by first | omega | (dsimp only [New]; omega)); replace LB8 := LB8.grown G24 (by omega); replace NP := NP.grown G24 (by first | omega | (dsimp only [New]; omega)); replace ND := ND.grown G24 (by first | omega | (dsimp only [New]; omega)); clear RB14; have RB14 := RQ; clear RQ hRl; clear LB14 RB14) | (refine loadsV (B := B8) (by rfl) rfl rfl LB8 ?_))
  clear LB8
  refine (ctb b _ NB.is).mono ?_
  rintro e w54 ⟨rfl, x⟩
  have z26 := x.size
  replace E := E.trans x
  replace NA := NA.ext x
  replace NB := NB.ext x
  replace NP := NP.ext x
  replace ND := ND.ext x
  clear x
  have TB16 : True := trivial
  have TG28 : True := trivial
  go_wp2_with (first | (clear TB16; refine allocsB rfl rfl ?_; intro B16 w16 bB16 cB16 XB16 LB16 RB16; have z27 := XB16.size; replace E := E.trans XB16; replace NA := NA.ext XB16; replace NB := NB.ext XB16; replace NP := NP.ext XB16; replace ND := ND.ext XB16; clear LB16) | (clear TG28; have hRl := (RB16).lt (Nat.zero_lt_succ _); refine storesB (B := B16) rfl rfl rfl (v := zeroBits) rfl RB16 zeroBits_flat ?_; intro s28 G28 LB16 RQ; have z29 := G28.size; replace E := grown_ext E G28 (by omega); replace NA := NA.grown G28 (by first | omega | (dsimp only [New]; omega)); replace NB := NB.grown G28 (by first | omega | (dsimp only [New]; omega)); replace NP := NP.grown G28 (by first | omega | (dsimp only [New]; omega)); replace ND := ND.grown G28 (by first | omega | (dsimp only [New]; omega)); clear RB16; have RB16 := RQ; clear RQ hRl; clear LB16 RB16))
  refine (ctz _).mono ?_
  rintro e w59 ⟨rfl, x⟩
  have z30 := x.size
  replace E := E.trans x
  replace NA := NA.ext x
  replace NB := NB.ext x
  replace NP := NP.ext x
  replace ND := ND.ext x
  clear x
  have TB18 : True := trivial
  have TG32 : True := trivial
  go_wp2_with (first | (clear TB18; refine allocsB rfl rfl ?_; intro B18 w18 bB18 cB18 XB18 LB18 RB18; have z31 := XB18.size; replace E := E.trans XB18; replace NA := NA.ext XB18; replace NB := NB.ext XB18; replace NP := NP.ext XB18; replace ND := ND.ext XB18; clear LB18) | (clear TG32; have hRl := (RB18).lt (Nat.zero_lt_succ _); refine storesB (B := B18) rfl rfl rfl (v := zeroBits) rfl RB18 zeroBits_flat ?_; intro s32 G32 LB18 RQ; have z33 := G32.size; replace E := grown_ext E G32 (by omega); replace NA := NA.grown G32 (by first | omega | (dsimp only [New]; omega)); replace NB := NB.grown G32 (by first | omega | (dsimp only [New]; omega)); replace NP := NP.grown G32 (by first | omega | (dsimp only [New]; omega)); replace ND := ND.grown G32 (by first | omega | (dsimp only [New]; omega)); clear RB18; have RB18 := RQ; clear RQ hRl; clear LB18 RB18))
  refine (lawake_any _).mono ?_
  rintro e w88 ⟨rfl, x⟩
  have z34 := x.size
  replace E := E.trans x
  replace NA := NA.ext x
  replace NB := NB.ext x
  replace NP := NP.ext x
  replace ND := ND.ext x
  clear x
  go_wp2_with fail
  go_ret
  exact ⟨rfl, E⟩
theorem logicOthers_b2 (hn : n = l.length) (h3 : n ≤ 200) (hs : Sl w 1 A n (i32s l)) (N : Nat) (hN : r.tmod 5 = (N : Int)) (hN5 : N < 5) (h : ¬ f < 21) (h2 : 24 < f) : Calls Try.prog 8 #[.int .i64 f, .slice A n c, .int .u8 r] w fun e w' => e = .returned (.bool true) ∧ Ext w w' := by
  have cc := fun w hs => chars_v A l n hn c w (by omega) hs
  have cbx := fun w => boxes_s none [] 0 0 (by intro u hu; cases hu) w (by omega) ⟨rfl, fun h => absurd h (by decide)⟩
  have cm := fun w => make_bool N true (by omega) w
  unfold MakeP at cm
  have cbo := fun v w h => VecS.bits_of v (List.replicate N true) w h
  have cap : ∀ v u w, IsVec w v (VD.chars l) → IsVec w u (VD.bits (List.replicate N true)) → Calls Try.prog 34 #[.int .i64 f, v, u] w fun e w' => e = .returned (.tuple #[zeroVec, .int .i64 (appO f n N)]) ∧ Ext w w' := fun v u w hv hu =>
    apply_o f v u _ (.inl rfl) n N (hn ▸ rfl) _ (by show (List.replicate N true).length = N; simp) w hv hu _ fun w' h => (truths_u u 1 _ w' ⟨_, hu.ext h, rfl, by omega, by omega, rfl⟩).mono fun e w2 => by
      rintro ⟨q, rfl, hq, hx⟩
      exact ⟨q, rfl, (hq _ (NumS.all ⟨_, hu.ext h, rfl, by omega, by omega, rfl⟩)).is.flat, hx⟩
  have cab : ∀ v w, IsVec w v (VD.boxes []) → Calls Try.prog 34 #[.int .i64 f, v, v] w fun e w' => e = .returned (.tuple #[zeroVec, .int .i64 (appO f 0 0)]) ∧ Ext w w' := fun v w hv =>
    apply_o f v v _ (.inr rfl) 0 0 rfl _ rfl w hv hv _ fun w' h => (truths_other v _ (.inr rfl) w' (hv.ext h)).mono fun e w2 => by
      rintro ⟨rfl, hx⟩
      exact ⟨_, rfl, zeroBits_flat, hx⟩
  have ctc := fun v w h => truths_other v (VD.chars l) (.inl rfl) w h
  have ctb := fun v w h => truths_other v (VD.boxes []) (.inr rfl) w h
  have ctz := fun w => truths_none zeroVec rfl w
  have HS := Lib.hid hs
  have hok : okL f = false := decide_eq_false (by omega)
  rw [show appO f n N = 1 by unfold appO; rw [if_pos hok]] at cap
  rw [show appO f 0 0 = 1 by unfold appO; rw [if_pos hok]] at cab
  obtain ⟨z, hz⟩ : ∃ z, zeroVec = z := ⟨_, rfl⟩
  have hZ := zeroVec_flat
  rw [hz] at cap cab hZ
  clear hs hn hz hok
  generalize VD.chars l = dc at *
  generalize VD.boxes [] = db at *
  generalize List.replicate N true = rt at *
  generalize VD.bits rt = dt at *
  have hW : wrap64 (N : Int) = (N : Int) := wrap5 N hN5
  have E := Ext.refl w
  go_enter Try.func8, Try.ntmps8
  go_wp2_with fail
  refine (cc _ (HS.out.ext E)).mono ?_
  rintro e w26 ⟨a, rfl, hq, x⟩
  have NA := hq.now
  have Fa := NA.is.flat
  clear hq
  have z1 := x.size
  replace E := E.trans x
  clear x
  go_wp2_with fail
  refine (cbx _).mono ?_
  rintro e w27 ⟨b, rfl, hq, x⟩
  have NB := hq.now
  have Fb := NB.is.flat
  clear hq
  have z2 := x.size
  replace E := E.trans x
  replace NA := NA.ext x
  clear x
  have TB7 : True := trivial
  have TB8 : True := trivial
  have TG5 : True := trivial
  have TG7 : True := trivial
  go_wp2_with (first | (clear TB7; refine allocsV rfl rfl ?_; intro B7 w7 bB7 cB7 XB7 LB7 RB7; have z3 := XB7.size; replace E := E.trans XB7; replace NA := NA.ext XB7; replace NB := NB.ext XB7) | (clear TB8; refine allocsV rfl rfl ?_; intro B8 w8 bB8 cB8 XB8 LB8 RB8; have z4 := XB8.size; replace E := E.trans XB8; replace NA := NA.ext XB8; replace NB := NB.ext XB8; replace LB7 := LB7.ext XB8; replace RB7 := RB7.ext XB8) | (clear TG5; have hRl := (RB7).lt (Nat.zero_lt_succ _); refine storesV (B := B7) rfl rfl rfl (v := a) rfl RB7 Fa ?_; clear LB7; intro s5 G5 LB7 RQ; have z6 := G5.size; replace E := grown_ext E G5 (by omega); replace NA := NA.grown G5 (by first | omega | (dsimp only [New]; omega)); replace NB := NB.grown G5 (by first | omega | (dsimp only [New]; omega)); replace LB8 := LB8.grown G5 (by omega); replace RB8 := RB8.grown G5 (by omega); clear RB7; have RB7 := RQ; clear RQ hRl; clear RB7) | (clear TG7; have hRl := (RB8).lt (Nat.zero_lt_succ _); refine storesV (B := B8) rfl rfl rfl (v := b) rfl RB8 Fb ?_; clear LB8; intro s7 G7 LB8 RQ; have z8 := G7.size; replace E := grown_ext E G7 (by omega); replace NA := NA.grown G7 (by first | omega | (dsimp only [New]; omega)); replace NB := NB.grown G7 (by first | omega | (dsimp only [New]; omega)); replace LB7 := LB7.grown G7 (by omega); clear RB8; have RB8 := RQ; clear RQ hRl; clear RB8))
  refine (cm _).mono ?_
  rintro e w31 ⟨p, rfl, hq, x⟩
  have NP := hq.bs.now
  clear hq
  have z9 := x.size
  replace E := E.trans x
  replace NA := NA.ext x
  replace NB := NB.ext x
  replace LB7 := LB7.ext x
  replace LB8 := LB8.ext x
  clear x
  go_wp2_with fail
  refine (cbo p _ NP.is).mono ?_
  rintro e w32 ⟨d, rfl, hq, x⟩
  have ND := hq _ NP
  have Fd := ND.is.flat
  clear hq
  have z10 := x.size
  replace E := E.trans x
  replace NA := NA.ext x
  replace NB := NB.ext x
  replace LB7 := LB7.ext x
  replace LB8 := LB8.ext x
  replace NP := NP.ext x
  clear x
  have TB9 : True := trivial
  have TG12 : True := trivial
  go_wp2_with (first | (clear TB9; refine allocsV rfl rfl ?_; intro B9 w9 bB9 cB9 XB9 LB9 RB9; have z11 := XB9.size; replace E := E.trans XB9; replace NA := NA.ext XB9; replace NB := NB.ext XB9; replace LB7 := LB7.ext XB9; replace LB8 := LB8.ext XB9; replace NP := NP.ext XB9; replace ND := ND.ext XB9) | (clear TG12; have hRl := (RB9).lt (Nat.zero_lt_succ _); refine storesV (B := B9) rfl rfl rfl (v := d) rfl RB9 Fd ?_; clear LB9; intro s12 G12 LB9 RQ; have z13 := G12.size; replace E := grown_ext E G12 (by omega); replace NA := NA.grown G12 (by first | omega | (dsimp only [New]; omega)); replace NB := NB.grown G12 (by first | omega | (dsimp only [New]; omega)); replace LB7 := LB7.grown G12 (by omega); replace LB8 := LB8.grown G12 (by omega); replace NP := NP.grown G12 (by first | omega | (dsimp only [New]; omega)); replace ND := ND.grown G12 (by first | omega | (dsimp only [New]; omega)); clear RB9; have RB9 := RQ; clear RQ hRl; clear RB9) | (refine loadsV (B := B7) (by rfl) rfl rfl LB7 ?_) | (refine loadsV (B := B9) (by rfl) rfl rfl LB9 ?_))
  clear LB9
  refine (cap a d _ NA.is ND.is).mono ?_
  rintro e w37 ⟨rfl, x⟩
  have z14 := x.size
  replace E := E.trans x
  replace NA := NA.ext x
  replace NB := NB.ext x
  replace LB7 := LB7.ext x
  replace LB8 := LB8.ext x
  replace NP := NP.ext x
  replace ND := ND.ext x
  clear x
  have TB10 : True := trivial
  have TG16 : True := trivial
  go_wp2_with (first | (clear TB10; refine allocsV rfl rfl ?_; intro B10 w10 bB10 cB10 XB10 LB10 RB10; have z15 := XB10.size; replace E := E.trans XB10; replace NA := NA.ext XB10; replace NB := NB.ext XB10; replace LB7 := LB7.ext XB10; replace LB8 := LB8.ext XB10; replace NP := NP.ext XB10; replace ND := ND.ext XB10; clear LB10) | (clear TG16; have hRl := (RB10).lt (Nat.zero_lt_succ _); refine storesV (B := B10) rfl rfl rfl (v := z) rfl RB10 hZ ?_; intro s16 G16 LB10 RQ; have z17 := G16.size; replace E := grown_ext E G16 (by omega); replace NA := NA.grown G16 (by first | omega | (dsimp only [New]; omega)); replace NB := NB.grown G16 (by first | omega | (dsimp only [New]; omega)); replace LB7 := LB7.grown G16 (by omega); replace LB8 := LB8.grown G16 (by omega); replace NP := NP.grown G16 (by first | omega | (dsimp only [New]; omega)); replace ND := ND.grown G16 (by first | omega | (dsimp only [New]; omega)); clear RB10; have RB10 := RQ; clear RQ hRl; clear LB10 RB10) | (refine loadsV (B := B8) (by rfl) rfl rfl LB8 ?_))
  refine (cab b _ NB.is).mono ?_
  rintro e w44 ⟨rfl, x⟩
  have z18 := x.size
  replace E := E.trans x
  replace NA := NA.ext x
  replace NB := NB.ext x
  replace LB7 := LB7.ext x
  replace LB8 := LB8.ext x
  replace NP := NP.ext x
  replace ND := ND.ext x
  clear x
  have TB12 : True := trivial
  have TG20 : True := trivial
  go_wp2_with (first | (clear TB12; refine allocsV rfl rfl ?_; intro B12 w12 bB12 cB12 XB12 LB12 RB12; have z19 := XB12.size; replace E := E.trans XB12; replace NA := NA.ext XB12; replace NB := NB.ext XB12; replace LB7 := LB7.ext XB12; replace LB8 := LB8.ext XB12; replace NP := NP.ext XB12; replace ND := ND.ext XB12; clear LB12) | (clear TG20; have hRl := (RB12).lt (Nat.zero_lt_succ _); refine storesV (B := B12) rfl rfl rfl (v := z) rfl RB12 hZ ?_; intro s20 G20 LB12 RQ; have z21 := G20.size; replace E := grown_ext E G20 (by omega); replace NA := NA.grown G20 (by first | omega | (dsimp only [New]; omega)); replace NB := NB.grown G20 (by first | omega | (dsimp only [New]; omega)); replace LB7 := LB7.grown G20 (by omega); replace LB8 := LB8.grown G20 (by omega); replace NP := NP.grown G20 (by first | omega | (dsimp only [New]; omega)); replace ND := ND.grown G20 (by first | omega | (dsimp only [New]; omega)); clear RB12; have RB12 := RQ; clear RQ hRl; clear LB12 RB12) | (refine loadsV (B := B7) (by rfl) rfl rfl LB7 ?_))
  clear LB7
  refine (ctc a _ NA.is).mono ?_
  rintro e w49 ⟨rfl, x⟩
  have z22 := x.size
  replace E := E.trans x
  replace NA := NA.ext x
  replace NB := NB.ext x
  replace LB8 := LB8.ext x
  replace NP := NP.ext x
  replace ND := ND.ext x
  clear x
  have TB14 : True := trivial
  have TG24 : True := trivial
  go_wp2_with (first | (clear TB14; refine allocsB rfl rfl ?_; intro B14 w14 bB14 cB14 XB14 LB14 RB14; have z23 := XB14.size; replace E := E.trans XB14; replace NA := NA.ext XB14; replace NB := NB.ext XB14; replace LB8 := LB8.ext XB14; replace NP := NP.ext XB14; replace ND := ND.ext XB14; clear LB14) | (clear TG24; have hRl := (RB14).lt (Nat.zero_lt_succ _); refine storesB (B := B14) rfl rfl rfl (v := zeroBits) rfl RB14 zeroBits_flat ?_; intro s24 G24 LB14 RQ; have z25 := G24.size; replace E := grown_ext E G24 (by omega); replace NA := NA.grown G24 (by first | omega | (dsimp only [New]; omega)); replace NB := NB.grown G24 (by first | omega | (dsimp only [New]; omega)); replace LB8 := LB8.grown G24 (by omega); replace NP := NP.grown G24 (by first | omega | (dsimp only [New]; omega)); replace ND := ND.grown G24 (by first | omega | (dsimp only [New]; omega)); clear RB14; have RB14 := RQ; clear RQ hRl; clear LB14 RB14) | (refine loadsV (B := B8) (by rfl) rfl rfl LB8 ?_))
  clear LB8
  refine (ctb b _ NB.is).mono ?_
  rintro e w54 ⟨rfl, x⟩
  have z26 := x.size
  replace E := E.trans x
  replace NA := NA.ext x
  replace NB := NB.ext x
  replace NP := NP.ext x
  replace ND := ND.ext x
  clear x
  have TB16 : True := trivial
  have TG28 : True := trivial
  go_wp2_with (first | (clear TB16; refine allocsB rfl rfl ?_; intro B16 w16 bB16 cB16 XB16 LB16 RB16; have z27 := XB16.size; replace E := E.trans XB16; replace NA := NA.ext XB16; replace NB := NB.ext XB16; replace NP := NP.ext XB16; replace ND := ND.ext XB16; clear LB16) | (clear TG28; have hRl := (RB16).lt (Nat.zero_lt_succ _); refine storesB (B := B16) rfl rfl rfl (v := zeroBits) rfl RB16 zeroBits_flat ?_; intro s28 G28 LB16 RQ; have z29 := G28.size; replace E := grown_ext E G28 (by omega); replace NA := NA.grown G28 (by first | omega | (dsimp only [New]; omega)); replace NB := NB.grown G28 (by first | omega | (dsimp only [New]; omega)); replace NP := NP.grown G28 (by first | omega | (dsimp only [New]; omega)); replace ND := ND.grown G28 (by first | omega | (dsimp only [New]; omega)); clear RB16; have RB16 := RQ; clear RQ hRl; clear LB16 RB16))
  refine (ctz _).mono ?_
  rintro e w59 ⟨rfl, x⟩
  have z30 := x.size
  replace E := E.trans x
  replace NA := NA.ext x
  replace NB := NB.ext x
  replace NP := NP.ext x
  replace ND := ND.ext x
  clear x
  have TB18 : True := trivial
  have TG32 : True := trivial
  go_wp2_with (first | (clear TB18; refine allocsB rfl rfl ?_; intro B18 w18 bB18 cB18 XB18 LB18 RB18; have z31 := XB18.size; replace E := E.trans XB18; replace NA := NA.ext XB18; replace NB := NB.ext XB18; replace NP := NP.ext XB18; replace ND := ND.ext XB18; clear LB18) | (clear TG32; have hRl := (RB18).lt (Nat.zero_lt_succ _); refine storesB (B := B18) rfl rfl rfl (v := zeroBits) rfl RB18 zeroBits_flat ?_; intro s32 G32 LB18 RQ; have z33 := G32.size; replace E := grown_ext E G32 (by omega); replace NA := NA.grown G32 (by first | omega | (dsimp only [New]; omega)); replace NB := NB.grown G32 (by first | omega | (dsimp only [New]; omega)); replace NP := NP.grown G32 (by first | omega | (dsimp only [New]; omega)); replace ND := ND.grown G32 (by first | omega | (dsimp only [New]; omega)); clear RB18; have RB18 := RQ; clear RQ hRl; clear LB18 RB18))
  refine (lawake_any _).mono ?_
  rintro e w88 ⟨rfl, x⟩
  have z34 := x.size
  replace E := E.trans x
  replace NA := NA.ext x
  replace NB := NB.ext x
  replace NP := NP.ext x
  replace ND := ND.ext x
  clear x
  go_wp2_with fail
  go_ret
  exact ⟨rfl, E⟩
theorem logicOthers_e (hn : n = l.length) (h3 : n ≤ 200) (hs : Sl w 1 A n (i32s l)) (N : Nat) (hN : r.tmod 5 = (N : Int)) (hN5 : N < 5) (h : ¬ f < 21) (h2 : ¬ 24 < f) (hle : n = N) : Calls Try.prog 8 #[.int .i64 f, .slice A n c, .int .u8 r] w fun e w' => e = .returned (.bool true) ∧ Ext w w' := by
  have cc := fun w hs => chars_v A l n hn c w (by omega) hs
  have cbx := fun w => boxes_s none [] 0 0 (by intro u hu; cases hu) w (by omega) ⟨rfl, fun h => absurd h (by decide)⟩
  have cm := fun w => make_bool N true (by omega) w
  unfold MakeP at cm
  have cbo := fun v w h => VecS.bits_of v (List.replicate N true) w h
  have cap : ∀ v u w, IsVec w v (VD.chars l) → IsVec w u (VD.bits (List.replicate N true)) → Calls Try.prog 34 #[.int .i64 f, v, u] w fun e w' => e = .returned (.tuple #[zeroVec, .int .i64 (appO f n N)]) ∧ Ext w w' := fun v u w hv hu =>
    apply_o f v u _ (.inl rfl) n N (hn ▸ rfl) _ (by show (List.replicate N true).length = N; simp) w hv hu _ fun w' h => (truths_u u 1 _ w' ⟨_, hu.ext h, rfl, by omega, by omega, rfl⟩).mono fun e w2 => by
      rintro ⟨q, rfl, hq, hx⟩
      exact ⟨q, rfl, (hq _ (NumS.all ⟨_, hu.ext h, rfl, by omega, by omega, rfl⟩)).is.flat, hx⟩
  have cab : ∀ v w, IsVec w v (VD.boxes []) → Calls Try.prog 34 #[.int .i64 f, v, v] w fun e w' => e = .returned (.tuple #[zeroVec, .int .i64 (appO f 0 0)]) ∧ Ext w w' := fun v w hv =>
    apply_o f v v _ (.inr rfl) 0 0 rfl _ rfl w hv hv _ fun w' h => (truths_other v _ (.inr rfl) w' (hv.ext h)).mono fun e w2 => by
      rintro ⟨rfl, hx⟩
      exact ⟨_, rfl, zeroBits_flat, hx⟩
  have ctc := fun v w h => truths_other v (VD.chars l) (.inl rfl) w h
  have ctb := fun v w h => truths_other v (VD.boxes []) (.inr rfl) w h
  have ctz := fun w => truths_none zeroVec rfl w
  have HS := Lib.hid hs
  have hok : okL f = true := decide_eq_true (by omega)
  have hlo : lenOk (n : Int) (N : Int) = true := by simp [lenOk]; omega
  have e95 : ((n : Int) != (N : Int)) = false := by simp; omega
  rw [show appO f n N = 24 by unfold appO; rw [if_neg (by rw [hok]; decide), hlo, if_neg (by decide)]] at cap
  rw [show appO f 0 0 = 24 by unfold appO; rw [if_neg (by rw [hok]; decide), if_neg (by decide)]] at cab
  obtain ⟨z, hz⟩ : ∃ z, zeroVec = z := ⟨_, rfl⟩
  have hZ := zeroVec_flat
  rw [hz] at cap cab hZ
  clear hs hn hz hok hlo hle
  generalize VD.chars l = dc at *
  generalize VD.boxes [] = db at *
  generalize List.replicate N true = rt at *
  generalize VD.bits rt = dt at *
  have hW : wrap64 (N : Int) = (N : Int) := wrap5 N hN5
  have E := Ext.refl w
  go_enter Try.func8, Try.ntmps8
  go_wp2_with fail
  refine (cc _ (HS.out.ext E)).mono ?_
  rintro e w26 ⟨a, rfl, hq, x⟩
  have NA := hq.now
  have Fa := NA.is.flat
  clear hq
  have z1 := x.size
  replace E := E.trans x
  clear x
  go_wp2_with fail
  refine (cbx _).mono ?_
  rintro e w27 ⟨b, rfl, hq, x⟩
  have NB := hq.now
  have Fb := NB.is.flat
  clear hq
  have z2 := x.size
  replace E := E.trans x
  replace NA := NA.ext x
  clear x
  have TB7 : True := trivial
  have TB8 : True := trivial
  have TG5 : True := trivial
  have TG7 : True := trivial
  go_wp2_with (first | (clear TB7; refine allocsV rfl rfl ?_; intro B7 w7 bB7 cB7 XB7 LB7 RB7; have z3 := XB7.size; replace E := E.trans XB7; replace NA := NA.ext XB7; replace NB := NB.ext XB7) | (clear TB8; refine allocsV rfl rfl ?_; intro B8 w8 bB8 cB8 XB8 LB8 RB8; have z4 := XB8.size; replace E := E.trans XB8; replace NA := NA.ext XB8; replace NB := NB.ext XB8; replace LB7 := LB7.ext XB8; replace RB7 := RB7.ext XB8) | (clear TG5; have hRl := (RB7).lt (Nat.zero_lt_succ _); refine storesV (B := B7) rfl rfl rfl (v := a) rfl RB7 Fa ?_; clear LB7; intro s5 G5 LB7 RQ; have z6 := G5.size; replace E := grown_ext E G5 (by omega); replace NA := NA.grown G5 (by first | omega | (dsimp only [New]; omega)); replace NB := NB.grown G5 (by first | omega | (dsimp only [New]; omega)); replace LB8 := LB8.grown G5 (by omega); replace RB8 := RB8.grown G5 (by omega); clear RB7; have RB7 := RQ; clear RQ hRl; clear RB7) | (clear TG7; have hRl := (RB8).lt (Nat.zero_lt_succ _); refine storesV (B := B8) rfl rfl rfl (v := b) rfl RB8 Fb ?_; clear LB8; intro s7 G7 LB8 RQ; have z8 := G7.size; replace E := grown_ext E G7 (by omega); replace NA := NA.grown G7 (by first | omega | (dsimp only [New]; omega)); replace NB := NB.grown G7 (by first | omega | (dsimp only [New]; omega)); replace LB7 := LB7.grown G7 (by omega); clear RB8; have RB8 := RQ; clear RQ hRl; clear RB8))
  refine (cm _).mono ?_
  rintro e w31 ⟨p, rfl, hq, x⟩
  have NP := hq.bs.now
  clear hq
  have z9 := x.size
  replace E := E.trans x
  replace NA := NA.ext x
  replace NB := NB.ext x
  replace LB7 := LB7.ext x
  replace LB8 := LB8.ext x
  clear x
  go_wp2_with fail
  refine (cbo p _ NP.is).mono ?_
  rintro e w32 ⟨d, rfl, hq, x⟩
  have ND := hq _ NP
  have Fd := ND.is.flat
  clear hq
  have z10 := x.size
  replace E := E.trans x
  replace NA := NA.ext x
  replace NB := NB.ext x
  replace LB7 := LB7.ext x
  replace LB8 := LB8.ext x
  replace NP := NP.ext x
  clear x
  have TB9 : True := trivial
  have TG12 : True := trivial
  go_wp2_with (first | (clear TB9; refine allocsV rfl rfl ?_; intro B9 w9 bB9 cB9 XB9 LB9 RB9; have z11 := XB9.size; replace E := E.trans XB9; replace NA := NA.ext XB9; replace NB := NB.ext XB9; replace LB7 := LB7.ext XB9; replace LB8 := LB8.ext XB9; replace NP := NP.ext XB9; replace ND := ND.ext XB9) | (clear TG12; have hRl := (RB9).lt (Nat.zero_lt_succ _); refine storesV (B := B9) rfl rfl rfl (v := d) rfl RB9 Fd ?_; clear LB9; intro s12 G12 LB9 RQ; have z13 := G12.size; replace E := grown_ext E G12 (by omega); replace NA := NA.grown G12 (by first | omega | (dsimp only [New]; omega)); replace NB := NB.grown G12 (by first | omega | (dsimp only [New]; omega)); replace LB7 := LB7.grown G12 (by omega); replace LB8 := LB8.grown G12 (by omega); replace NP := NP.grown G12 (by first | omega | (dsimp only [New]; omega)); replace ND := ND.grown G12 (by first | omega | (dsimp only [New]; omega)); clear RB9; have RB9 := RQ; clear RQ hRl; clear RB9) | (refine loadsV (B := B7) (by rfl) rfl rfl LB7 ?_) | (refine loadsV (B := B9) (by rfl) rfl rfl LB9 ?_))
  clear LB9
  refine (cap a d _ NA.is ND.is).mono ?_
  rintro e w37 ⟨rfl, x⟩
  have z14 := x.size
  replace E := E.trans x
  replace NA := NA.ext x
  replace NB := NB.ext x
  replace LB7 := LB7.ext x
  replace LB8 := LB8.ext x
  replace NP := NP.ext x
  replace ND := ND.ext x
  clear x
  have TB10 : True := trivial
  have TG16 : True := trivial
  go_wp2_with (first | (clear TB10; refine allocsV rfl rfl ?_; intro B10 w10 bB10 cB10 XB10 LB10 RB10; have z15 := XB10.size; replace E := E.trans XB10; replace NA := NA.ext XB10; replace NB := NB.ext XB10; replace LB7 := LB7.ext XB10; replace LB8 := LB8.ext XB10; replace NP := NP.ext XB10; replace ND := ND.ext XB10; clear LB10) | (clear TG16; have hRl := (RB10).lt (Nat.zero_lt_succ _); refine storesV (B := B10) rfl rfl rfl (v := z) rfl RB10 hZ ?_; intro s16 G16 LB10 RQ; have z17 := G16.size; replace E := grown_ext E G16 (by omega); replace NA := NA.grown G16 (by first | omega | (dsimp only [New]; omega)); replace NB := NB.grown G16 (by first | omega | (dsimp only [New]; omega)); replace LB7 := LB7.grown G16 (by omega); replace LB8 := LB8.grown G16 (by omega); replace NP := NP.grown G16 (by first | omega | (dsimp only [New]; omega)); replace ND := ND.grown G16 (by first | omega | (dsimp only [New]; omega)); clear RB10; have RB10 := RQ; clear RQ hRl; clear LB10 RB10) | (refine loadsV (B := B8) (by rfl) rfl rfl LB8 ?_))
  refine (cab b _ NB.is).mono ?_
  rintro e w44 ⟨rfl, x⟩
  have z18 := x.size
  replace E := E.trans x
  replace NA := NA.ext x
  replace NB := NB.ext x
  replace LB7 := LB7.ext x
  replace LB8 := LB8.ext x
  replace NP := NP.ext x
  replace ND := ND.ext x
  clear x
  have TB12 : True := trivial
  have TG20 : True := trivial
  go_wp2_with (first | (clear TB12; refine allocsV rfl rfl ?_; intro B12 w12 bB12 cB12 XB12 LB12 RB12; have z19 := XB12.size; replace E := E.trans XB12; replace NA := NA.ext XB12; replace NB := NB.ext XB12; replace LB7 := LB7.ext XB12; replace LB8 := LB8.ext XB12; replace NP := NP.ext XB12; replace ND := ND.ext XB12; clear LB12) | (clear TG20; have hRl := (RB12).lt (Nat.zero_lt_succ _); refine storesV (B := B12) rfl rfl rfl (v := z) rfl RB12 hZ ?_; intro s20 G20 LB12 RQ; have z21 := G20.size; replace E := grown_ext E G20 (by omega); replace NA := NA.grown G20 (by first | omega | (dsimp only [New]; omega)); replace NB := NB.grown G20 (by first | omega | (dsimp only [New]; omega)); replace LB7 := LB7.grown G20 (by omega); replace LB8 := LB8.grown G20 (by omega); replace NP := NP.grown G20 (by first | omega | (dsimp only [New]; omega)); replace ND := ND.grown G20 (by first | omega | (dsimp only [New]; omega)); clear RB12; have RB12 := RQ; clear RQ hRl; clear LB12 RB12) | (refine loadsV (B := B7) (by rfl) rfl rfl LB7 ?_))
  clear LB7
  refine (ctc a _ NA.is).mono ?_
  rintro e w49 ⟨rfl, x⟩
  have z22 := x.size
  replace E := E.trans x
  replace NA := NA.ext x
  replace NB := NB.ext x
  replace LB8 := LB8.ext x
  replace NP := NP.ext x
  replace ND := ND.ext x
  clear x
  have TB14 : True := trivial
  have TG24 : True := trivial
  go_wp2_with (first | (clear TB14; refine allocsB rfl rfl ?_; intro B14 w14 bB14 cB14 XB14 LB14 RB14; have z23 := XB14.size; replace E := E.trans XB14; replace NA := NA.ext XB14; replace NB := NB.ext XB14; replace LB8 := LB8.ext XB14; replace NP := NP.ext XB14; replace ND := ND.ext XB14; clear LB14) | (clear TG24; have hRl := (RB14).lt (Nat.zero_lt_succ _); refine storesB (B := B14) rfl rfl rfl (v := zeroBits) rfl RB14 zeroBits_flat ?_; intro s24 G24 LB14 RQ; have z25 := G24.size; replace E := grown_ext E G24 (by omega); replace NA := NA.grown G24 (by first | omega | (dsimp only [New]; omega)); replace NB := NB.grown G24 (by first | omega | (dsimp only [New]; omega)); replace LB8 := LB8.grown G24 (by omega); replace NP := NP.grown G24 (by first | omega | (dsimp only [New]; omega)); replace ND := ND.grown G24 (by first | omega | (dsimp only [New]; omega)); clear RB14; have RB14 := RQ; clear RQ hRl; clear LB14 RB14) | (refine loadsV (B := B8) (by rfl) rfl rfl LB8 ?_))
  clear LB8
  refine (ctb b _ NB.is).mono ?_
  rintro e w54 ⟨rfl, x⟩
  have z26 := x.size
  replace E := E.trans x
  replace NA := NA.ext x
  replace NB := NB.ext x
  replace NP := NP.ext x
  replace ND := ND.ext x
  clear x
  have TB16 : True := trivial
  have TG28 : True := trivial
  go_wp2_with (first | (clear TB16; refine allocsB rfl rfl ?_; intro B16 w16 bB16 cB16 XB16 LB16 RB16; have z27 := XB16.size; replace E := E.trans XB16; replace NA := NA.ext XB16; replace NB := NB.ext XB16; replace NP := NP.ext XB16; replace ND := ND.ext XB16; clear LB16) | (clear TG28; have hRl := (RB16).lt (Nat.zero_lt_succ _); refine storesB (B := B16) rfl rfl rfl (v := zeroBits) rfl RB16 zeroBits_flat ?_; intro s28 G28 LB16 RQ; have z29 := G28.size; replace E := grown_ext E G28 (by omega); replace NA := NA.grown G28 (by first | omega | (dsimp only [New]; omega)); replace NB := NB.grown G28 (by first | omega | (dsimp only [New]; omega)); replace NP := NP.grown G28 (by first | omega | (dsimp only [New]; omega)); replace ND := ND.grown G28 (by first | omega | (dsimp only [New]; omega)); clear RB16; have RB16 := RQ; clear RQ hRl; clear LB16 RB16))
  refine (ctz _).mono ?_
  rintro e w59 ⟨rfl, x⟩
  have z30 := x.size
  replace E := E.trans x
  replace NA := NA.ext x
  replace NB := NB.ext x
  replace NP := NP.ext x
  replace ND := ND.ext x
  clear x
  have TB18 : True := trivial
  have TG32 : True := trivial
  go_wp2_with (first | (clear TB18; refine allocsB rfl rfl ?_; intro B18 w18 bB18 cB18 XB18 LB18 RB18; have z31 := XB18.size; replace E := E.trans XB18; replace NA := NA.ext XB18; replace NB := NB.ext XB18; replace NP := NP.ext XB18; replace ND := ND.ext XB18; clear LB18) | (clear TG32; have hRl := (RB18).lt (Nat.zero_lt_succ _); refine storesB (B := B18) rfl rfl rfl (v := zeroBits) rfl RB18 zeroBits_flat ?_; intro s32 G32 LB18 RQ; have z33 := G32.size; replace E := grown_ext E G32 (by omega); replace NA := NA.grown G32 (by first | omega | (dsimp only [New]; omega)); replace NB := NB.grown G32 (by first | omega | (dsimp only [New]; omega)); replace NP := NP.grown G32 (by first | omega | (dsimp only [New]; omega)); replace ND := ND.grown G32 (by first | omega | (dsimp only [New]; omega)); clear RB18; have RB18 := RQ; clear RQ hRl; clear LB18 RB18))
  refine (lawake_any _).mono ?_
  rintro e w126 ⟨rfl, x⟩
  have z34 := x.size
  replace E := E.trans x
  replace NA := NA.ext x
  replace NB := NB.ext x
  replace NP := NP.ext x
  replace ND := ND.ext x
  clear x
  go_wp2_with fail
  go_ret
  exact ⟨rfl, E⟩
theorem logicOthers_f (hn : n = l.length) (h3 : n ≤ 200) (hs : Sl w 1 A n (i32s l)) (N : Nat) (hN : r.tmod 5 = (N : Int)) (hN5 : N < 5) (h : ¬ f < 21) (h2 : ¬ 24 < f) (hle : n ≠ N) (hle1 : n = 1) : Calls Try.prog 8 #[.int .i64 f, .slice A n c, .int .u8 r] w fun e w' => e = .returned (.bool true) ∧ Ext w w' := by
  have cc := fun w hs => chars_v A l n hn c w (by omega) hs
  have cbx := fun w => boxes_s none [] 0 0 (by intro u hu; cases hu) w (by omega) ⟨rfl, fun h => absurd h (by decide)⟩
  have cm := fun w => make_bool N true (by omega) w
  unfold MakeP at cm
  have cbo := fun v w h => VecS.bits_of v (List.replicate N true) w h
  have cap : ∀ v u w, IsVec w v (VD.chars l) → IsVec w u (VD.bits (List.replicate N true)) → Calls Try.prog 34 #[.int .i64 f, v, u] w fun e w' => e = .returned (.tuple #[zeroVec, .int .i64 (appO f n N)]) ∧ Ext w w' := fun v u w hv hu =>
    apply_o f v u _ (.inl rfl) n N (hn ▸ rfl) _ (by show (List.replicate N true).length = N; simp) w hv hu _ fun w' h => (truths_u u 1 _ w' ⟨_, hu.ext h, rfl, by omega, by omega, rfl⟩).mono fun e w2 => by
      rintro ⟨q, rfl, hq, hx⟩
      exact ⟨q, rfl, (hq _ (NumS.all ⟨_, hu.ext h, rfl, by omega, by omega, rfl⟩)).is.flat, hx⟩
  have cab : ∀ v w, IsVec w v (VD.boxes []) → Calls Try.prog 34 #[.int .i64 f, v, v] w fun e w' => e = .returned (.tuple #[zeroVec, .int .i64 (appO f 0 0)]) ∧ Ext w w' := fun v w hv =>
    apply_o f v v _ (.inr rfl) 0 0 rfl _ rfl w hv hv _ fun w' h => (truths_other v _ (.inr rfl) w' (hv.ext h)).mono fun e w2 => by
      rintro ⟨rfl, hx⟩
      exact ⟨_, rfl, zeroBits_flat, hx⟩
  have ctc := fun v w h => truths_other v (VD.chars l) (.inl rfl) w h
  have ctb := fun v w h => truths_other v (VD.boxes []) (.inr rfl) w h
  have ctz := fun w => truths_none zeroVec rfl w
  have HS := Lib.hid hs
  have hok : okL f = true := decide_eq_true (by omega)
  have hlo : lenOk (n : Int) (N : Int) = true := by simp [lenOk]; omega
  have e95 : ((n : Int) != (N : Int)) = true := by simp; omega
  have e99 : ((n : Int) != 1) = false := by simp; omega
  rw [show appO f n N = 24 by unfold appO; rw [if_neg (by rw [hok]; decide), hlo, if_neg (by decide)]] at cap
  rw [show appO f 0 0 = 24 by unfold appO; rw [if_neg (by rw [hok]; decide), if_neg (by decide)]] at cab
  obtain ⟨z, hz⟩ : ∃ z, zeroVec = z := ⟨_, rfl⟩
  have hZ := zeroVec_flat
  rw [hz] at cap cab hZ
  clear hs hn hz hok hlo hle hle1
  generalize VD.chars l = dc at *
  generalize VD.boxes [] = db at *
  generalize List.replicate N true = rt at *
  generalize VD.bits rt = dt at *
  have hW : wrap64 (N : Int) = (N : Int) := wrap5 N hN5
  have E := Ext.refl w
  go_enter Try.func8, Try.ntmps8
  go_wp2_with fail
  refine (cc _ (HS.out.ext E)).mono ?_
  rintro e w26 ⟨a, rfl, hq, x⟩
  have NA := hq.now
  have Fa := NA.is.flat
  clear hq
  have z1 := x.size
  replace E := E.trans x
  clear x
  go_wp2_with fail
  refine (cbx _).mono ?_
  rintro e w27 ⟨b, rfl, hq, x⟩
  have NB := hq.now
  have Fb := NB.is.flat
  clear hq
  have z2 := x.size
  replace E := E.trans x
  replace NA := NA.ext x
  clear x
  have TB7 : True := trivial
  have TB8 : True := trivial
  have TG5 : True := trivial
  have TG7 : True := trivial
  go_wp2_with (first | (clear TB7; refine allocsV rfl rfl ?_; intro B7 w7 bB7 cB7 XB7 LB7 RB7; have z3 := XB7.size; replace E := E.trans XB7; replace NA := NA.ext XB7; replace NB := NB.ext XB7) | (clear TB8; refine allocsV rfl rfl ?_; intro B8 w8 bB8 cB8 XB8 LB8 RB8; have z4 := XB8.size; replace E := E.trans XB8; replace NA := NA.ext XB8; replace NB := NB.ext XB8; replace LB7 := LB7.ext XB8; replace RB7 := RB7.ext XB8) | (clear TG5; have hRl := (RB7).lt (Nat.zero_lt_succ _); refine storesV (B := B7) rfl rfl rfl (v := a) rfl RB7 Fa ?_; clear LB7; intro s5 G5 LB7 RQ; have z6 := G5.size; replace E := grown_ext E G5 (by omega); replace NA := NA.grown G5 (by first | omega | (dsimp only [New]; omega)); replace NB := NB.grown G5 (by first | omega | (dsimp only [New]; omega)); replace LB8 := LB8.grown G5 (by omega); replace RB8 := RB8.grown G5 (by omega); clear RB7; have RB7 := RQ; clear RQ hRl; clear RB7) | (clear TG7; have hRl := (RB8).lt (Nat.zero_lt_succ _); refine storesV (B := B8) rfl rfl rfl (v := b) rfl RB8 Fb ?_; clear LB8; intro s7 G7 LB8 RQ; have z8 := G7.size; replace E := grown_ext E G7 (by omega); replace NA := NA.grown G7 (by first | omega | (dsimp only [New]; omega)); replace NB := NB.grown G7 (by first | omega | (dsimp only [New]; omega)); replace LB7 := LB7.grown G7 (by omega); clear RB8; have RB8 := RQ; clear RQ hRl; clear RB8))
  refine (cm _).mono ?_
  rintro e w31 ⟨p, rfl, hq, x⟩
  have NP := hq.bs.now
  clear hq
  have z9 := x.size
  replace E := E.trans x
  replace NA := NA.ext x
  replace NB := NB.ext x
  replace LB7 := LB7.ext x
  replace LB8 := LB8.ext x
  clear x
  go_wp2_with fail
  refine (cbo p _ NP.is).mono ?_
  rintro e w32 ⟨d, rfl, hq, x⟩
  have ND := hq _ NP
  have Fd := ND.is.flat
  clear hq
  have z10 := x.size
  replace E := E.trans x
  replace NA := NA.ext x
  replace NB := NB.ext x
  replace LB7 := LB7.ext x
  replace LB8 := LB8.ext x
  replace NP := NP.ext x
  clear x
  have TB9 : True := trivial
  have TG12 : True := trivial
  go_wp2_with (first | (clear TB9; refine allocsV rfl rfl ?_; intro B9 w9 bB9 cB9 XB9 LB9 RB9; have z11 := XB9.size; replace E := E.trans XB9; replace NA := NA.ext XB9; replace NB := NB.ext XB9; replace LB7 := LB7.ext XB9; replace LB8 := LB8.ext XB9; replace NP := NP.ext XB9; replace ND := ND.ext XB9) | (clear TG12; have hRl := (RB9).lt (Nat.zero_lt_succ _); refine storesV (B := B9) rfl rfl rfl (v := d) rfl RB9 Fd ?_; clear LB9; intro s12 G12 LB9 RQ; have z13 := G12.size; replace E := grown_ext E G12 (by omega); replace NA := NA.grown G12 (by first | omega | (dsimp only [New]; omega)); replace NB := NB.grown G12 (by first | omega | (dsimp only [New]; omega)); replace LB7 := LB7.grown G12 (by omega); replace LB8 := LB8.grown G12 (by omega); replace NP := NP.grown G12 (by first | omega | (dsimp only [New]; omega)); replace ND := ND.grown G12 (by first | omega | (dsimp only [New]; omega)); clear RB9; have RB9 := RQ; clear RQ hRl; clear RB9) | (refine loadsV (B := B7) (by rfl) rfl rfl LB7 ?_) | (refine loadsV (B := B9) (by rfl) rfl rfl LB9 ?_))
  clear LB9
  refine (cap a d _ NA.is ND.is).mono ?_
  rintro e w37 ⟨rfl, x⟩
  have z14 := x.size
  replace E := E.trans x
  replace NA := NA.ext x
  replace NB := NB.ext x
  replace LB7 := LB7.ext x
  replace LB8 := LB8.ext x
  replace NP := NP.ext x
  replace ND := ND.ext x
  clear x
  have TB10 : True := trivial
  have TG16 : True := trivial
  go_wp2_with (first | (clear TB10; refine allocsV rfl rfl ?_; intro B10 w10 bB10 cB10 XB10 LB10 RB10; have z15 := XB10.size; replace E := E.trans XB10; replace NA := NA.ext XB10; replace NB := NB.ext XB10; replace LB7 := LB7.ext XB10; replace LB8 := LB8.ext XB10; replace NP := NP.ext XB10; replace ND := ND.ext XB10; clear LB10) | (clear TG16; have hRl := (RB10).lt (Nat.zero_lt_succ _); refine storesV (B := B10) rfl rfl rfl (v := z) rfl RB10 hZ ?_; intro s16 G16 LB10 RQ; have z17 := G16.size; replace E := grown_ext E G16 (by omega); replace NA := NA.grown G16 (by first | omega | (dsimp only [New]; omega)); replace NB := NB.grown G16 (by first | omega | (dsimp only [New]; omega)); replace LB7 := LB7.grown G16 (by omega); replace LB8 := LB8.grown G16 (by omega); replace NP := NP.grown G16 (by first | omega | (dsimp only [New]; omega)); replace ND := ND.grown G16 (by first | omega | (dsimp only [New]; omega)); clear RB10; have RB10 := RQ; clear RQ hRl; clear LB10 RB10) | (refine loadsV (B := B8) (by rfl) rfl rfl LB8 ?_))
  refine (cab b _ NB.is).mono ?_
  rintro e w44 ⟨rfl, x⟩
  have z18 := x.size
  replace E := E.trans x
  replace NA := NA.ext x
  replace NB := NB.ext x
  replace LB7 := LB7.ext x
  replace LB8 := LB8.ext x
  replace NP := NP.ext x
  replace ND := ND.ext x
  clear x
  have TB12 : True := trivial
  have TG20 : True := trivial
  go_wp2_with (first | (clear TB12; refine allocsV rfl rfl ?_; intro B12 w12 bB12 cB12 XB12 LB12 RB12; have z19 := XB12.size; replace E := E.trans XB12; replace NA := NA.ext XB12; replace NB := NB.ext XB12; replace LB7 := LB7.ext XB12; replace LB8 := LB8.ext XB12; replace NP := NP.ext XB12; replace ND := ND.ext XB12; clear LB12) | (clear TG20; have hRl := (RB12).lt (Nat.zero_lt_succ _); refine storesV (B := B12) rfl rfl rfl (v := z) rfl RB12 hZ ?_; intro s20 G20 LB12 RQ; have z21 := G20.size; replace E := grown_ext E G20 (by omega); replace NA := NA.grown G20 (by first | omega | (dsimp only [New]; omega)); replace NB := NB.grown G20 (by first | omega | (dsimp only [New]; omega)); replace LB7 := LB7.grown G20 (by omega); replace LB8 := LB8.grown G20 (by omega); replace NP := NP.grown G20 (by first | omega | (dsimp only [New]; omega)); replace ND := ND.grown G20 (by first | omega | (dsimp only [New]; omega)); clear RB12; have RB12 := RQ; clear RQ hRl; clear LB12 RB12) | (refine loadsV (B := B7) (by rfl) rfl rfl LB7 ?_))
  clear LB7
  refine (ctc a _ NA.is).mono ?_
  rintro e w49 ⟨rfl, x⟩
  have z22 := x.size
  replace E := E.trans x
  replace NA := NA.ext x
  replace NB := NB.ext x
  replace LB8 := LB8.ext x
  replace NP := NP.ext x
  replace ND := ND.ext x
  clear x
  have TB14 : True := trivial
  have TG24 : True := trivial
  go_wp2_with (first | (clear TB14; refine allocsB rfl rfl ?_; intro B14 w14 bB14 cB14 XB14 LB14 RB14; have z23 := XB14.size; replace E := E.trans XB14; replace NA := NA.ext XB14; replace NB := NB.ext XB14; replace LB8 := LB8.ext XB14; replace NP := NP.ext XB14; replace ND := ND.ext XB14; clear LB14) | (clear TG24; have hRl := (RB14).lt (Nat.zero_lt_succ _); refine storesB (B := B14) rfl rfl rfl (v := zeroBits) rfl RB14 zeroBits_flat ?_; intro s24 G24 LB14 RQ; have z25 := G24.size; replace E := grown_ext E G24 (by omega); replace NA := NA.grown G24 (by first | omega | (dsimp only [New]; omega)); replace NB := NB.grown G24 (by first | omega | (dsimp only [New]; omega)); replace LB8 := LB8.grown G24 (by omega); replace NP := NP.grown G24 (by first | omega | (dsimp only [New]; omega)); replace ND := ND.grown G24 (by first | omega | (dsimp only [New]; omega)); clear RB14; have RB14 := RQ; clear RQ hRl; clear LB14 RB14) | (refine loadsV (B := B8) (by rfl) rfl rfl LB8 ?_))
  clear LB8
  refine (ctb b _ NB.is).mono ?_
  rintro e w54 ⟨rfl, x⟩
  have z26 := x.size
  replace E := E.trans x
  replace NA := NA.ext x
  replace NB := NB.ext x
  replace NP := NP.ext x
  replace ND := ND.ext x
  clear x
  have TB16 : True := trivial
  have TG28 : True := trivial
  go_wp2_with (first | (clear TB16; refine allocsB rfl rfl ?_; intro B16 w16 bB16 cB16 XB16 LB16 RB16; have z27 := XB16.size; replace E := E.trans XB16; replace NA := NA.ext XB16; replace NB := NB.ext XB16; replace NP := NP.ext XB16; replace ND := ND.ext XB16; clear LB16) | (clear TG28; have hRl := (RB16).lt (Nat.zero_lt_succ _); refine storesB (B := B16) rfl rfl rfl (v := zeroBits) rfl RB16 zeroBits_flat ?_; intro s28 G28 LB16 RQ; have z29 := G28.size; replace E := grown_ext E G28 (by omega); replace NA := NA.grown G28 (by first | omega | (dsimp only [New]; omega)); replace NB := NB.grown G28 (by first | omega | (dsimp only [New]; omega)); replace NP := NP.grown G28 (by first | omega | (dsimp only [New]; omega)); replace ND := ND.grown G28 (by first | omega | (dsimp only [New]; omega)); clear RB16; have RB16 := RQ; clear RQ hRl; clear LB16 RB16))
  refine (ctz _).mono ?_
  rintro e w59 ⟨rfl, x⟩
  have z30 := x.size
  replace E := E.trans x
  replace NA := NA.ext x
  replace NB := NB.ext x
  replace NP := NP.ext x
  replace ND := ND.ext x
  clear x
  have TB18 : True := trivial
  have TG32 : True := trivial
  go_wp2_with (first | (clear TB18; refine allocsB rfl rfl ?_; intro B18 w18 bB18 cB18 XB18 LB18 RB18; have z31 := XB18.size; replace E := E.trans XB18; replace NA := NA.ext XB18; replace NB := NB.ext XB18; replace NP := NP.ext XB18; replace ND := ND.ext XB18; clear LB18) | (clear TG32; have hRl := (RB18).lt (Nat.zero_lt_succ _); refine storesB (B := B18) rfl rfl rfl (v := zeroBits) rfl RB18 zeroBits_flat ?_; intro s32 G32 LB18 RQ; have z33 := G32.size; replace E := grown_ext E G32 (by omega); replace NA := NA.grown G32 (by first | omega | (dsimp only [New]; omega)); replace NB := NB.grown G32 (by first | omega | (dsimp only [New]; omega)); replace NP := NP.grown G32 (by first | omega | (dsimp only [New]; omega)); replace ND := ND.grown G32 (by first | omega | (dsimp only [New]; omega)); clear RB18; have RB18 := RQ; clear RQ hRl; clear LB18 RB18))
  refine (lawake_any _).mono ?_
  rintro e w126 ⟨rfl, x⟩
  have z34 := x.size
  replace E := E.trans x
  replace NA := NA.ext x
  replace NB := NB.ext x
  replace NP := NP.ext x
  replace ND := ND.ext x
  clear x
  go_wp2_with fail
  go_ret
  exact ⟨rfl, E⟩
theorem logicOthers_g (hn : n = l.length) (h3 : n ≤ 200) (hs : Sl w 1 A n (i32s l)) (N : Nat) (hN : r.tmod 5 = (N : Int)) (hN5 : N < 5) (h : ¬ f < 21) (h2 : ¬ 24 < f) (_ : n ≠ N) (hle1 : n ≠ 1) (hle2 : N = 1) : Calls Try.prog 8 #[.int .i64 f, .slice A n c, .int .u8 r] w fun e w' => e = .returned (.bool true) ∧ Ext w w' := by
  have cc := fun w hs => chars_v A l n hn c w (by omega) hs
  have cbx := fun w => boxes_s none [] 0 0 (by intro u hu; cases hu) w (by omega) ⟨rfl, fun h => absurd h (by decide)⟩
  have cm := fun w => make_bool N true (by omega) w
  unfold MakeP at cm
  have cbo := fun v w h => VecS.bits_of v (List.replicate N true) w h
  have cap : ∀ v u w, IsVec w v (VD.chars l) → IsVec w u (VD.bits (List.replicate N true)) → Calls Try.prog 34 #[.int .i64 f, v, u] w fun e w' => e = .returned (.tuple #[zeroVec, .int .i64 (appO f n N)]) ∧ Ext w w' := fun v u w hv hu =>
    apply_o f v u _ (.inl rfl) n N (hn ▸ rfl) _ (by show (List.replicate N true).length = N; simp) w hv hu _ fun w' h => (truths_u u 1 _ w' ⟨_, hu.ext h, rfl, by omega, by omega, rfl⟩).mono fun e w2 => by
      rintro ⟨q, rfl, hq, hx⟩
      exact ⟨q, rfl, (hq _ (NumS.all ⟨_, hu.ext h, rfl, by omega, by omega, rfl⟩)).is.flat, hx⟩
  have cab : ∀ v w, IsVec w v (VD.boxes []) → Calls Try.prog 34 #[.int .i64 f, v, v] w fun e w' => e = .returned (.tuple #[zeroVec, .int .i64 (appO f 0 0)]) ∧ Ext w w' := fun v w hv =>
    apply_o f v v _ (.inr rfl) 0 0 rfl _ rfl w hv hv _ fun w' h => (truths_other v _ (.inr rfl) w' (hv.ext h)).mono fun e w2 => by
      rintro ⟨rfl, hx⟩
      exact ⟨_, rfl, zeroBits_flat, hx⟩
  have ctc := fun v w h => truths_other v (VD.chars l) (.inl rfl) w h
  have ctb := fun v w h => truths_other v (VD.boxes []) (.inr rfl) w h
  have ctz := fun w => truths_none zeroVec rfl w
  have HS := Lib.hid hs
  have hok : okL f = true := decide_eq_true (by omega)
  have hlo : lenOk (n : Int) (N : Int) = true := by simp [lenOk]; omega
  have e95 : ((n : Int) != (N : Int)) = true := by simp; omega
  have e99 : ((n : Int) != 1) = true := by simp; omega
  have e104 : ((N : Int) != 1) = false := by simp; omega
  rw [show appO f n N = 24 by unfold appO; rw [if_neg (by rw [hok]; decide), hlo, if_neg (by decide)]] at cap
  rw [show appO f 0 0 = 24 by unfold appO; rw [if_neg (by rw [hok]; decide), if_neg (by decide)]] at cab
  obtain ⟨z, hz⟩ : ∃ z, zeroVec = z := ⟨_, rfl⟩
  have hZ := zeroVec_flat
  rw [hz] at cap cab hZ
  clear hs hn hz hok hlo hle1 hle2
  generalize VD.chars l = dc at *
  generalize VD.boxes [] = db at *
  generalize List.replicate N true = rt at *
  generalize VD.bits rt = dt at *
  have hW : wrap64 (N : Int) = (N : Int) := wrap5 N hN5
  have E := Ext.refl w
  go_enter Try.func8, Try.ntmps8
  go_wp2_with fail
  refine (cc _ (HS.out.ext E)).mono ?_
  rintro e w26 ⟨a, rfl, hq, x⟩
  have NA := hq.now
  have Fa := NA.is.flat
  clear hq
  have z1 := x.size
  replace E := E.trans x
  clear x
  go_wp2_with fail
  refine (cbx _).mono ?_
  rintro e w27 ⟨b, rfl, hq, x⟩
  have NB := hq.now
  have Fb := NB.is.flat
  clear hq
  have z2 := x.size
  replace E := E.trans x
  replace NA := NA.ext x
  clear x
  have TB7 : True := trivial
  have TB8 : True := trivial
  have TG5 : True := trivial
  have TG7 : True := trivial
  go_wp2_with (first | (clear TB7; refine allocsV rfl rfl ?_; intro B7 w7 bB7 cB7 XB7 LB7 RB7; have z3 := XB7.size; replace E := E.trans XB7; replace NA := NA.ext XB7; replace NB := NB.ext XB7) | (clear TB8; refine allocsV rfl rfl ?_; intro B8 w8 bB8 cB8 XB8 LB8 RB8; have z4 := XB8.size; replace E := E.trans XB8; replace NA := NA.ext XB8; replace NB := NB.ext XB8; replace LB7 := LB7.ext XB8; replace RB7 := RB7.ext XB8) | (clear TG5; have hRl := (RB7).lt (Nat.zero_lt_succ _); refine storesV (B := B7) rfl rfl rfl (v := a) rfl RB7 Fa ?_; clear LB7; intro s5 G5 LB7 RQ; have z6 := G5.size; replace E := grown_ext E G5 (by omega); replace NA := NA.grown G5 (by first | omega | (dsimp only [New]; omega)); replace NB := NB.grown G5 (by first | omega | (dsimp only [New]; omega)); replace LB8 := LB8.grown G5 (by omega); replace RB8 := RB8.grown G5 (by omega); clear RB7; have RB7 := RQ; clear RQ hRl; clear RB7) | (clear TG7; have hRl := (RB8).lt (Nat.zero_lt_succ _); refine storesV (B := B8) rfl rfl rfl (v := b) rfl RB8 Fb ?_; clear LB8; intro s7 G7 LB8 RQ; have z8 := G7.size; replace E := grown_ext E G7 (by omega); replace NA := NA.grown G7 (by first | omega | (dsimp only [New]; omega)); replace NB := NB.grown G7 (by first | omega | (dsimp only [New]; omega)); replace LB7 := LB7.grown G7 (by omega); clear RB8; have RB8 := RQ; clear RQ hRl; clear RB8))
  refine (cm _).mono ?_
  rintro e w31 ⟨p, rfl, hq, x⟩
  have NP := hq.bs.now
  clear hq
  have z9 := x.size
  replace E := E.trans x
  replace NA := NA.ext x
  replace NB := NB.ext x
  replace LB7 := LB7.ext x
  replace LB8 := LB8.ext x
  clear x
  go_wp2_with fail
  refine (cbo p _ NP.is).mono ?_
  rintro e w32 ⟨d, rfl, hq, x⟩
  have ND := hq _ NP
  have Fd := ND.is.flat
  clear hq
  have z10 := x.size
  replace E := E.trans x
  replace NA := NA.ext x
  replace NB := NB.ext x
  replace LB7 := LB7.ext x
  replace LB8 := LB8.ext x
  replace NP := NP.ext x
  clear x
  have TB9 : True := trivial
  have TG12 : True := trivial
  go_wp2_with (first | (clear TB9; refine allocsV rfl rfl ?_; intro B9 w9 bB9 cB9 XB9 LB9 RB9; have z11 := XB9.size; replace E := E.trans XB9; replace NA := NA.ext XB9; replace NB := NB.ext XB9; replace LB7 := LB7.ext XB9; replace LB8 := LB8.ext XB9; replace NP := NP.ext XB9; replace ND := ND.ext XB9) | (clear TG12; have hRl := (RB9).lt (Nat.zero_lt_succ _); refine storesV (B := B9) rfl rfl rfl (v := d) rfl RB9 Fd ?_; clear LB9; intro s12 G12 LB9 RQ; have z13 := G12.size; replace E := grown_ext E G12 (by omega); replace NA := NA.grown G12 (by first | omega | (dsimp only [New]; omega)); replace NB := NB.grown G12 (by first | omega | (dsimp only [New]; omega)); replace LB7 := LB7.grown G12 (by omega); replace LB8 := LB8.grown G12 (by omega); replace NP := NP.grown G12 (by first | omega | (dsimp only [New]; omega)); replace ND := ND.grown G12 (by first | omega | (dsimp only [New]; omega)); clear RB9; have RB9 := RQ; clear RQ hRl; clear RB9) | (refine loadsV (B := B7) (by rfl) rfl rfl LB7 ?_) | (refine loadsV (B := B9) (by rfl) rfl rfl LB9 ?_))
  clear LB9
  refine (cap a d _ NA.is ND.is).mono ?_
  rintro e w37 ⟨rfl, x⟩
  have z14 := x.size
  replace E := E.trans x
  replace NA := NA.ext x
  replace NB := NB.ext x
  replace LB7 := LB7.ext x
  replace LB8 := LB8.ext x
  replace NP := NP.ext x
  replace ND := ND.ext x
  clear x
  have TB10 : True := trivial
  have TG16 : True := trivial
  go_wp2_with (first | (clear TB10; refine allocsV rfl rfl ?_; intro B10 w10 bB10 cB10 XB10 LB10 RB10; have z15 := XB10.size; replace E := E.trans XB10; replace NA := NA.ext XB10; replace NB := NB.ext XB10; replace LB7 := LB7.ext XB10; replace LB8 := LB8.ext XB10; replace NP := NP.ext XB10; replace ND := ND.ext XB10; clear LB10) | (clear TG16; have hRl := (RB10).lt (Nat.zero_lt_succ _); refine storesV (B := B10) rfl rfl rfl (v := z) rfl RB10 hZ ?_; intro s16 G16 LB10 RQ; have z17 := G16.size; replace E := grown_ext E G16 (by omega); replace NA := NA.grown G16 (by first | omega | (dsimp only [New]; omega)); replace NB := NB.grown G16 (by first | omega | (dsimp only [New]; omega)); replace LB7 := LB7.grown G16 (by omega); replace LB8 := LB8.grown G16 (by omega); replace NP := NP.grown G16 (by first | omega | (dsimp only [New]; omega)); replace ND := ND.grown G16 (by first | omega | (dsimp only [New]; omega)); clear RB10; have RB10 := RQ; clear RQ hRl; clear LB10 RB10) | (refine loadsV (B := B8) (by rfl) rfl rfl LB8 ?_))
  refine (cab b _ NB.is).mono ?_
  rintro e w44 ⟨rfl, x⟩
  have z18 := x.size
  replace E := E.trans x
  replace NA := NA.ext x
  replace NB := NB.ext x
  replace LB7 := LB7.ext x
  replace LB8 := LB8.ext x
  replace NP := NP.ext x
  replace ND := ND.ext x
  clear x
  have TB12 : True := trivial
  have TG20 : True := trivial
  go_wp2_with (first | (clear TB12; refine allocsV rfl rfl ?_; intro B12 w12 bB12 cB12 XB12 LB12 RB12; have z19 := XB12.size; replace E := E.trans XB12; replace NA := NA.ext XB12; replace NB := NB.ext XB12; replace LB7 := LB7.ext XB12; replace LB8 := LB8.ext XB12; replace NP := NP.ext XB12; replace ND := ND.ext XB12; clear LB12) | (clear TG20; have hRl := (RB12).lt (Nat.zero_lt_succ _); refine storesV (B := B12) rfl rfl rfl (v := z) rfl RB12 hZ ?_; intro s20 G20 LB12 RQ; have z21 := G20.size; replace E := grown_ext E G20 (by omega); replace NA := NA.grown G20 (by first | omega | (dsimp only [New]; omega)); replace NB := NB.grown G20 (by first | omega | (dsimp only [New]; omega)); replace LB7 := LB7.grown G20 (by omega); replace LB8 := LB8.grown G20 (by omega); replace NP := NP.grown G20 (by first | omega | (dsimp only [New]; omega)); replace ND := ND.grown G20 (by first | omega | (dsimp only [New]; omega)); clear RB12; have RB12 := RQ; clear RQ hRl; clear LB12 RB12) | (refine loadsV (B := B7) (by rfl) rfl rfl LB7 ?_))
  clear LB7
  refine (ctc a _ NA.is).mono ?_
  rintro e w49 ⟨rfl, x⟩
  have z22 := x.size
  replace E := E.trans x
  replace NA := NA.ext x
  replace NB := NB.ext x
  replace LB8 := LB8.ext x
  replace NP := NP.ext x
  replace ND := ND.ext x
  clear x
  have TB14 : True := trivial
  have TG24 : True := trivial
  go_wp2_with (first | (clear TB14; refine allocsB rfl rfl ?_; intro B14 w14 bB14 cB14 XB14 LB14 RB14; have z23 := XB14.size; replace E := E.trans XB14; replace NA := NA.ext XB14; replace NB := NB.ext XB14; replace LB8 := LB8.ext XB14; replace NP := NP.ext XB14; replace ND := ND.ext XB14; clear LB14) | (clear TG24; have hRl := (RB14).lt (Nat.zero_lt_succ _); refine storesB (B := B14) rfl rfl rfl (v := zeroBits) rfl RB14 zeroBits_flat ?_; intro s24 G24 LB14 RQ; have z25 := G24.size; replace E := grown_ext E G24 (by omega); replace NA := NA.grown G24 (by first | omega | (dsimp only [New]; omega)); replace NB := NB.grown G24 (by first | omega | (dsimp only [New]; omega)); replace LB8 := LB8.grown G24 (by omega); replace NP := NP.grown G24 (by first | omega | (dsimp only [New]; omega)); replace ND := ND.grown G24 (by first | omega | (dsimp only [New]; omega)); clear RB14; have RB14 := RQ; clear RQ hRl; clear LB14 RB14) | (refine loadsV (B := B8) (by rfl) rfl rfl LB8 ?_))
  clear LB8
  refine (ctb b _ NB.is).mono ?_
  rintro e w54 ⟨rfl, x⟩
  have z26 := x.size
  replace E := E.trans x
  replace NA := NA.ext x
  replace NB := NB.ext x
  replace NP := NP.ext x
  replace ND := ND.ext x
  clear x
  have TB16 : True := trivial
  have TG28 : True := trivial
  go_wp2_with (first | (clear TB16; refine allocsB rfl rfl ?_; intro B16 w16 bB16 cB16 XB16 LB16 RB16; have z27 := XB16.size; replace E := E.trans XB16; replace NA := NA.ext XB16; replace NB := NB.ext XB16; replace NP := NP.ext XB16; replace ND := ND.ext XB16; clear LB16) | (clear TG28; have hRl := (RB16).lt (Nat.zero_lt_succ _); refine storesB (B := B16) rfl rfl rfl (v := zeroBits) rfl RB16 zeroBits_flat ?_; intro s28 G28 LB16 RQ; have z29 := G28.size; replace E := grown_ext E G28 (by omega); replace NA := NA.grown G28 (by first | omega | (dsimp only [New]; omega)); replace NB := NB.grown G28 (by first | omega | (dsimp only [New]; omega)); replace NP := NP.grown G28 (by first | omega | (dsimp only [New]; omega)); replace ND := ND.grown G28 (by first | omega | (dsimp only [New]; omega)); clear RB16; have RB16 := RQ; clear RQ hRl; clear LB16 RB16))
  refine (ctz _).mono ?_
  rintro e w59 ⟨rfl, x⟩
  have z30 := x.size
  replace E := E.trans x
  replace NA := NA.ext x
  replace NB := NB.ext x
  replace NP := NP.ext x
  replace ND := ND.ext x
  clear x
  have TB18 : True := trivial
  have TG32 : True := trivial
  go_wp2_with (first | (clear TB18; refine allocsB rfl rfl ?_; intro B18 w18 bB18 cB18 XB18 LB18 RB18; have z31 := XB18.size; replace E := E.trans XB18; replace NA := NA.ext XB18; replace NB := NB.ext XB18; replace NP := NP.ext XB18; replace ND := ND.ext XB18; clear LB18) | (clear TG32; have hRl := (RB18).lt (Nat.zero_lt_succ _); refine storesB (B := B18) rfl rfl rfl (v := zeroBits) rfl RB18 zeroBits_flat ?_; intro s32 G32 LB18 RQ; have z33 := G32.size; replace E := grown_ext E G32 (by omega); replace NA := NA.grown G32 (by first | omega | (dsimp only [New]; omega)); replace NB := NB.grown G32 (by first | omega | (dsimp only [New]; omega)); replace NP := NP.grown G32 (by first | omega | (dsimp only [New]; omega)); replace ND := ND.grown G32 (by first | omega | (dsimp only [New]; omega)); clear RB18; have RB18 := RQ; clear RQ hRl; clear LB18 RB18))
  refine (lawake_any _).mono ?_
  rintro e w126 ⟨rfl, x⟩
  have z34 := x.size
  replace E := E.trans x
  replace NA := NA.ext x
  replace NB := NB.ext x
  replace NP := NP.ext x
  replace ND := ND.ext x
  clear x
  go_wp2_with fail
  go_ret
  exact ⟨rfl, E⟩
theorem logicOthers_h (hn : n = l.length) (h3 : n ≤ 200) (hs : Sl w 1 A n (i32s l)) (N : Nat) (hN : r.tmod 5 = (N : Int)) (hN5 : N < 5) (h : ¬ f < 21) (h2 : ¬ 24 < f) (hle : n ≠ N) (hle1 : n ≠ 1) (hle2 : N ≠ 1) : Calls Try.prog 8 #[.int .i64 f, .slice A n c, .int .u8 r] w fun e w' => e = .returned (.bool true) ∧ Ext w w' := by
  have cc := fun w hs => chars_v A l n hn c w (by omega) hs
  have cbx := fun w => boxes_s none [] 0 0 (by intro u hu; cases hu) w (by omega) ⟨rfl, fun h => absurd h (by decide)⟩
  have cm := fun w => make_bool N true (by omega) w
  unfold MakeP at cm
  have cbo := fun v w h => VecS.bits_of v (List.replicate N true) w h
  have cap : ∀ v u w, IsVec w v (VD.chars l) → IsVec w u (VD.bits (List.replicate N true)) → Calls Try.prog 34 #[.int .i64 f, v, u] w fun e w' => e = .returned (.tuple #[zeroVec, .int .i64 (appO f n N)]) ∧ Ext w w' := fun v u w hv hu =>
    apply_o f v u _ (.inl rfl) n N (hn ▸ rfl) _ (by show (List.replicate N true).length = N; simp) w hv hu _ fun w' h => (truths_u u 1 _ w' ⟨_, hu.ext h, rfl, by omega, by omega, rfl⟩).mono fun e w2 => by
      rintro ⟨q, rfl, hq, hx⟩
      exact ⟨q, rfl, (hq _ (NumS.all ⟨_, hu.ext h, rfl, by omega, by omega, rfl⟩)).is.flat, hx⟩
  have cab : ∀ v w, IsVec w v (VD.boxes []) → Calls Try.prog 34 #[.int .i64 f, v, v] w fun e w' => e = .returned (.tuple #[zeroVec, .int .i64 (appO f 0 0)]) ∧ Ext w w' := fun v w hv =>
    apply_o f v v _ (.inr rfl) 0 0 rfl _ rfl w hv hv _ fun w' h => (truths_other v _ (.inr rfl) w' (hv.ext h)).mono fun e w2 => by
      rintro ⟨rfl, hx⟩
      exact ⟨_, rfl, zeroBits_flat, hx⟩
  have ctc := fun v w h => truths_other v (VD.chars l) (.inl rfl) w h
  have ctb := fun v w h => truths_other v (VD.boxes []) (.inr rfl) w h
  have ctz := fun w => truths_none zeroVec rfl w
  have HS := Lib.hid hs
  have hok : okL f = true := decide_eq_true (by omega)
  have hlo : lenOk (n : Int) (N : Int) = false := by simp [lenOk]; omega
  have e95 : ((n : Int) != (N : Int)) = true := by simp; omega
  have e99 : ((n : Int) != 1) = true := by simp; omega
  have e104 : ((N : Int) != 1) = true := by simp; omega
  rw [show appO f n N = 23 by unfold appO; rw [if_neg (by rw [hok]; decide), hlo, if_pos rfl]] at cap
  rw [show appO f 0 0 = 24 by unfold appO; rw [if_neg (by rw [hok]; decide), if_neg (by decide)]] at cab
  obtain ⟨z, hz⟩ : ∃ z, zeroVec = z := ⟨_, rfl⟩
  have hZ := zeroVec_flat
  rw [hz] at cap cab hZ
  clear hs hn hz hok hlo hle hle1 hle2
  generalize VD.chars l = dc at *
  generalize VD.boxes [] = db at *
  generalize List.replicate N true = rt at *
  generalize VD.bits rt = dt at *
  have hW : wrap64 (N : Int) = (N : Int) := wrap5 N hN5
  have E := Ext.refl w
  go_enter Try.func8, Try.ntmps8
  go_wp2_with fail
  refine (cc _ (HS.out.ext E)).mono ?_
  rintro e w26 ⟨a, rfl, hq, x⟩
  have NA := hq.now
  have Fa := NA.is.flat
  clear hq
  have z1 := x.size
  replace E := E.trans x
  clear x
  go_wp2_with fail
  refine (cbx _).mono ?_
  rintro e w27 ⟨b, rfl, hq, x⟩
  have NB := hq.now
  have Fb := NB.is.flat
  clear hq
  have z2 := x.size
  replace E := E.trans x
  replace NA := NA.ext x
  clear x
  have TB7 : True := trivial
  have TB8 : True := trivial
  have TG5 : True := trivial
  have TG7 : True := trivial
  go_wp2_with (first | (clear TB7; refine allocsV rfl rfl ?_; intro B7 w7 bB7 cB7 XB7 LB7 RB7; have z3 := XB7.size; replace E := E.trans XB7; replace NA := NA.ext XB7; replace NB := NB.ext XB7) | (clear TB8; refine allocsV rfl rfl ?_; intro B8 w8 bB8 cB8 XB8 LB8 RB8; have z4 := XB8.size; replace E := E.trans XB8; replace NA := NA.ext XB8; replace NB := NB.ext XB8; replace LB7 := LB7.ext XB8; replace RB7 := RB7.ext XB8) | (clear TG5; have hRl := (RB7).lt (Nat.zero_lt_succ _); refine storesV (B := B7) rfl rfl rfl (v := a) rfl RB7 Fa ?_; clear LB7; intro s5 G5 LB7 RQ; have z6 := G5.size; replace E := grown_ext E G5 (by omega); replace NA := NA.grown G5 (by first | omega | (dsimp only [New]; omega)); replace NB := NB.grown G5 (by first | omega | (dsimp only [New]; omega)); replace LB8 := LB8.grown G5 (by omega); replace RB8 := RB8.grown G5 (by omega); clear RB7; have RB7 := RQ; clear RQ hRl; clear RB7) | (clear TG7; have hRl := (RB8).lt (Nat.zero_lt_succ _); refine storesV (B := B8) rfl rfl rfl (v := b) rfl RB8 Fb ?_; clear LB8; intro s7 G7 LB8 RQ; have z8 := G7.size; replace E := grown_ext E G7 (by omega); replace NA := NA.grown G7 (by first | omega | (dsimp only [New]; omega)); replace NB := NB.grown G7 (by first | omega | (dsimp only [New]; omega)); replace LB7 := LB7.grown G7 (by omega); clear RB8; have RB8 := RQ; clear RQ hRl; clear RB8))
  refine (cm _).mono ?_
  rintro e w31 ⟨p, rfl, hq, x⟩
  have NP := hq.bs.now
  clear hq
  have z9 := x.size
  replace E := E.trans x
  replace NA := NA.ext x
  replace NB := NB.ext x
  replace LB7 := LB7.ext x
  replace LB8 := LB8.ext x
  clear x
  go_wp2_with fail
  refine (cbo p _ NP.is).mono ?_
  rintro e w32 ⟨d, rfl, hq, x⟩
  have ND := hq _ NP
  have Fd := ND.is.flat
  clear hq
  have z10 := x.size
  replace E := E.trans x
  replace NA := NA.ext x
  replace NB := NB.ext x
  replace LB7 := LB7.ext x
  replace LB8 := LB8.ext x
  replace NP := NP.ext x
  clear x
  have TB9 : True := trivial
  have TG12 : True := trivial
  go_wp2_with (first | (clear TB9; refine allocsV rfl rfl ?_; intro B9 w9 bB9 cB9 XB9 LB9 RB9; have z11 := XB9.size; replace E := E.trans XB9; replace NA := NA.ext XB9; replace NB := NB.ext XB9; replace LB7 := LB7.ext XB9; replace LB8 := LB8.ext XB9; replace NP := NP.ext XB9; replace ND := ND.ext XB9) | (clear TG12; have hRl := (RB9).lt (Nat.zero_lt_succ _); refine storesV (B := B9) rfl rfl rfl (v := d) rfl RB9 Fd ?_; clear LB9; intro s12 G12 LB9 RQ; have z13 := G12.size; replace E := grown_ext E G12 (by omega); replace NA := NA.grown G12 (by first | omega | (dsimp only [New]; omega)); replace NB := NB.grown G12 (by first | omega | (dsimp only [New]; omega)); replace LB7 := LB7.grown G12 (by omega); replace LB8 := LB8.grown G12 (by omega); replace NP := NP.grown G12 (by first | omega | (dsimp only [New]; omega)); replace ND := ND.grown G12 (by first | omega | (dsimp only [New]; omega)); clear RB9; have RB9 := RQ; clear RQ hRl; clear RB9) | (refine loadsV (B := B7) (by rfl) rfl rfl LB7 ?_) | (refine loadsV (B := B9) (by rfl) rfl rfl LB9 ?_))
  clear LB9
  refine (cap a d _ NA.is ND.is).mono ?_
  rintro e w37 ⟨rfl, x⟩
  have z14 := x.size
  replace E := E.trans x
  replace NA := NA.ext x
  replace NB := NB.ext x
  replace LB7 := LB7.ext x
  replace LB8 := LB8.ext x
  replace NP := NP.ext x
  replace ND := ND.ext x
  clear x
  have TB10 : True := trivial
  have TG16 : True := trivial
  go_wp2_with (first | (clear TB10; refine allocsV rfl rfl ?_; intro B10 w10 bB10 cB10 XB10 LB10 RB10; have z15 := XB10.size; replace E := E.trans XB10; replace NA := NA.ext XB10; replace NB := NB.ext XB10; replace LB7 := LB7.ext XB10; replace LB8 := LB8.ext XB10; replace NP := NP.ext XB10; replace ND := ND.ext XB10; clear LB10) | (clear TG16; have hRl := (RB10).lt (Nat.zero_lt_succ _); refine storesV (B := B10) rfl rfl rfl (v := z) rfl RB10 hZ ?_; intro s16 G16 LB10 RQ; have z17 := G16.size; replace E := grown_ext E G16 (by omega); replace NA := NA.grown G16 (by first | omega | (dsimp only [New]; omega)); replace NB := NB.grown G16 (by first | omega | (dsimp only [New]; omega)); replace LB7 := LB7.grown G16 (by omega); replace LB8 := LB8.grown G16 (by omega); replace NP := NP.grown G16 (by first | omega | (dsimp only [New]; omega)); replace ND := ND.grown G16 (by first | omega | (dsimp only [New]; omega)); clear RB10; have RB10 := RQ; clear RQ hRl; clear LB10 RB10) | (refine loadsV (B := B8) (by rfl) rfl rfl LB8 ?_))
  refine (cab b _ NB.is).mono ?_
  rintro e w44 ⟨rfl, x⟩
  have z18 := x.size
  replace E := E.trans x
  replace NA := NA.ext x
  replace NB := NB.ext x
  replace LB7 := LB7.ext x
  replace LB8 := LB8.ext x
  replace NP := NP.ext x
  replace ND := ND.ext x
  clear x
  have TB12 : True := trivial
  have TG20 : True := trivial
  go_wp2_with (first | (clear TB12; refine allocsV rfl rfl ?_; intro B12 w12 bB12 cB12 XB12 LB12 RB12; have z19 := XB12.size; replace E := E.trans XB12; replace NA := NA.ext XB12; replace NB := NB.ext XB12; replace LB7 := LB7.ext XB12; replace LB8 := LB8.ext XB12; replace NP := NP.ext XB12; replace ND := ND.ext XB12; clear LB12) | (clear TG20; have hRl := (RB12).lt (Nat.zero_lt_succ _); refine storesV (B := B12) rfl rfl rfl (v := z) rfl RB12 hZ ?_; intro s20 G20 LB12 RQ; have z21 := G20.size; replace E := grown_ext E G20 (by omega); replace NA := NA.grown G20 (by first | omega | (dsimp only [New]; omega)); replace NB := NB.grown G20 (by first | omega | (dsimp only [New]; omega)); replace LB7 := LB7.grown G20 (by omega); replace LB8 := LB8.grown G20 (by omega); replace NP := NP.grown G20 (by first | omega | (dsimp only [New]; omega)); replace ND := ND.grown G20 (by first | omega | (dsimp only [New]; omega)); clear RB12; have RB12 := RQ; clear RQ hRl; clear LB12 RB12) | (refine loadsV (B := B7) (by rfl) rfl rfl LB7 ?_))
  clear LB7
  refine (ctc a _ NA.is).mono ?_
  rintro e w49 ⟨rfl, x⟩
  have z22 := x.size
  replace E := E.trans x
  replace NA := NA.ext x
  replace NB := NB.ext x
  replace LB8 := LB8.ext x
  replace NP := NP.ext x
  replace ND := ND.ext x
  clear x
  have TB14 : True := trivial
  have TG24 : True := trivial
  go_wp2_with (first | (clear TB14; refine allocsB rfl rfl ?_; intro B14 w14 bB14 cB14 XB14 LB14 RB14; have z23 := XB14.size; replace E := E.trans XB14; replace NA := NA.ext XB14; replace NB := NB.ext XB14; replace LB8 := LB8.ext XB14; replace NP := NP.ext XB14; replace ND := ND.ext XB14; clear LB14) | (clear TG24; have hRl := (RB14).lt (Nat.zero_lt_succ _); refine storesB (B := B14) rfl rfl rfl (v := zeroBits) rfl RB14 zeroBits_flat ?_; intro s24 G24 LB14 RQ; have z25 := G24.size; replace E := grown_ext E G24 (by omega); replace NA := NA.grown G24 (by first | omega | (dsimp only [New]; omega)); replace NB := NB.grown G24 (by first | omega | (dsimp only [New]; omega)); replace LB8 := LB8.grown G24 (by omega); replace NP := NP.grown G24 (by first | omega | (dsimp only [New]; omega)); replace ND := ND.grown G24 (by first | omega | (dsimp only [New]; omega)); clear RB14; have RB14 := RQ; clear RQ hRl; clear LB14 RB14) | (refine loadsV (B := B8) (by rfl) rfl rfl LB8 ?_))
  clear LB8
  refine (ctb b _ NB.is).mono ?_
  rintro e w54 ⟨rfl, x⟩
  have z26 := x.size
  replace E := E.trans x
  replace NA := NA.ext x
  replace NB := NB.ext x
  replace NP := NP.ext x
  replace ND := ND.ext x
  clear x
  have TB16 : True := trivial
  have TG28 : True := trivial
  go_wp2_with (first | (clear TB16; refine allocsB rfl rfl ?_; intro B16 w16 bB16 cB16 XB16 LB16 RB16; have z27 := XB16.size; replace E := E.trans XB16; replace NA := NA.ext XB16; replace NB := NB.ext XB16; replace NP := NP.ext XB16; replace ND := ND.ext XB16; clear LB16) | (clear TG28; have hRl := (RB16).lt (Nat.zero_lt_succ _); refine storesB (B := B16) rfl rfl rfl (v := zeroBits) rfl RB16 zeroBits_flat ?_; intro s28 G28 LB16 RQ; have z29 := G28.size; replace E := grown_ext E G28 (by omega); replace NA := NA.grown G28 (by first | omega | (dsimp only [New]; omega)); replace NB := NB.grown G28 (by first | omega | (dsimp only [New]; omega)); replace NP := NP.grown G28 (by first | omega | (dsimp only [New]; omega)); replace ND := ND.grown G28 (by first | omega | (dsimp only [New]; omega)); clear RB16; have RB16 := RQ; clear RQ hRl; clear LB16 RB16))
  refine (ctz _).mono ?_
  rintro e w59 ⟨rfl, x⟩
  have z30 := x.size
  replace E := E.trans x
  replace NA := NA.ext x
  replace NB := NB.ext x
  replace NP := NP.ext x
  replace ND := ND.ext x
  clear x
  have TB18 : True := trivial
  have TG32 : True := trivial
  go_wp2_with (first | (clear TB18; refine allocsB rfl rfl ?_; intro B18 w18 bB18 cB18 XB18 LB18 RB18; have z31 := XB18.size; replace E := E.trans XB18; replace NA := NA.ext XB18; replace NB := NB.ext XB18; replace NP := NP.ext XB18; replace ND := ND.ext XB18; clear LB18) | (clear TG32; have hRl := (RB18).lt (Nat.zero_lt_succ _); refine storesB (B := B18) rfl rfl rfl (v := zeroBits) rfl RB18 zeroBits_flat ?_; intro s32 G32 LB18 RQ; have z33 := G32.size; replace E := grown_ext E G32 (by omega); replace NA := NA.grown G32 (by first | omega | (dsimp only [New]; omega)); replace NB := NB.grown G32 (by first | omega | (dsimp only [New]; omega)); replace NP := NP.grown G32 (by first | omega | (dsimp only [New]; omega)); replace ND := ND.grown G32 (by first | omega | (dsimp only [New]; omega)); clear RB18; have RB18 := RQ; clear RQ hRl; clear LB18 RB18))
  refine (lawake_any _).mono ?_
  rintro e w126 ⟨rfl, x⟩
  have z34 := x.size
  replace E := E.trans x
  replace NA := NA.ext x
  replace NB := NB.ext x
  replace NP := NP.ext x
  replace ND := ND.ext x
  clear x
  go_wp2_with fail
  go_ret
  exact ⟨rfl, E⟩
end
theorem logicOthers_walk (w : World) (f : Int) (_ : (Lit.int .i64 f).wf = true) (A : Option Addr) (l : List Int) (c : Nat) (_ : l.length ≤ c) (_ : c ≤ maxLen) (hs : Sl w 1 A l.length (l.map fun x => .int .i32 x)) (_ : ∀ x ∈ l, (Lit.int .i32 x).wf = true) (r : Int) (hr : (Lit.int .u8 r).wf = true) :
    Calls Try.prog 8 #[.int .i64 f, .slice A l.length c, .int .u8 r] w fun e w' => e = .returned (.bool true) ∧ Ext w w' := by
  by_cases h3 : l.length ≤ 200
  · have hr' : 0 ≤ r ∧ r < 256 := by
      simp [Lit.wf, IntKind.min, IntKind.max, IntKind.signed, IntKind.bits] at hr
      omega
    obtain ⟨N, hN, hN5⟩ : ∃ N : Nat, r.tmod 5 = (N : Int) ∧ N < 5 := ⟨(r.tmod 5).toNat, by rw [Int.tmod_eq_emod_of_nonneg hr'.1]; omega, by rw [Int.tmod_eq_emod_of_nonneg hr'.1]; omega⟩
    by_cases h1 : f < 21
    · exact logicOthers_b1 w f A l l.length c r rfl h3 hs N hN hN5 h1
    · by_cases h2 : 24 < f
      · exact logicOthers_b2 w f A l l.length c r rfl h3 hs N hN hN5 h1 h2
      · by_cases e1 : l.length = N
        · exact logicOthers_e w f A l l.length c r rfl h3 hs N hN hN5 h1 h2 e1
        · by_cases e2 : l.length = 1
          · exact logicOthers_f w f A l l.length c r rfl h3 hs N hN hN5 h1 h2 e1 e2
          · by_cases e3 : N = 1
            · exact logicOthers_g w f A l l.length c r rfl h3 hs N hN hN5 h1 h2 e1 e2 e3
            · exact logicOthers_h w f A l l.length c r rfl h3 hs N hN hN5 h1 h2 e1 e2 e3
  · exact logicOthers_long w f A l.length c r (by omega)
end Go.Proofs.Ytdfhefnjoekgbaa
