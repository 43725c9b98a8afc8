/- ArithOthers. -/
import Derived.Test.YtidnikndjhfgaaaSf
import Derived.Test.YtidnikndjhfgaaaQo
namespace Go.Proofs.Ytidnikndjhfgaaa
open Go.ChangeShapes Go.WideShapes Go.RowKit Bv Fl
set_option maxHeartbeats 2000000
set_option maxRecDepth 100000
def arO (f : Int) (m n : Nat) : Int := if f < 1 ∨ 8 < f then 1 else if lenOk (m : Int) (n : Int) = false then 23 else 24
theorem lenOk_comm (m n : Int) : lenOk m n = lenOk n m := by
  simp only [lenOk]; rw [Bool.eq_iff_iff]; simp; omega
/-- nobody reckons with characters -/
theorem ar_o (f : Int) (v u : Value) (d : VD) (ho : Other d) (d' : VD) (w : World) (hv : IsVec w v d) (hu : IsVec w u d') : Calls Try.prog 38 #[.int .i64 f, v, u] w fun e w' => e = .returned (.tuple #[zeroVec, .int .i64 (arO f d.len d'.len)]) ∧ Ext w w' := by
  have hF := hv.flat
  have hG := hu.flat
  have ca : ∀ w', Ext w w' → Calls Try.prog 47 #[v] w' fun e w2 => e = .returned (.int .i64 (d.len : Int)) ∧ Ext w' w2 := fun w' h => vlen_any v d w' (hv.ext h)
  have cb : ∀ w', Ext w w' → Calls Try.prog 47 #[u] w' fun e w2 => e = .returned (.int .i64 (d'.len : Int)) ∧ Ext w' w2 := fun w' h => vlen_any u d' w' (hu.ext h)
  unfold arO
  by_cases h1 : f < 1
  · rw [if_pos (.inl h1)]; exact ar_bad1 f v u w h1 hF hG
  by_cases h2 : 8 < f
  · rw [if_pos (.inr h2)]; exact ar_bad2 f v u w h1 h2 hF hG
  rw [if_neg (by omega)]
  cases hle : lenOk (d.len : Int) (d'.len : Int)
  · rw [if_pos rfl]; exact ar_len f v u w (by omega) _ _ ca cb hle hF hG
  · rw [if_neg (by decide)]
    exact ar_cls1 f v u w (by omega) _ _ ca cb hle _ (fun w' h => vclass_any v d w' (hv.ext h)) ho.cls hF hG
theorem ar_o2 (f : Int) (v u : Value) (d : VD) (ho : Other d) (d' : VD) (hd : (d'.cls : Int) = 0) (w : World) (hv : IsVec w v d) (hu : IsVec w u d') : Calls Try.prog 38 #[.int .i64 f, u, v] w fun e w' => e = .returned (.tuple #[zeroVec, .int .i64 (arO f d.len d'.len)]) ∧ Ext w w' := by
  have hF := hv.flat
  have hG := hu.flat
  have ca : ∀ w', Ext w w' → Calls Try.prog 47 #[v] w' fun e w2 => e = .returned (.int .i64 (d.len : Int)) ∧ Ext w' w2 := fun w' h => vlen_any v d w' (hv.ext h)
  have cb : ∀ w', Ext w w' → Calls Try.prog 47 #[u] w' fun e w2 => e = .returned (.int .i64 (d'.len : Int)) ∧ Ext w' w2 := fun w' h => vlen_any u d' w' (hu.ext h)
  unfold arO
  by_cases h1 : f < 1
  · rw [if_pos (.inl h1)]; exact ar_bad1 f u v w h1 hG hF
  by_cases h2 : 8 < f
  · rw [if_pos (.inr h2)]; exact ar_bad2 f u v w h1 h2 hG hF
  rw [if_neg (by omega), lenOk_comm]
  cases hle : lenOk (d'.len : Int) (d.len : Int)
  · rw [if_pos rfl]; exact ar_len f u v w (by omega) _ _ cb ca hle hG hF
  · rw [if_neg (by decide)]
    exact ar_cls2 f u v w (by omega) _ _ cb ca hle _ (fun w' h => vclass_any u d' w' (hu.ext h)) (by rw [hd]; rfl) _ (fun w' h => vclass_any v d w' (hv.ext h)) ho.cls hG hF
theorem chars_v (A : Option Addr) (l : List Int) (n : Nat) (hn : n = l.length) (c : Nat) (w : World) (hl : n ≤ 1048576) (hs : Sl w 1 A n (i32s l)) : Calls Try.prog 44 #[.slice A n c] w fun e w' => ∃ v, e = .returned v ∧ VecS w' v (VD.chars l) (New w.heap.size) ∧ Ext w w' := by
  refine (chars_s A l n hn c w hl hs).mono ?_
  rintro e w' ⟨B, cb, rfl, h1, hx⟩
  exact ⟨_, rfl, h1, hx⟩
section
variable (w : World) (f : Int) (A : Option Addr) (l : List Int) (n : Nat) (c : Nat) (B : Option Addr) (b : List Nat) (m : Nat) (c' : Nat)
theorem arithOthers_long1 (h : 200 < n) : Calls Try.prog 10 #[.int .i64 f, .slice A n c, .slice B m c'] w fun e w' => e = .returned (.bool true) ∧ Ext w w' := by
  have E := Ext.refl w
  go_enter Try.func10, Try.ntmps10
  go_wp2_with fail
  refine (aawake_any _).mono ?_
  rintro e w23 ⟨rfl, x⟩
  have z1 := x.size
  replace E := E.trans x
  clear x
  go_wp2_with fail
  go_ret
  exact ⟨rfl, E⟩
theorem arithOthers_long2 (h : n ≤ 200) (h2 : 200 < m) : Calls Try.prog 10 #[.int .i64 f, .slice A n c, .slice B m c'] w fun e w' => e = .returned (.bool true) ∧ Ext w w' := by
  have E := Ext.refl w
  go_enter Try.func10, Try.ntmps10
  go_wp2_with fail
  refine (aawake_any _).mono ?_
  rintro e w23 ⟨rfl, x⟩
  have z1 := x.size
  replace E := E.trans x
  clear x
  go_wp2_with fail
  go_ret
  exact ⟨rfl, E⟩
theorem arithOthers_no (hm : m = b.length) (h3 : n ≤ 200) (h4 : m ≤ 200) (hs' : Sl w 1 B m (f64s b)) (hfb : allF b = false) : Calls Try.prog 10 #[.int .i64 f, .slice A n c, .slice B m c'] w fun e w' => e = .returned (.bool true) ∧ Ext w w' := by
  have E := Ext.refl w
  have ck := fun w hs => kept_no B b m hm c' w (by omega) 4 hfb hs
  have HS' := Lib.hid hs'
  clear hs' hm hfb
  go_enter Try.func10, Try.ntmps10
  go_wp2_with fail
  refine (ck _ (HS'.out.ext E)).mono ?_
  rintro e w26 ⟨v, rfl, Fv, x⟩
  have z1 := x.size
  replace E := E.trans x
  clear x
  have TB7 : True := trivial
  have TG3 : True := trivial
  go_wp2_with (first | (clear TB7; refine allocsV rfl rfl ?_; intro B7 w7 bB7 cB7 XB7 LB7 RB7; have z2 := XB7.size; replace E := E.trans XB7; clear LB7) | (clear TG3; have hRl := (RB7).lt (Nat.zero_lt_succ _); refine storesV (B := B7) rfl rfl rfl (v := v) rfl RB7 Fv ?_; intro s3 G3 LB7 RQ; have z4 := G3.size; replace E := grown_ext E G3 (by omega); clear RB7; have RB7 := RQ; clear RQ hRl; clear LB7 RB7))
  refine (aawake_any _).mono ?_
  rintro e w31 ⟨rfl, x⟩
  have z5 := x.size
  replace E := E.trans x
  clear x
  go_wp2_with fail
  go_ret
  exact ⟨rfl, E⟩
theorem arithOthers_y1 (hn : n = l.length) (hm : m = b.length) (hwb : ∀ x ∈ b, x < 18446744073709551616) (h3 : n ≤ 200) (h4 : m ≤ 200) (hs : Sl w 1 A n (i32s l)) (hs' : Sl w 1 B m (f64s b)) (hfb : allF b = true) (hle : lenOk (n : Int) (m : Int) = true) (hf : f < 1) : Calls Try.prog 10 #[.int .i64 f, .slice A n c, .slice B m c'] w fun e w' => e = .returned (.bool true) ∧ Ext w w' := by
  have ck := fun w hs => kept_yes B b m hm c' w (by omega) 4 hwb hfb hs
  have cc := fun w hs => chars_v A l n hn c w (by omega) hs
  have lb : (dnL b).length = m := by rw [dnL_length]; exact hm.symm
  have cp : ∀ v u K w, IsVec w v (VD.chars l) → IsNum w u K (dnL b) → Calls Try.prog 38 #[.int .i64 f, v, u] w fun e w' => e = .returned (.tuple #[zeroVec, .int .i64 (arO f n m)]) ∧ Ext w w' := fun v u K w hv hu => by
    obtain ⟨d, hd, _, _, _, hl⟩ := hu
    have h := ar_o f v u _ (.inl rfl) d w hv hd
    rwa [show (VD.chars l).len = n from hn.symm, show d.len = m by rw [← VD.nums_length, hl, lb]] at h
  have cq : ∀ v u K w, IsVec w v (VD.chars l) → IsNum w u K (dnL b) → Calls Try.prog 38 #[.int .i64 f, u, v] w fun e w' => e = .returned (.tuple #[zeroVec, .int .i64 (arO f n m)]) ∧ Ext w w' := fun v u K w hv hu => by
    obtain ⟨d, hd, hk, _, h4, hl⟩ := hu
    have h := ar_o2 f v u _ (.inl rfl) d (by rw [VD.cls_num (by omega)]; rfl) w hv hd
    rwa [show (VD.chars l).len = n from hn.symm, show d.len = m by rw [← VD.nums_length, hl, lb]] at h
  have cr : ∀ w, Calls Try.prog 30 #[.int .i64 (n : Int), .int .i64 (m : Int)] w fun e w' => e = .returned (.int .i64 (rlenV n m)) ∧ Ext w w' := fun w => (rlength_any (n : Int) (m : Int) w).mono fun e w2 h => ⟨h.1, h.2 ▸ Ext.refl _⟩
  have h0 : (0 : Int) ≤ lenV (n : Int) (m : Int) := by unfold lenV; repeat (first | split | omega)
  rw [rlen_ok hle] at cr
  rw [show arO f n m = 1 by unfold arO; rw [if_pos (.inl hf)]] at cp cq
  obtain ⟨z, hz⟩ : ∃ z, zeroVec = z := ⟨_, rfl⟩
  have hZ := zeroVec_flat
  rw [hz] at cp cq hZ
  have kz := fun w => kind_zero z hz w
  have HS := Lib.hid hs
  have HS' := Lib.hid hs'
  clear hs hs' hn hm hwb hfb hz lb hle
  generalize VD.chars l = dc at *
  generalize dnL b = X at *
  generalize lenV (n : Int) (m : Int) = lv at *
  have E := Ext.refl w
  go_enter Try.func10, Try.ntmps10
  go_wp2_with fail
  refine (ck _ (HS'.out.ext E)).mono ?_
  rintro e w26 ⟨v, kv, rfl, hq, x⟩
  have NV := hq.now
  have Fv := NV.is.flat
  clear hq
  have z1 := x.size
  replace E := E.trans x
  clear x
  have TB7 : True := trivial
  have TG3 : True := trivial
  go_wp2_with (first | (clear TB7; refine allocsV rfl rfl ?_; intro B7 w7 bB7 cB7 XB7 LB7 RB7; have z2 := XB7.size; replace E := E.trans XB7; replace NV := NV.ext XB7) | (clear TG3; have hRl := (RB7).lt (Nat.zero_lt_succ _); refine storesV (B := B7) rfl rfl rfl (v := v) rfl RB7 Fv ?_; clear LB7; intro s3 G3 LB7 RQ; have z4 := G3.size; replace E := grown_ext E G3 (by omega); replace NV := NV.grown G3 (by first | omega | (dsimp only [New]; omega)); clear RB7; have RB7 := RQ; clear RQ hRl; clear RB7))
  refine (cc _ (HS.out.ext E)).mono ?_
  rintro e w33 ⟨a, rfl, hq, x⟩
  have NA := hq.now
  have Fa := NA.is.flat
  clear hq
  have z5 := x.size
  replace E := E.trans x
  replace NV := NV.ext x
  replace LB7 := LB7.ext x
  clear x
  have TB9 : True := trivial
  have TG7 : True := trivial
  go_wp2_with (first | (clear TB9; refine allocsV rfl rfl ?_; intro B9 w9 bB9 cB9 XB9 LB9 RB9; have z6 := XB9.size; replace E := E.trans XB9; replace NV := NV.ext XB9; replace LB7 := LB7.ext XB9; replace NA := NA.ext XB9) | (clear TG7; have hRl := (RB9).lt (Nat.zero_lt_succ _); refine storesV (B := B9) rfl rfl rfl (v := a) rfl RB9 Fa ?_; clear LB9; intro s7 G7 LB9 RQ; have z8 := G7.size; replace E := grown_ext E G7 (by omega); replace NV := NV.grown G7 (by first | omega | (dsimp only [New]; omega)); replace LB7 := LB7.grown G7 (by omega); replace NA := NA.grown G7 (by first | omega | (dsimp only [New]; omega)); clear RB9; have RB9 := RQ; clear RQ hRl; clear RB9) | (refine loadsV (B := B9) (by rfl) rfl rfl LB9 ?_) | (refine loadsV (B := B7) (by rfl) rfl rfl LB7 ?_))
  refine (cp a v _ _ NA.is NV.is).mono ?_
  rintro e w38 ⟨rfl, x⟩
  have z9 := x.size
  replace E := E.trans x
  replace NV := NV.ext x
  replace LB7 := LB7.ext x
  replace NA := NA.ext x
  replace LB9 := LB9.ext x
  clear x
  have TB10 : True := trivial
  have TG11 : True := trivial
  go_wp2_with (first | (clear TB10; refine allocsV rfl rfl ?_; intro B10 w10 bB10 cB10 XB10 LB10 RB10; have z10 := XB10.size; replace E := E.trans XB10; replace NV := NV.ext XB10; replace LB7 := LB7.ext XB10; replace NA := NA.ext XB10; replace LB9 := LB9.ext XB10) | (clear TG11; have hRl := (RB10).lt (Nat.zero_lt_succ _); refine storesV (B := B10) rfl rfl rfl (v := z) rfl RB10 hZ ?_; clear LB10; intro s11 G11 LB10 RQ; have z12 := G11.size; replace E := grown_ext E G11 (by omega); replace NV := NV.grown G11 (by first | omega | (dsimp only [New]; omega)); replace LB7 := LB7.grown G11 (by omega); replace NA := NA.grown G11 (by first | omega | (dsimp only [New]; omega)); replace LB9 := LB9.grown G11 (by omega); clear RB10; have RB10 := RQ; clear RQ hRl; clear RB10) | (refine loadsV (B := B7) (by rfl) rfl rfl LB7 ?_) | (refine loadsV (B := B9) (by rfl) rfl rfl LB9 ?_))
  clear LB7 LB9
  refine (cq a v _ _ NA.is NV.is).mono ?_
  rintro e w45 ⟨rfl, x⟩
  have z13 := x.size
  replace E := E.trans x
  replace NV := NV.ext x
  replace NA := NA.ext x
  replace LB10 := LB10.ext x
  clear x
  have TB12 : True := trivial
  have TG15 : True := trivial
  go_wp2_with (first | (clear TB12; refine allocsV rfl rfl ?_; intro B12 w12 bB12 cB12 XB12 LB12 RB12; have z14 := XB12.size; replace E := E.trans XB12; replace NV := NV.ext XB12; replace NA := NA.ext XB12; replace LB10 := LB10.ext XB12) | (clear TG15; have hRl := (RB12).lt (Nat.zero_lt_succ _); refine storesV (B := B12) rfl rfl rfl (v := z) rfl RB12 hZ ?_; clear LB12; intro s15 G15 LB12 RQ; have z16 := G15.size; replace E := grown_ext E G15 (by omega); replace NV := NV.grown G15 (by first | omega | (dsimp only [New]; omega)); replace NA := NA.grown G15 (by first | omega | (dsimp only [New]; omega)); replace LB10 := LB10.grown G15 (by omega); clear RB12; have RB12 := RQ; clear RQ hRl; clear RB12))
  refine (cr _).mono ?_
  rintro e w52 ⟨rfl, x⟩
  have z17 := x.size
  replace E := E.trans x
  replace NV := NV.ext x
  replace NA := NA.ext x
  replace LB10 := LB10.ext x
  replace LB12 := LB12.ext x
  clear x
  go_wp2_with (refine loadsV (B := B10) (by rfl) rfl rfl LB10 ?_)
  clear LB10
  refine (kz _).mono ?_
  rintro e w61 ⟨rfl, x⟩
  have z18 := x.size
  replace E := E.trans x
  replace NV := NV.ext x
  replace NA := NA.ext x
  replace LB12 := LB12.ext x
  clear x
  go_wp2_with (refine loadgV (B := B12) (by rfl) rfl rfl LB12 ?_)
  clear LB12
  refine (kz _).mono ?_
  rintro e w65 ⟨rfl, x⟩
  have z19 := x.size
  replace E := E.trans x
  replace NV := NV.ext x
  replace NA := NA.ext x
  clear x
  go_wp2_with fail
  refine (aawake_any _).mono ?_
  rintro e w79 ⟨rfl, x⟩
  have z20 := x.size
  replace E := E.trans x
  replace NV := NV.ext x
  replace NA := NA.ext x
  clear x
  go_wp2_with fail
  go_ret
  exact ⟨rfl, E⟩
theorem arithOthers_y2 (hn : n = l.length) (hm : m = b.length) (hwb : ∀ x ∈ b, x < 18446744073709551616) (h3 : n ≤ 200) (h4 : m ≤ 200) (hs : Sl w 1 A n (i32s l)) (hs' : Sl w 1 B m (f64s b)) (hfb : allF b = true) (hle : lenOk (n : Int) (m : Int) = true) (hf : ¬ f < 1) (hf2 : 8 < f) : Calls Try.prog 10 #[.int .i64 f, .slice A n c, .slice B m c'] w fun e w' => e = .returned (.bool true) ∧ Ext w w' := by
  have ck := fun w hs => kept_yes B b m hm c' w (by omega) 4 hwb hfb hs
  have cc := fun w hs => chars_v A l n hn c w (by omega) hs
  have lb : (dnL b).length = m := by rw [dnL_length]; exact hm.symm
  have cp : ∀ v u K w, IsVec w v (VD.chars l) → IsNum w u K (dnL b) → Calls Try.prog 38 #[.int .i64 f, v, u] w fun e w' => e = .returned (.tuple #[zeroVec, .int .i64 (arO f n m)]) ∧ Ext w w' := fun v u K w hv hu => by
    obtain ⟨d, hd, _, _, _, hl⟩ := hu
    have h := ar_o f v u _ (.inl rfl) d w hv hd
    rwa [show (VD.chars l).len = n from hn.symm, show d.len = m by rw [← VD.nums_length, hl, lb]] at h
  have cq : ∀ v u K w, IsVec w v (VD.chars l) → IsNum w u K (dnL b) → Calls Try.prog 38 #[.int .i64 f, u, v] w fun e w' => e = .returned (.tuple #[zeroVec, .int .i64 (arO f n m)]) ∧ Ext w w' := fun v u K w hv hu => by
    obtain ⟨d, hd, hk, _, h4, hl⟩ := hu
    have h := ar_o2 f v u _ (.inl rfl) d (by rw [VD.cls_num (by omega)]; rfl) w hv hd
    rwa [show (VD.chars l).len = n from hn.symm, show d.len = m by rw [← VD.nums_length, hl, lb]] at h
  have cr : ∀ w, Calls Try.prog 30 #[.int .i64 (n : Int), .int .i64 (m : Int)] w fun e w' => e = .returned (.int .i64 (rlenV n m)) ∧ Ext w w' := fun w => (rlength_any (n : Int) (m : Int) w).mono fun e w2 h => ⟨h.1, h.2 ▸ Ext.refl _⟩
  have h0 : (0 : Int) ≤ lenV (n : Int) (m : Int) := by unfold lenV; repeat (first | split | omega)
  rw [rlen_ok hle] at cr
  rw [show arO f n m = 1 by unfold arO; rw [if_pos (.inr hf2)]] at cp cq
  obtain ⟨z, hz⟩ : ∃ z, zeroVec = z := ⟨_, rfl⟩
  have hZ := zeroVec_flat
  rw [hz] at cp cq hZ
  have kz := fun w => kind_zero z hz w
  have HS := Lib.hid hs
  have HS' := Lib.hid hs'
  clear hs hs' hn hm hwb hfb hz lb hle
  generalize VD.chars l = dc at *
  generalize dnL b = X at *
  generalize lenV (n : Int) (m : Int) = lv at *
  have E := Ext.refl w
  go_enter Try.func10, Try.ntmps10
  go_wp2_with fail
  refine (ck _ (HS'.out.ext E)).mono ?_
  rintro e w26 ⟨v, kv, rfl, hq, x⟩
  have NV := hq.now
  have Fv := NV.is.flat
  clear hq
  have z1 := x.size
  replace E := E.trans x
  clear x
  have TB7 : True := trivial
  have TG3 : True := trivial
  go_wp2_with (first | (clear TB7; refine allocsV rfl rfl ?_; intro B7 w7 bB7 cB7 XB7 LB7 RB7; have z2 := XB7.size; replace E := E.trans XB7; replace NV := NV.ext XB7) | (clear TG3; have hRl := (RB7).lt (Nat.zero_lt_succ _); refine storesV (B := B7) rfl rfl rfl (v := v) rfl RB7 Fv ?_; clear LB7; intro s3 G3 LB7 RQ; have z4 := G3.size; replace E := grown_ext E G3 (by omega); replace NV := NV.grown G3 (by first | omega | (dsimp only [New]; omega)); clear RB7; have RB7 := RQ; clear RQ hRl; clear RB7))
  refine (cc _ (HS.out.ext E)).mono ?_
  rintro e w33 ⟨a, rfl, hq, x⟩
  have NA := hq.now
  have Fa := NA.is.flat
  clear hq
  have z5 := x.size
  replace E := E.trans x
  replace NV := NV.ext x
  replace LB7 := LB7.ext x
  clear x
  have TB9 : True := trivial
  have TG7 : True := trivial
  go_wp2_with (first | (clear TB9; refine allocsV rfl rfl ?_; intro B9 w9 bB9 cB9 XB9 LB9 RB9; have z6 := XB9.size; replace E := E.trans XB9; replace NV := NV.ext XB9; replace LB7 := LB7.ext XB9; replace NA := NA.ext XB9) | (clear TG7; have hRl := (RB9).lt (Nat.zero_lt_succ _); refine storesV (B := B9) rfl rfl rfl (v := a) rfl RB9 Fa ?_; clear LB9; intro s7 G7 LB9 RQ; have z8 := G7.size; replace E := grown_ext E G7 (by omega); replace NV := NV.grown G7 (by first | omega | (dsimp only [New]; omega)); replace LB7 := LB7.grown G7 (by omega); replace NA := NA.grown G7 (by first | omega | (dsimp only [New]; omega)); clear RB9; have RB9 := RQ; clear RQ hRl; clear RB9) | (refine loadsV (B := B9) (by rfl) rfl rfl LB9 ?_) | (refine loadsV (B := B7) (by rfl) rfl rfl LB7 ?_))
  refine (cp a v _ _ NA.is NV.is).mono ?_
  rintro e w38 ⟨rfl, x⟩
  have z9 := x.size
  replace E := E.trans x
  replace NV := NV.ext x
  replace LB7 := LB7.ext x
  replace NA := NA.ext x
  replace LB9 := LB9.ext x
  clear x
  have TB10 : True := trivial
  have TG11 : True := trivial
  go_wp2_with (first | (clear TB10; refine allocsV rfl rfl ?_; intro B10 w10 bB10 cB10 XB10 LB10 RB10; have z10 := XB10.size; replace E := E.trans XB10; replace NV := NV.ext XB10; replace LB7 := LB7.ext XB10; replace NA := NA.ext XB10; replace LB9 := LB9.ext XB10) | (clear TG11; have hRl := (RB10).lt (Nat.zero_lt_succ _); refine storesV (B := B10) rfl rfl rfl (v := z) rfl RB10 hZ ?_; clear LB10; intro s11 G11 LB10 RQ; have z12 := G11.size; replace E := grown_ext E G11 (by omega); replace NV := NV.grown G11 (by first | omega | (dsimp only [New]; omega)); replace LB7 := LB7.grown G11 (by omega); replace NA := NA.grown G11 (by first | omega | (dsimp only [New]; omega)); replace LB9 := LB9.grown G11 (by omega); clear RB10; have RB10 := RQ; clear RQ hRl; clear RB10) | (refine loadsV (B := B7) (by rfl) rfl rfl LB7 ?_) | (refine loadsV (B := B9) (by rfl) rfl rfl LB9 ?_))
  clear LB7 LB9
  refine (cq a v _ _ NA.is NV.is).mono ?_
  rintro e w45 ⟨rfl, x⟩
  have z13 := x.size
  replace E := E.trans x
  replace NV := NV.ext x
  replace NA := NA.ext x
  replace LB10 := LB10.ext x
  clear x
  have TB12 : True := trivial
  have TG15 : True := trivial
  go_wp2_with (first | (clear TB12; refine allocsV rfl rfl ?_; intro B12 w12 bB12 cB12 XB12 LB12 RB12; have z14 := XB12.size; replace E := E.trans XB12; replace NV := NV.ext XB12; replace NA := NA.ext XB12; replace LB10 := LB10.ext XB12) | (clear TG15; have hRl := (RB12).lt (Nat.zero_lt_succ _); refine storesV (B := B12) rfl rfl rfl (v := z) rfl RB12 hZ ?_; clear LB12; intro s15 G15 LB12 RQ; have z16 := G15.size; replace E := grown_ext E G15 (by omega); replace NV := NV.grown G15 (by first | omega | (dsimp only [New]; omega)); replace NA := NA.grown G15 (by first | omega | (dsimp only [New]; omega)); replace LB10 := LB10.grown G15 (by omega); clear RB12; have RB12 := RQ; clear RQ hRl; clear RB12))
  refine (cr _).mono ?_
  rintro e w52 ⟨rfl, x⟩
  have z17 := x.size
  replace E := E.trans x
  replace NV := NV.ext x
  replace NA := NA.ext x
  replace LB10 := LB10.ext x
  replace LB12 := LB12.ext x
  clear x
  go_wp2_with (refine loadsV (B := B10) (by rfl) rfl rfl LB10 ?_)
  clear LB10
  refine (kz _).mono ?_
  rintro e w61 ⟨rfl, x⟩
  have z18 := x.size
  replace E := E.trans x
  replace NV := NV.ext x
  replace NA := NA.ext x
  replace LB12 := LB12.ext x
  clear x
  go_wp2_with (refine loadgV (B := B12) (by rfl) rfl rfl LB12 ?_)
  clear LB12
  refine (kz _).mono ?_
  rintro e w65 ⟨rfl, x⟩
  have z19 := x.size
  replace E := E.trans x
  replace NV := NV.ext x
  replace NA := NA.ext x
  clear x
  go_wp2_with fail
  refine (aawake_any _).mono ?_
  rintro e w79 ⟨rfl, x⟩
  have z20 := x.size
  replace E := E.trans x
  replace NV := NV.ext x
  replace NA := NA.ext x
  clear x
  go_wp2_with fail
  go_ret
  exact ⟨rfl, E⟩
theorem arithOthers_y3 (hn : n = l.length) (hm : m = b.length) (hwb : ∀ x ∈ b, x < 18446744073709551616) (h3 : n ≤ 200) (h4 : m ≤ 200) (hs : Sl w 1 A n (i32s l)) (hs' : Sl w 1 B m (f64s b)) (hfb : allF b = true) (hle : lenOk (n : Int) (m : Int) = true) (hf : ¬ f < 1) (hf2 : ¬ 8 < f) : Calls Try.prog 10 #[.int .i64 f, .slice A n c, .slice B m c'] w fun e w' => e = .returned (.bool true) ∧ Ext w w' := by
  have ck := fun w hs => kept_yes B b m hm c' w (by omega) 4 hwb hfb hs
  have cc := fun w hs => chars_v A l n hn c w (by omega) hs
  have lb : (dnL b).length = m := by rw [dnL_length]; exact hm.symm
  have cp : ∀ v u K w, IsVec w v (VD.chars l) → IsNum w u K (dnL b) → Calls Try.prog 38 #[.int .i64 f, v, u] w fun e w' => e = .returned (.tuple #[zeroVec, .int .i64 (arO f n m)]) ∧ Ext w w' := fun v u K w hv hu => by
    obtain ⟨d, hd, _, _, _, hl⟩ := hu
    have h := ar_o f v u _ (.inl rfl) d w hv hd
    rwa [show (VD.chars l).len = n from hn.symm, show d.len = m by rw [← VD.nums_length, hl, lb]] at h
  have cq : ∀ v u K w, IsVec w v (VD.chars l) → IsNum w u K (dnL b) → Calls Try.prog 38 #[.int .i64 f, u, v] w fun e w' => e = .returned (.tuple #[zeroVec, .int .i64 (arO f n m)]) ∧ Ext w w' := fun v u K w hv hu => by
    obtain ⟨d, hd, hk, _, h4, hl⟩ := hu
    have h := ar_o2 f v u _ (.inl rfl) d (by rw [VD.cls_num (by omega)]; rfl) w hv hd
    rwa [show (VD.chars l).len = n from hn.symm, show d.len = m by rw [← VD.nums_length, hl, lb]] at h
  have cr : ∀ w, Calls Try.prog 30 #[.int .i64 (n : Int), .int .i64 (m : Int)] w fun e w' => e = .returned (.int .i64 (rlenV n m)) ∧ Ext w w' := fun w => (rlength_any (n : Int) (m : Int) w).mono fun e w2 h => ⟨h.1, h.2 ▸ Ext.refl _⟩
  have h0 : (0 : Int) ≤ lenV (n : Int) (m : Int) := by unfold lenV; repeat (first | split | omega)
  rw [rlen_ok hle] at cr
  rw [show arO f n m = 24 by unfold arO; rw [if_neg (by omega), hle]; rfl] at cp cq
  obtain ⟨z, hz⟩ : ∃ z, zeroVec = z := ⟨_, rfl⟩
  have hZ := zeroVec_flat
  rw [hz] at cp cq hZ
  have kz := fun w => kind_zero z hz w
  have HS := Lib.hid hs
  have HS' := Lib.hid hs'
  clear hs hs' hn hm hwb hfb hz lb hle
  generalize VD.chars l = dc at *
  generalize dnL b = X at *
  generalize lenV (n : Int) (m : Int) = lv at *
  have E := Ext.refl w
  go_enter Try.func10, Try.ntmps10
  go_wp2_with fail
  refine (ck _ (HS'.out.ext E)).mono ?_
  rintro e w26 ⟨v, kv, rfl, hq, x⟩
  have NV := hq.now
  have Fv := NV.is.flat
  clear hq
  have z1 := x.size
  replace E := E.trans x
  clear x
  have TB7 : True := trivial
  have TG3 : True := trivial
  go_wp2_with (first | (clear TB7; refine allocsV rfl rfl ?_; intro B7 w7 bB7 cB7 XB7 LB7 RB7; have z2 := XB7.size; replace E := E.trans XB7; replace NV := NV.ext XB7) | (clear TG3; have hRl := (RB7).lt (Nat.zero_lt_succ _); refine storesV (B := B7) rfl rfl rfl (v := v) rfl RB7 Fv ?_; clear LB7; intro s3 G3 LB7 RQ; have z4 := G3.size; replace E := grown_ext E G3 (by omega); replace NV := NV.grown G3 (by first | omega | (dsimp only [New]; omega)); clear RB7; have RB7 := RQ; clear RQ hRl; clear RB7))
  refine (cc _ (HS.out.ext E)).mono ?_
  rintro e w33 ⟨a, rfl, hq, x⟩
  have NA := hq.now
  have Fa := NA.is.flat
  clear hq
  have z5 := x.size
  replace E := E.trans x
  replace NV := NV.ext x
  replace LB7 := LB7.ext x
  clear x
  have TB9 : True := trivial
  have TG7 : True := trivial
  go_wp2_with (first | (clear TB9; refine allocsV rfl rfl ?_; intro B9 w9 bB9 cB9 XB9 LB9 RB9; have z6 := XB9.size; replace E := E.trans XB9; replace NV := NV.ext XB9; replace LB7 := LB7.ext XB9; replace NA := NA.ext XB9) | (clear TG7; have hRl := (RB9).lt (Nat.zero_lt_succ _); refine storesV (B := B9) rfl rfl rfl (v := a) rfl RB9 Fa ?_; clear LB9; intro s7 G7 LB9 RQ; have z8 := G7.size; replace E := grown_ext E G7 (by omega); replace NV := NV.grown G7 (by first | omega | (dsimp only [New]; omega)); replace LB7 := LB7.grown G7 (by omega); replace NA := NA.grown G7 (by first | omega | (dsimp only [New]; omega)); clear RB9; have RB9 := RQ; clear RQ hRl; clear RB9) | (refine loadsV (B := B9) (by rfl) rfl rfl LB9 ?_) | (refine loadsV (B := B7) (by rfl) rfl rfl LB7 ?_))
  refine (cp a v _ _ NA.is NV.is).mono ?_
  rintro e w38 ⟨rfl, x⟩
  have z9 := x.size
  replace E := E.trans x
  replace NV := NV.ext x
  replace LB7 := LB7.ext x
  replace NA := NA.ext x
  replace LB9 := LB9.ext x
  clear x
  have TB10 : True := trivial
  have TG11 : True := trivial
  go_wp2_with (first | (clear TB10; refine allocsV rfl rfl ?_; intro B10 w10 bB10 cB10 XB10 LB10 RB10; have z10 := XB10.size; replace E := E.trans XB10; replace NV := NV.ext XB10; replace LB7 := LB7.ext XB10; replace NA := NA.ext XB10; replace LB9 := LB9.ext XB10) | (clear TG11; have hRl := (RB10).lt (Nat.zero_lt_succ _); refine storesV (B := B10) rfl rfl rfl (v := z) rfl RB10 hZ ?_; clear LB10; intro s11 G11 LB10 RQ; have z12 := G11.size; replace E := grown_ext E G11 (by omega); replace NV := NV.grown G11 (by first | omega | (dsimp only [New]; omega)); replace LB7 := LB7.grown G11 (by omega); replace NA := NA.grown G11 (by first | omega | (dsimp only [New]; omega)); replace LB9 := LB9.grown G11 (by omega); clear RB10; have RB10 := RQ; clear RQ hRl; clear RB10) | (refine loadsV (B := B7) (by rfl) rfl rfl LB7 ?_) | (refine loadsV (B := B9) (by rfl) rfl rfl LB9 ?_))
  clear LB7 LB9
  refine (cq a v _ _ NA.is NV.is).mono ?_
  rintro e w45 ⟨rfl, x⟩
  have z13 := x.size
  replace E := E.trans x
  replace NV := NV.ext x
  replace NA := NA.ext x
  replace LB10 := LB10.ext x
  clear x
  have TB12 : True := trivial
  have TG15 : True := trivial
  go_wp2_with (first | (clear TB12; refine allocsV rfl rfl ?_; intro B12 w12 bB12 cB12 XB12 LB12 RB12; have z14 := XB12.size; replace E := E.trans XB12; replace NV := NV.ext XB12; replace NA := NA.ext XB12; replace LB10 := LB10.ext XB12) | (clear TG15; have hRl := (RB12).lt (Nat.zero_lt_succ _); refine storesV (B := B12) rfl rfl rfl (v := z) rfl RB12 hZ ?_; clear LB12; intro s15 G15 LB12 RQ; have z16 := G15.size; replace E := grown_ext E G15 (by omega); replace NV := NV.grown G15 (by first | omega | (dsimp only [New]; omega)); replace NA := NA.grown G15 (by first | omega | (dsimp only [New]; omega)); replace LB10 := LB10.grown G15 (by omega); clear RB12; have RB12 := RQ; clear RQ hRl; clear RB12))
  refine (cr _).mono ?_
  rintro e w52 ⟨rfl, x⟩
  have z17 := x.size
  replace E := E.trans x
  replace NV := NV.ext x
  replace NA := NA.ext x
  replace LB10 := LB10.ext x
  replace LB12 := LB12.ext x
  clear x
  go_wp2_with (refine loadsV (B := B10) (by rfl) rfl rfl LB10 ?_)
  clear LB10
  refine (kz _).mono ?_
  rintro e w61 ⟨rfl, x⟩
  have z18 := x.size
  replace E := E.trans x
  replace NV := NV.ext x
  replace NA := NA.ext x
  replace LB12 := LB12.ext x
  clear x
  go_wp2_with (refine loadgV (B := B12) (by rfl) rfl rfl LB12 ?_)
  clear LB12
  refine (kz _).mono ?_
  rintro e w65 ⟨rfl, x⟩
  have z19 := x.size
  replace E := E.trans x
  replace NV := NV.ext x
  replace NA := NA.ext x
  clear x
  go_wp2_with fail
  refine (aawake_any _).mono ?_
  rintro e w79 ⟨rfl, x⟩
  have z20 := x.size
  replace E := E.trans x
  replace NV := NV.ext x
  replace NA := NA.ext x
  clear x
  go_wp2_with fail
  go_ret
  exact ⟨rfl, E⟩
theorem arithOthers_n1 (hn : n = l.length) (hm : m = b.length) (hwb : ∀ x ∈ b, x < 18446744073709551616) (h3 : n ≤ 200) (h4 : m ≤ 200) (hs : Sl w 1 A n (i32s l)) (hs' : Sl w 1 B m (f64s b)) (hfb : allF b = true) (hle : lenOk (n : Int) (m : Int) = false) (hf : f < 1) : Calls Try.prog 10 #[.int .i64 f, .slice A n c, .slice B m c'] w fun e w' => e = .returned (.bool true) ∧ Ext w w' := by
  have ck := fun w hs => kept_yes B b m hm c' w (by omega) 4 hwb hfb hs
  have cc := fun w hs => chars_v A l n hn c w (by omega) hs
  have lb : (dnL b).length = m := by rw [dnL_length]; exact hm.symm
  have cp : ∀ v u K w, IsVec w v (VD.chars l) → IsNum w u K (dnL b) → Calls Try.prog 38 #[.int .i64 f, v, u] w fun e w' => e = .returned (.tuple #[zeroVec, .int .i64 (arO f n m)]) ∧ Ext w w' := fun v u K w hv hu => by
    obtain ⟨d, hd, _, _, _, hl⟩ := hu
    have h := ar_o f v u _ (.inl rfl) d w hv hd
    rwa [show (VD.chars l).len = n from hn.symm, show d.len = m by rw [← VD.nums_length, hl, lb]] at h
  have cq : ∀ v u K w, IsVec w v (VD.chars l) → IsNum w u K (dnL b) → Calls Try.prog 38 #[.int .i64 f, u, v] w fun e w' => e = .returned (.tuple #[zeroVec, .int .i64 (arO f n m)]) ∧ Ext w w' := fun v u K w hv hu => by
    obtain ⟨d, hd, hk, _, h4, hl⟩ := hu
    have h := ar_o2 f v u _ (.inl rfl) d (by rw [VD.cls_num (by omega)]; rfl) w hv hd
    rwa [show (VD.chars l).len = n from hn.symm, show d.len = m by rw [← VD.nums_length, hl, lb]] at h
  have cr : ∀ w, Calls Try.prog 30 #[.int .i64 (n : Int), .int .i64 (m : Int)] w fun e w' => e = .returned (.int .i64 (rlenV n m)) ∧ Ext w w' := fun w => (rlength_any (n : Int) (m : Int) w).mono fun e w2 h => ⟨h.1, h.2 ▸ Ext.refl _⟩
  rw [(rlen_no hle).1] at cr
  rw [show arO f n m = 1 by unfold arO; rw [if_pos (.inl hf)]] at cp cq
  obtain ⟨z, hz⟩ : ∃ z, zeroVec = z := ⟨_, rfl⟩
  have hZ := zeroVec_flat
  rw [hz] at cp cq hZ
  have kz := fun w => kind_zero z hz w
  have HS := Lib.hid hs
  have HS' := Lib.hid hs'
  clear hs hs' hn hm hwb hfb hz lb hle
  generalize VD.chars l = dc at *
  generalize dnL b = X at *
  have E := Ext.refl w
  go_enter Try.func10, Try.ntmps10
  go_wp2_with fail
  refine (ck _ (HS'.out.ext E)).mono ?_
  rintro e w26 ⟨v, kv, rfl, hq, x⟩
  have NV := hq.now
  have Fv := NV.is.flat
  clear hq
  have z1 := x.size
  replace E := E.trans x
  clear x
  have TB7 : True := trivial
  have TG3 : True := trivial
  go_wp2_with (first | (clear TB7; refine allocsV rfl rfl ?_; intro B7 w7 bB7 cB7 XB7 LB7 RB7; have z2 := XB7.size; replace E := E.trans XB7; replace NV := NV.ext XB7) | (clear TG3; have hRl := (RB7).lt (Nat.zero_lt_succ _); refine storesV (B := B7) rfl rfl rfl (v := v) rfl RB7 Fv ?_; clear LB7; intro s3 G3 LB7 RQ; have z4 := G3.size; replace E := grown_ext E G3 (by omega); replace NV := NV.grown G3 (by first | omega | (dsimp only [New]; omega)); clear RB7; have RB7 := RQ; clear RQ hRl; clear RB7))
  refine (cc _ (HS.out.ext E)).mono ?_
  rintro e w33 ⟨a, rfl, hq, x⟩
  have NA := hq.now
  have Fa := NA.is.flat
  clear hq
  have z5 := x.size
  replace E := E.trans x
  replace NV := NV.ext x
  replace LB7 := LB7.ext x
  clear x
  have TB9 : True := trivial
  have TG7 : True := trivial
  go_wp2_with (first | (clear TB9; refine allocsV rfl rfl ?_; intro B9 w9 bB9 cB9 XB9 LB9 RB9; have z6 := XB9.size; replace E := E.trans XB9; replace NV := NV.ext XB9; replace LB7 := LB7.ext XB9; replace NA := NA.ext XB9) | (clear TG7; have hRl := (RB9).lt (Nat.zero_lt_succ _); refine storesV (B := B9) rfl rfl rfl (v := a) rfl RB9 Fa ?_; clear LB9; intro s7 G7 LB9 RQ; have z8 := G7.size; replace E := grown_ext E G7 (by omega); replace NV := NV.grown G7 (by first | omega | (dsimp only [New]; omega)); replace LB7 := LB7.grown G7 (by omega); replace NA := NA.grown G7 (by first | omega | (dsimp only [New]; omega)); clear RB9; have RB9 := RQ; clear RQ hRl; clear RB9) | (refine loadsV (B := B9) (by rfl) rfl rfl LB9 ?_) | (refine loadsV (B := B7) (by rfl) rfl rfl LB7 ?_))
  refine (cp a v _ _ NA.is NV.is).mono ?_
  rintro e w38 ⟨rfl, x⟩
  have z9 := x.size
  replace E := E.trans x
  replace NV := NV.ext x
  replace LB7 := LB7.ext x
  replace NA := NA.ext x
  replace LB9 := LB9.ext x
  clear x
  have TB10 : True := trivial
  have TG11 : True := trivial
  go_wp2_with (first | (clear TB10; refine allocsV rfl rfl ?_; intro B10 w10 bB10 cB10 XB10 LB10 RB10; have z10 := XB10.size; replace E := E.trans XB10; replace NV := NV.ext XB10; replace LB7 := LB7.ext XB10; replace NA := NA.ext XB10; replace LB9 := LB9.ext XB10) | (clear TG11; have hRl := (RB10).lt (Nat.zero_lt_succ _); refine storesV (B := B10) rfl rfl rfl (v := z) rfl RB10 hZ ?_; clear LB10; intro s11 G11 LB10 RQ; have z12 := G11.size; replace E := grown_ext E G11 (by omega); replace NV := NV.grown G11 (by first | omega | (dsimp only [New]; omega)); replace LB7 := LB7.grown G11 (by omega); replace NA := NA.grown G11 (by first | omega | (dsimp only [New]; omega)); replace LB9 := LB9.grown G11 (by omega); clear RB10; have RB10 := RQ; clear RQ hRl; clear RB10) | (refine loadsV (B := B7) (by rfl) rfl rfl LB7 ?_) | (refine loadsV (B := B9) (by rfl) rfl rfl LB9 ?_))
  clear LB7 LB9
  refine (cq a v _ _ NA.is NV.is).mono ?_
  rintro e w45 ⟨rfl, x⟩
  have z13 := x.size
  replace E := E.trans x
  replace NV := NV.ext x
  replace NA := NA.ext x
  replace LB10 := LB10.ext x
  clear x
  have TB12 : True := trivial
  have TG15 : True := trivial
  go_wp2_with (first | (clear TB12; refine allocsV rfl rfl ?_; intro B12 w12 bB12 cB12 XB12 LB12 RB12; have z14 := XB12.size; replace E := E.trans XB12; replace NV := NV.ext XB12; replace NA := NA.ext XB12; replace LB10 := LB10.ext XB12) | (clear TG15; have hRl := (RB12).lt (Nat.zero_lt_succ _); refine storesV (B := B12) rfl rfl rfl (v := z) rfl RB12 hZ ?_; clear LB12; intro s15 G15 LB12 RQ; have z16 := G15.size; replace E := grown_ext E G15 (by omega); replace NV := NV.grown G15 (by first | omega | (dsimp only [New]; omega)); replace NA := NA.grown G15 (by first | omega | (dsimp only [New]; omega)); replace LB10 := LB10.grown G15 (by omega); clear RB12; have RB12 := RQ; clear RQ hRl; clear RB12))
  refine (cr _).mono ?_
  rintro e w52 ⟨rfl, x⟩
  have z17 := x.size
  replace E := E.trans x
  replace NV := NV.ext x
  replace NA := NA.ext x
  replace LB10 := LB10.ext x
  replace LB12 := LB12.ext x
  clear x
  go_wp2_with (refine loadsV (B := B10) (by rfl) rfl rfl LB10 ?_)
  clear LB10
  refine (kz _).mono ?_
  rintro e w61 ⟨rfl, x⟩
  have z18 := x.size
  replace E := E.trans x
  replace NV := NV.ext x
  replace NA := NA.ext x
  replace LB12 := LB12.ext x
  clear x
  go_wp2_with (refine loadgV (B := B12) (by rfl) rfl rfl LB12 ?_)
  clear LB12
  refine (kz _).mono ?_
  rintro e w65 ⟨rfl, x⟩
  have z19 := x.size
  replace E := E.trans x
  replace NV := NV.ext x
  replace NA := NA.ext x
  clear x
  go_wp2_with fail
  refine (aawake_any _).mono ?_
  rintro e w79 ⟨rfl, x⟩
  have z20 := x.size
  replace E := E.trans x
  replace NV := NV.ext x
  replace NA := NA.ext x
  clear x
  go_wp2_with fail
  go_ret
  exact ⟨rfl, E⟩
theorem arithOthers_n2 (hn : n = l.length) (hm : m = b.length) (hwb : ∀ x ∈ b, x < 18446744073709551616) (h3 : n ≤ 200) (h4 : m ≤ 200) (hs : Sl w 1 A n (i32s l)) (hs' : Sl w 1 B m (f64s b)) (hfb : allF b = true) (hle : lenOk (n : Int) (m : Int) = false) (hf : ¬ f < 1) (hf2 : 8 < f) : Calls Try.prog 10 #[.int .i64 f, .slice A n c, .slice B m c'] w fun e w' => e = .returned (.bool true) ∧ Ext w w' := by
  have ck := fun w hs => kept_yes B b m hm c' w (by omega) 4 hwb hfb hs
  have cc := fun w hs => chars_v A l n hn c w (by omega) hs
  have lb : (dnL b).length = m := by rw [dnL_length]; exact hm.symm
  have cp : ∀ v u K w, IsVec w v (VD.chars l) → IsNum w u K (dnL b) → Calls Try.prog 38 #[.int .i64 f, v, u] w fun e w' => e = .returned (.tuple #[zeroVec, .int .i64 (arO f n m)]) ∧ Ext w w' := fun v u K w hv hu => by
    obtain ⟨d, hd, _, _, _, hl⟩ := hu
    have h := ar_o f v u _ (.inl rfl) d w hv hd
    rwa [show (VD.chars l).len = n from hn.symm, show d.len = m by rw [← VD.nums_length, hl, lb]] at h
  have cq : ∀ v u K w, IsVec w v (VD.chars l) → IsNum w u K (dnL b) → Calls Try.prog 38 #[.int .i64 f, u, v] w fun e w' => e = .returned (.tuple #[zeroVec, .int .i64 (arO f n m)]) ∧ Ext w w' := fun v u K w hv hu => by
    obtain ⟨d, hd, hk, _, h4, hl⟩ := hu
    have h := ar_o2 f v u _ (.inl rfl) d (by rw [VD.cls_num (by omega)]; rfl) w hv hd
    rwa [show (VD.chars l).len = n from hn.symm, show d.len = m by rw [← VD.nums_length, hl, lb]] at h
  have cr : ∀ w, Calls Try.prog 30 #[.int .i64 (n : Int), .int .i64 (m : Int)] w fun e w' => e = .returned (.int .i64 (rlenV n m)) ∧ Ext w w' := fun w => (rlength_any (n : Int) (m : Int) w).mono fun e w2 h => ⟨h.1, h.2 ▸ Ext.refl _⟩
  rw [(rlen_no hle).1] at cr
  rw [show arO f n m = 1 by unfold arO; rw [if_pos (.inr hf2)]] at cp cq
  obtain ⟨z, hz⟩ : ∃ z, zeroVec = z := ⟨_, rfl⟩
  have hZ := zeroVec_flat
  rw [hz] at cp cq hZ
  have kz := fun w => kind_zero z hz w
  have HS := Lib.hid hs
  have HS' := Lib.hid hs'
  clear hs hs' hn hm hwb hfb hz lb hle
  generalize VD.chars l = dc at *
  generalize dnL b = X at *
  have E := Ext.refl w
  go_enter Try.func10, Try.ntmps10
  go_wp2_with fail
  refine (ck _ (HS'.out.ext E)).mono ?_
  rintro e w26 ⟨v, kv, rfl, hq, x⟩
  have NV := hq.now
  have Fv := NV.is.flat
  clear hq
  have z1 := x.size
  replace E := E.trans x
  clear x
  have TB7 : True := trivial
  have TG3 : True := trivial
  go_wp2_with (first | (clear TB7; refine allocsV rfl rfl ?_; intro B7 w7 bB7 cB7 XB7 LB7 RB7; have z2 := XB7.size; replace E := E.trans XB7; replace NV := NV.ext XB7) | (clear TG3; have hRl := (RB7).lt (Nat.zero_lt_succ _); refine storesV (B := B7) rfl rfl rfl (v := v) rfl RB7 Fv ?_; clear LB7; intro s3 G3 LB7 RQ; have z4 := G3.size; replace E := grown_ext E G3 (by omega); replace NV := NV.grown G3 (by first | omega | (dsimp only [New]; omega)); clear RB7; have RB7 := RQ; clear RQ hRl; clear RB7))
  refine (cc _ (HS.out.ext E)).mono ?_
  rintro e w33 ⟨a, rfl, hq, x⟩
  have NA := hq.now
  have Fa := NA.is.flat
  clear hq
  have z5 := x.size
  replace E := E.trans x
  replace NV := NV.ext x
  replace LB7 := LB7.ext x
  clear x
  have TB9 : True := trivial
  have TG7 : True := trivial
  go_wp2_with (first | (clear TB9; refine allocsV rfl rfl ?_; intro B9 w9 bB9 cB9 XB9 LB9 RB9; have z6 := XB9.size; replace E := E.trans XB9; replace NV := NV.ext XB9; replace LB7 := LB7.ext XB9; replace NA := NA.ext XB9) | (clear TG7; have hRl := (RB9).lt (Nat.zero_lt_succ _); refine storesV (B := B9) rfl rfl rfl (v := a) rfl RB9 Fa ?_; clear LB9; intro s7 G7 LB9 RQ; have z8 := G7.size; replace E := grown_ext E G7 (by omega); replace NV := NV.grown G7 (by first | omega | (dsimp only [New]; omega)); replace LB7 := LB7.grown G7 (by omega); replace NA := NA.grown G7 (by first | omega | (dsimp only [New]; omega)); clear RB9; have RB9 := RQ; clear RQ hRl; clear RB9) | (refine loadsV (B := B9) (by rfl) rfl rfl LB9 ?_) | (refine loadsV (B := B7) (by rfl) rfl rfl LB7 ?_))
  refine (cp a v _ _ NA.is NV.is).mono ?_
  rintro e w38 ⟨rfl, x⟩
  have z9 := x.size
  replace E := E.trans x
  replace NV := NV.ext x
  replace LB7 := LB7.ext x
  replace NA := NA.ext x
  replace LB9 := LB9.ext x
  clear x
  have TB10 : True := trivial
  have TG11 : True := trivial
  go_wp2_with (first | (clear TB10; refine allocsV rfl rfl ?_; intro B10 w10 bB10 cB10 XB10 LB10 RB10; have z10 := XB10.size; replace E := E.trans XB10; replace NV := NV.ext XB10; replace LB7 := LB7.ext XB10; replace NA := NA.ext XB10; replace LB9 := LB9.ext XB10) | (clear TG11; have hRl := (RB10).lt (Nat.zero_lt_succ _); refine storesV (B := B10) rfl rfl rfl (v := z) rfl RB10 hZ ?_; clear LB10; intro s11 G11 LB10 RQ; have z12 := G11.size; replace E := grown_ext E G11 (by omega); replace NV := NV.grown G11 (by first | omega | (dsimp only [New]; omega)); replace LB7 := LB7.grown G11 (by omega); replace NA := NA.grown G11 (by first | omega | (dsimp only [New]; omega)); replace LB9 := LB9.grown G11 (by omega); clear RB10; have RB10 := RQ; clear RQ hRl; clear RB10) | (refine loadsV (B := B7) (by rfl) rfl rfl LB7 ?_) | (refine loadsV (B := B9) (by rfl) rfl rfl LB9 ?_))
  clear LB7 LB9
  refine (cq a v _ _ NA.is NV.is).mono ?_
  rintro e w45 ⟨rfl, x⟩
  have z13 := x.size
  replace E := E.trans x
  replace NV := NV.ext x
  replace NA := NA.ext x
  replace LB10 := LB10.ext x
  clear x
  have TB12 : True := trivial
  have TG15 : True := trivial
  go_wp2_with (first | (clear TB12; refine allocsV rfl rfl ?_; intro B12 w12 bB12 cB12 XB12 LB12 RB12; have z14 := XB12.size; replace E := E.trans XB12; replace NV := NV.ext XB12; replace NA := NA.ext XB12; replace LB10 := LB10.ext XB12) | (clear TG15; have hRl := (RB12).lt (Nat.zero_lt_succ _); refine storesV (B := B12) rfl rfl rfl (v := z) rfl RB12 hZ ?_; clear LB12; intro s15 G15 LB12 RQ; have z16 := G15.size; replace E := grown_ext E G15 (by omega); replace NV := NV.grown G15 (by first | omega | (dsimp only [New]; omega)); replace NA := NA.grown G15 (by first | omega | (dsimp only [New]; omega)); replace LB10 := LB10.grown G15 (by omega); clear RB12; have RB12 := RQ; clear RQ hRl; clear RB12))
  refine (cr _).mono ?_
  rintro e w52 ⟨rfl, x⟩
  have z17 := x.size
  replace E := E.trans x
  replace NV := NV.ext x
  replace NA := NA.ext x
  replace LB10 := LB10.ext x
  replace LB12 := LB12.ext x
  clear x
  go_wp2_with (refine loadsV (B := B10) (by rfl) rfl rfl LB10 ?_)
  clear LB10
  refine (kz _).mono ?_
  rintro e w61 ⟨rfl, x⟩
  have z18 := x.size
  replace E := E.trans x
  replace NV := NV.ext x
  replace NA := NA.ext x
  replace LB12 := LB12.ext x
  clear x
  go_wp2_with (refine loadgV (B := B12) (by rfl) rfl rfl LB12 ?_)
  clear LB12
  refine (kz _).mono ?_
  rintro e w65 ⟨rfl, x⟩
  have z19 := x.size
  replace E := E.trans x
  replace NV := NV.ext x
  replace NA := NA.ext x
  clear x
  go_wp2_with fail
  refine (aawake_any _).mono ?_
  rintro e w79 ⟨rfl, x⟩
  have z20 := x.size
  replace E := E.trans x
  replace NV := NV.ext x
  replace NA := NA.ext x
  clear x
  go_wp2_with fail
  go_ret
  exact ⟨rfl, E⟩
theorem arithOthers_n3 (hn : n = l.length) (hm : m = b.length) (hwb : ∀ x ∈ b, x < 18446744073709551616) (h3 : n ≤ 200) (h4 : m ≤ 200) (hs : Sl w 1 A n (i32s l)) (hs' : Sl w 1 B m (f64s b)) (hfb : allF b = true) (hle : lenOk (n : Int) (m : Int) = false) (hf : ¬ f < 1) (hf2 : ¬ 8 < f) : Calls Try.prog 10 #[.int .i64 f, .slice A n c, .slice B m c'] w fun e w' => e = .returned (.bool true) ∧ Ext w w' := by
  have ck := fun w hs => kept_yes B b m hm c' w (by omega) 4 hwb hfb hs
  have cc := fun w hs => chars_v A l n hn c w (by omega) hs
  have lb : (dnL b).length = m := by rw [dnL_length]; exact hm.symm
  have cp : ∀ v u K w, IsVec w v (VD.chars l) → IsNum w u K (dnL b) → Calls Try.prog 38 #[.int .i64 f, v, u] w fun e w' => e = .returned (.tuple #[zeroVec, .int .i64 (arO f n m)]) ∧ Ext w w' := fun v u K w hv hu => by
    obtain ⟨d, hd, _, _, _, hl⟩ := hu
    have h := ar_o f v u _ (.inl rfl) d w hv hd
    rwa [show (VD.chars l).len = n from hn.symm, show d.len = m by rw [← VD.nums_length, hl, lb]] at h
  have cq : ∀ v u K w, IsVec w v (VD.chars l) → IsNum w u K (dnL b) → Calls Try.prog 38 #[.int .i64 f, u, v] w fun e w' => e = .returned (.tuple #[zeroVec, .int .i64 (arO f n m)]) ∧ Ext w w' := fun v u K w hv hu => by
    obtain ⟨d, hd, hk, _, h4, hl⟩ := hu
    have h := ar_o2 f v u _ (.inl rfl) d (by rw [VD.cls_num (by omega)]; rfl) w hv hd
    rwa [show (VD.chars l).len = n from hn.symm, show d.len = m by rw [← VD.nums_length, hl, lb]] at h
  have cr : ∀ w, Calls Try.prog 30 #[.int .i64 (n : Int), .int .i64 (m : Int)] w fun e w' => e = .returned (.int .i64 (rlenV n m)) ∧ Ext w w' := fun w => (rlength_any (n : Int) (m : Int) w).mono fun e w2 h => ⟨h.1, h.2 ▸ Ext.refl _⟩
  rw [(rlen_no hle).1] at cr
  rw [show arO f n m = 23 by unfold arO; rw [if_neg (by omega), hle]; rfl] at cp cq
  obtain ⟨z, hz⟩ : ∃ z, zeroVec = z := ⟨_, rfl⟩
  have hZ := zeroVec_flat
  rw [hz] at cp cq hZ
  have kz := fun w => kind_zero z hz w
  have HS := Lib.hid hs
  have HS' := Lib.hid hs'
  clear hs hs' hn hm hwb hfb hz lb hle
  generalize VD.chars l = dc at *
  generalize dnL b = X at *
  have E := Ext.refl w
  go_enter Try.func10, Try.ntmps10
  go_wp2_with fail
  refine (ck _ (HS'.out.ext E)).mono ?_
  rintro e w26 ⟨v, kv, rfl, hq, x⟩
  have NV := hq.now
  have Fv := NV.is.flat
  clear hq
  have z1 := x.size
  replace E := E.trans x
  clear x
  have TB7 : True := trivial
  have TG3 : True := trivial
  go_wp2_with (first | (clear TB7; refine allocsV rfl rfl ?_; intro B7 w7 bB7 cB7 XB7 LB7 RB7; have z2 := XB7.size; replace E := E.trans XB7; replace NV := NV.ext XB7) | (clear TG3; have hRl := (RB7).lt (Nat.zero_lt_succ _); refine storesV (B := B7) rfl rfl rfl (v := v) rfl RB7 Fv ?_; clear LB7; intro s3 G3 LB7 RQ; have z4 := G3.size; replace E := grown_ext E G3 (by omega); replace NV := NV.grown G3 (by first | omega | (dsimp only [New]; omega)); clear RB7; have RB7 := RQ; clear RQ hRl; clear RB7))
  refine (cc _ (HS.out.ext E)).mono ?_
  rintro e w33 ⟨a, rfl, hq, x⟩
  have NA := hq.now
  have Fa := NA.is.flat
  clear hq
  have z5 := x.size
  replace E := E.trans x
  replace NV := NV.ext x
  replace LB7 := LB7.ext x
  clear x
  have TB9 : True := trivial
  have TG7 : True := trivial
  go_wp2_with (first | (clear TB9; refine allocsV rfl rfl ?_; intro B9 w9 bB9 cB9 XB9 LB9 RB9; have z6 := XB9.size; replace E := E.trans XB9; replace NV := NV.ext XB9; replace LB7 := LB7.ext XB9; replace NA := NA.ext XB9) | (clear TG7; have hRl := (RB9).lt (Nat.zero_lt_succ _); refine storesV (B := B9) rfl rfl rfl (v := a) rfl RB9 Fa ?_; clear LB9; intro s7 G7 LB9 RQ; have z8 := G7.size; replace E := grown_ext E G7 (by omega); replace NV := NV.grown G7 (by first | omega | (dsimp only [New]; omega)); replace LB7 := LB7.grown G7 (by omega); replace NA := NA.grown G7 (by first | omega | (dsimp only [New]; omega)); clear RB9; have RB9 := RQ; clear RQ hRl; clear RB9) | (refine loadsV (B := B9) (by rfl) rfl rfl LB9 ?_) | (refine loadsV (B := B7) (by rfl) rfl rfl LB7 ?_))
  refine (cp a v _ _ NA.is NV.is).mono ?_
  rintro e w38 ⟨rfl, x⟩
  have z9 := x.size
  replace E := E.trans x
  replace NV := NV.ext x
  replace LB7 := LB7.ext x
  replace NA := NA.ext x
  replace LB9 := LB9.ext x
  clear x
  have TB10 : True := trivial
  have TG11 : True := trivial
  go_wp2_with (first | (clear TB10; refine allocsV rfl rfl ?_; intro B10 w10 bB10 cB10 XB10 LB10 RB10; have z10 := XB10.size; replace E := E.trans XB10; replace NV := NV.ext XB10; replace LB7 := LB7.ext XB10; replace NA := NA.ext XB10; replace LB9 := LB9.ext XB10) | (clear TG11; have hRl := (RB10).lt (Nat.zero_lt_succ _); refine storesV (B := B10) rfl rfl rfl (v := z) rfl RB10 hZ ?_; clear LB10; intro s11 G11 LB10 RQ; have z12 := G11.size; replace E := grown_ext E G11 (by omega); replace NV := NV.grown G11 (by first | omega | (dsimp only [New]; omega)); replace LB7 := LB7.grown G11 (by omega); replace NA := NA.grown G11 (by first | omega | (dsimp only [New]; omega)); replace LB9 := LB9.grown G11 (by omega); clear RB10; have RB10 := RQ; clear RQ hRl; clear RB10) | (refine loadsV (B := B7) (by rfl) rfl rfl LB7 ?_) | (refine loadsV (B := B9) (by rfl) rfl rfl LB9 ?_))
  clear LB7 LB9
  refine (cq a v _ _ NA.is NV.is).mono ?_
  rintro e w45 ⟨rfl, x⟩
  have z13 := x.size
  replace E := E.trans x
  replace NV := NV.ext x
  replace NA := NA.ext x
  replace LB10 := LB10.ext x
  clear x
  have TB12 : True := trivial
  have TG15 : True := trivial
  go_wp2_with (first | (clear TB12; refine allocsV rfl rfl ?_; intro B12 w12 bB12 cB12 XB12 LB12 RB12; have z14 := XB12.size; replace E := E.trans XB12; replace NV := NV.ext XB12; replace NA := NA.ext XB12; replace LB10 := LB10.ext XB12) | (clear TG15; have hRl := (RB12).lt (Nat.zero_lt_succ _); refine storesV (B := B12) rfl rfl rfl (v := z) rfl RB12 hZ ?_; clear LB12; intro s15 G15 LB12 RQ; have z16 := G15.size; replace E := grown_ext E G15 (by omega); replace NV := NV.grown G15 (by first | omega | (dsimp only [New]; omega)); replace NA := NA.grown G15 (by first | omega | (dsimp only [New]; omega)); replace LB10 := LB10.grown G15 (by omega); clear RB12; have RB12 := RQ; clear RQ hRl; clear RB12))
  refine (cr _).mono ?_
  rintro e w52 ⟨rfl, x⟩
  have z17 := x.size
  replace E := E.trans x
  replace NV := NV.ext x
  replace NA := NA.ext x
  replace LB10 := LB10.ext x
  replace LB12 := LB12.ext x
  clear x
  go_wp2_with (refine loadsV (B := B10) (by rfl) rfl rfl LB10 ?_)
  clear LB10
  refine (kz _).mono ?_
  rintro e w61 ⟨rfl, x⟩
  have z18 := x.size
  replace E := E.trans x
  replace NV := NV.ext x
  replace NA := NA.ext x
  replace LB12 := LB12.ext x
  clear x
  go_wp2_with (refine loadgV (B := B12) (by rfl) rfl rfl LB12 ?_)
  clear LB12
  refine (kz _).mono ?_
  rintro e w65 ⟨rfl, x⟩
  have z19 := x.size
  replace E := E.trans x
  replace NV := NV.ext x
  replace NA := NA.ext x
  clear x
  go_wp2_with fail
  refine (aawake_any _).mono ?_
  rintro e w79 ⟨rfl, x⟩
  have z20 := x.size
  replace E := E.trans x
  replace NV := NV.ext x
  replace NA := NA.ext x
  clear x
  go_wp2_with fail
  go_ret
  exact ⟨rfl, E⟩
end
theorem arithOthers_walk (w : World) (f : Int) (_ : (Lit.int .i64 f).wf = true) (A : Option Addr) (l : List Int) (c : Nat) (_ : l.length ≤ c) (_ : c ≤ maxLen) (hs : Sl w 1 A l.length (l.map fun x => .int .i32 x)) (_ : ∀ x ∈ l, (Lit.int .i32 x).wf = true) (B : Option Addr) (b : List Nat) (c' : Nat) (_ : b.length ≤ c') (_ : c' ≤ maxLen) (hs' : Sl w 1 B b.length (b.map fun x => .float .f64 x)) (hw' : ∀ x ∈ b, (Lit.float .f64 x).wf = true) :
    Calls Try.prog 10 #[.int .i64 f, .slice A l.length c, .slice B b.length c'] w fun e w' => e = .returned (.bool true) ∧ Ext w w' := by
  have hwb : ∀ x ∈ b, x < 18446744073709551616 := fun x hx => by have := hw' x hx; simpa [Lit.wf] using this
  by_cases h3 : l.length ≤ 200
  · by_cases h4 : b.length ≤ 200
    · cases hfb : allF b
      · exact arithOthers_no w f A l.length c B b b.length c' rfl h3 h4 hs' hfb
      · cases hle : lenOk (l.length : Int) (b.length : Int)
        · by_cases f1 : f < 1
          · exact arithOthers_n1 w f A l l.length c B b b.length c' rfl rfl hwb h3 h4 hs hs' hfb hle f1
          · by_cases f2 : 8 < f
            · exact arithOthers_n2 w f A l l.length c B b b.length c' rfl rfl hwb h3 h4 hs hs' hfb hle f1 f2
            · exact arithOthers_n3 w f A l l.length c B b b.length c' rfl rfl hwb h3 h4 hs hs' hfb hle f1 f2
        · by_cases f1 : f < 1
          · exact arithOthers_y1 w f A l l.length c B b b.length c' rfl rfl hwb h3 h4 hs hs' hfb hle f1
          · by_cases f2 : 8 < f
            · exact arithOthers_y2 w f A l l.length c B b b.length c' rfl rfl hwb h3 h4 hs hs' hfb hle f1 f2
            · exact arithOthers_y3 w f A l l.length c B b b.length c' rfl rfl hwb h3 h4 hs hs' hfb hle f1 f2
    · exact arithOthers_long2 w f A l.length c B b.length c' h3 (by omega)
  · exact arithOthers_long1 w f A l.length c B b.length c' (by omega)
end Go.Proofs.Ytidnikndjhfgaaa
