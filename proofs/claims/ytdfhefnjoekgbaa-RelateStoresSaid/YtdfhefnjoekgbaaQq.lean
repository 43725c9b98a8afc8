/- SqueezeInto, for every input: the walk. -/
import Derived.Test.YtdfhefnjoekgbaaQp
namespace Go.Proofs.Ytdfhefnjoekgbaa
open Go.ChangeShapes Go.WideShapes Go.RowKit Bv Fl

theorem rfits_ext (A : Option Addr) (l : List Nat) (n : Nat) (hn : n = l.length) (c : Nat) (kind : Int) (w : World) (hl : n ≤ 1048576) (hs : Sl w 1 A n (f64s l)) : Calls Try.prog 16 #[.slice A n c, .int .i64 kind] w fun e w' => e = .returned (.bool (fitsL l kind)) ∧ Ext w w' := by
  refine (rfits_any A l n hn c kind w hl hs).mono ?_
  rintro e w' ⟨rfl, rfl⟩
  exact ⟨rfl, Ext.refl _⟩
/-- Into, where the numbers fit -/
def IntoY (v0 : Value) (K k : Nat) (l : List Nat) (w : World) (e : Ending) (w' : World) : Prop :=
  ∃ v, e = .returned (.tuple #[v, .bool true]) ∧ (∀ S, NumS w v0 K l S → NumS w' v k l (fun i => S i ∨ New w.heap.size i)) ∧ Ext w w'
theorem into_yes (v : Value) (K : Nat) (l : List Nat) (k : Nat) (hf : fitsL l (k : Int) = true) (w : World) (h : IsNum w v K l) : Calls Try.prog 17 #[v, .int .i64 (k : Int)] w (IntoY v K k l w) := by
  have hh := into_num v K l (k : Int) w h
  rw [hf, Int.toNat_natCast] at hh
  refine hh.mono ?_
  rintro e w' ⟨v2, rfl, hq, -, hx⟩
  exact ⟨v2, rfl, hq rfl, hx⟩
theorem into_no (v : Value) (K : Nat) (l : List Nat) (kind : Int) (hf : fitsL l kind = false) (w : World) (h : IsNum w v K l) : Calls Try.prog 17 #[v, .int .i64 kind] w fun e w' => e = .returned (.tuple #[zeroVec, .bool false]) ∧ Ext w w' := by
  have hh := into_num v K l kind w h
  rw [hf] at hh
  refine hh.mono ?_
  rintro e w' ⟨v2, rfl, -, hz, hx⟩
  rw [hz rfl]
  exact ⟨rfl, hx⟩
theorem fits_nat {l : List Nat} {kind : Int} (h : fitsL l kind = true) : ∃ k : Nat, kind = k := by
  have := of_decide_eq_true h
  exact Int.eq_ofNat_of_zero_le (by omega)

set_option maxHeartbeats 1000000
set_option maxRecDepth 100000 in
theorem squeezeInto_no (w : World) (A : Option Addr) (l : List Nat) (c : Nat) (hs : Sl w 1 A l.length (f64s l)) (h5 : l.length ≤ 500) (hf : allF l = false) (kind fr : Int) :
    Calls Try.prog 3 #[.slice A l.length c, .int .i64 kind, .int .i64 fr] w fun e w' => e = .returned (.bool true) ∧ Ext w w' := by
  obtain ⟨n, hn⟩ : ∃ n, n = l.length := ⟨_, rfl⟩
  have ct := fun w hs => rtidyL_no A l n hn c w (by omega) hf hs
  rw [← hn] at hs h5 ⊢
  clear hn hf
  have E := Ext.refl w
  go_enter Try.func3, Try.ntmps3
  go_wp2_with fail
  refine (ct _ (hs.ext E)).mono ?_
  rintro e w1 ⟨t, rfl, x⟩
  have z1 := x.size
  replace E := E.trans x
  clear x
  go_wp2_with fail
  refine (awake_any _).mono ?_
  rintro e w5 ⟨rfl, x⟩
  have z2 := x.size
  replace E := E.trans x
  clear x
  go_wp2
  go_ret
  exact ⟨rfl, E⟩

set_option maxHeartbeats 2000000 in
set_option maxRecDepth 100000 in
theorem squeezeInto_yy (w : World) (A : Option Addr) (l : List Nat) (c : Nat) (hs : Sl w 1 A l.length (f64s l)) (hw : ∀ x ∈ l, x < 18446744073709551616) (h5 : l.length ≤ 500) (hf : allF l = true) (kf : Nat) (kk : Nat) (g1 : fitsL (dnL l) (kf : Int) = true) (g2 : fitsL (dnL l) (kk : Int) = true) :
    Calls Try.prog 3 #[.slice A l.length c, .int .i64 (kk : Int), .int .i64 (kf : Int)] w fun e w' => e = .returned (.bool true) ∧ Ext w w' := by
  obtain ⟨n, hn⟩ : ∃ n, n = l.length := ⟨_, rfl⟩
  have hL : n = (dnL l).length := by rw [dnL_length]; exact hn
  have hT := dnL_tidy hw
  have ct := fun w hs => rtidyL_yes A l n hn c w (by omega) hf hs
  have cf := fun w hs => floats_yes A l n hn hw hf c w (by omega) hs
  rw [← hn] at hs h5 ⊢
  clear hn hf hw
  generalize dnL l = L at *
  have cF1 := fun B cb w hs => rfits_ext B L n hL cb (kf : Int) w (by omega) hs
  have cF2 := fun B cb w hs => rfits_ext B L n hL cb (kk : Int) w (by omega) hs
  rw [g1] at cF1
  rw [g2] at cF2
  have ci1 := fun v w h => into_yes v 4 L kf g1 w h
  have ci2 := fun v w h => into_yes v kf L kk g2 w h
  have cq := fun v K w h => squeeze_num v K L w h
  have cl := fun v K w h => least_any v K L w h
  have crl := fun B cb w hs => rleast_ext B L n hL cb w (by omega) hs
  have cs := fun B B' cb cb' w hs hs' => same_yes B B' L n cb cb' hL w (by omega) hT hs hs'
  have cnu := fun v K w h => nnums_sl v K L n hL w h
  clear hL hT g1 g2
  generalize leastL L = r at *
  have E := Ext.refl w
  go_enter Try.func3, Try.ntmps3
  go_wp2_with fail
  refine (ct _ (hs.ext E)).mono ?_
  rintro e w1 ⟨T, tc, rfl, ST, x⟩
  have z1 := x.size
  replace E := E.trans x
  have E1 := Ext.refl w1
  clear x
  go_wp2_with fail
  refine (cf _ (hs.ext E)).mono ?_
  rintro e w2 ⟨v1, rfl, N1, x⟩
  have z2 := x.size
  replace E := E.trans x
  replace E1 := E1.trans x
  have F1 := N1.is.flat
  replace N1 := N1.now
  clear x
  go_wp2_with (first | (refine allocsV rfl rfl ?_; intro B9 u9 bB9 cB9 x K9 R9; have z3 := x.size; replace E := E.trans x; replace E1 := E1.trans x; replace N1 := N1.ext x; clear x) | (have hRl := (R9).lt (Nat.zero_lt_succ _); refine storesV (B := B9) rfl rfl rfl (v := v1) rfl R9 F1 ?_; clear K9; intro t9 g K9 RQ; have z4 := g.size; replace E := grown_ext E g (by omega); replace E1 := grown_ext E1 g (by omega); replace N1 := N1.grown g (by dsimp only [New]; omega); clear R9; have R9 := RQ; clear RQ hRl; clear g))
  refine (cF1 _ _ _ (ST.ext E1)).mono ?_
  rintro e w3 ⟨rfl, x⟩
  have z5 := x.size
  replace E := E.trans x
  replace E1 := E1.trans x
  replace N1 := N1.ext x
  replace K9 := K9.ext x
  replace R9 := R9.ext x
  clear x
  go_wp2_with (refine loadsV (B := B9) (by rfl) rfl rfl K9 ?_)
  have M1 := N1
  refine (ci1 v1 _ N1.is).mono ?_
  rintro e w4 ⟨v2, rfl, hq, x⟩
  have N2 := (hq _ N1).now
  clear hq M1
  have z6 := x.size
  replace E := E.trans x
  replace E1 := E1.trans x
  replace N1 := N1.ext x
  replace K9 := K9.ext x
  replace R9 := R9.ext x
  clear x
  have F2 := N2.is.flat
  clear N1
  go_wp2_with (first | (have hRl := (R9).lt (Nat.zero_lt_succ _); refine storesV (B := B9) rfl rfl rfl (v := v2) rfl R9 F2 ?_; clear K9; intro w5 g K9 RQ; have z7 := g.size; replace E := grown_ext E g (by omega); replace E1 := grown_ext E1 g (by omega); replace N2 := N2.grown g (by dsimp only [New]; omega); clear R9; have R9 := RQ; clear RQ hRl; clear g) | (refine loadsV (B := B9) (by rfl) rfl rfl K9 ?_))
  refine (nkind_any v2 kf L _ N2.is).mono ?_
  rintro e w6 ⟨rfl, x⟩
  have z8 := x.size
  replace E := E.trans x
  replace E1 := E1.trans x
  replace K9 := K9.ext x
  replace R9 := R9.ext x
  replace N2 := N2.ext x
  clear x
  go_wp2_with (refine loadsV (B := B9) (by rfl) rfl rfl K9 ?_)
  refine (ci2 v2 _ N2.is).mono ?_
  rintro e w7 ⟨v3, rfl, hq, x⟩
  have N3 := (hq _ N2).now
  clear hq
  have z9 := x.size
  replace E := E.trans x
  replace E1 := E1.trans x
  replace K9 := K9.ext x
  replace R9 := R9.ext x
  replace N2 := N2.ext x
  clear x
  have F3 := N3.is.flat
  go_wp2_with (first | (refine allocsV rfl rfl ?_; intro B11 u11 bB11 cB11 x K11 R11; have z10 := x.size; replace E := E.trans x; replace E1 := E1.trans x; replace K9 := K9.ext x; replace R9 := R9.ext x; replace N2 := N2.ext x; replace N3 := N3.ext x; clear x) | (have hRl := (R11).lt (Nat.zero_lt_succ _); refine storesV (B := B11) rfl rfl rfl (v := v3) rfl R11 F3 ?_; clear K11; intro t11 g K11 RQ; have z11 := g.size; replace E := grown_ext E g (by omega); replace E1 := grown_ext E1 g (by omega); replace K9 := K9.grown g (by omega); replace R9 := R9.grown g (by omega); replace N2 := N2.grown g (by dsimp only [New]; omega); replace N3 := N3.grown g (by dsimp only [New]; omega); clear R11; have R11 := RQ; clear RQ hRl; clear g))
  refine (cF2 _ _ _ (ST.ext E1)).mono ?_
  rintro e w8 ⟨rfl, x⟩
  have z12 := x.size
  replace E := E.trans x
  replace E1 := E1.trans x
  replace K9 := K9.ext x
  replace R9 := R9.ext x
  replace N2 := N2.ext x
  replace N3 := N3.ext x
  replace K11 := K11.ext x
  replace R11 := R11.ext x
  clear x
  go_wp2_with (refine loadsV (B := B11) (by rfl) rfl rfl K11 ?_)
  refine (cq v3 kk _ N3.is).mono ?_
  rintro e w9 ⟨v4, rfl, hq, x⟩
  have N4 := (hq _ N3).now
  clear hq
  have z13 := x.size
  replace E := E.trans x
  replace E1 := E1.trans x
  replace K9 := K9.ext x
  replace R9 := R9.ext x
  replace N2 := N2.ext x
  replace N3 := N3.ext x
  replace K11 := K11.ext x
  replace R11 := R11.ext x
  clear x
  have F4 := N4.is.flat
  go_wp2_with (first | (refine allocsV rfl rfl ?_; intro B13 u13 bB13 cB13 x K13 R13; have z14 := x.size; replace E := E.trans x; replace E1 := E1.trans x; replace K9 := K9.ext x; replace R9 := R9.ext x; replace N2 := N2.ext x; replace N3 := N3.ext x; replace K11 := K11.ext x; replace R11 := R11.ext x; replace N4 := N4.ext x; clear x) | (have hRl := (R13).lt (Nat.zero_lt_succ _); refine storesV (B := B13) rfl rfl rfl (v := v4) rfl R13 F4 ?_; clear K13; intro t13 g K13 RQ; have z15 := g.size; replace E := grown_ext E g (by omega); replace E1 := grown_ext E1 g (by omega); replace K9 := K9.grown g (by omega); replace R9 := R9.grown g (by omega); replace N2 := N2.grown g (by dsimp only [New]; omega); replace N3 := N3.grown g (by dsimp only [New]; omega); replace K11 := K11.grown g (by omega); replace R11 := R11.grown g (by omega); replace N4 := N4.grown g (by dsimp only [New]; omega); clear R13; have R13 := RQ; clear RQ hRl; clear g) | (refine loadsV (B := B11) (by rfl) rfl rfl K11 ?_))
  clear ct cf cF1 cF2 ci2 cq R9 R11 R13 F1 F3 F4
  refine (nkind_any v3 kk L _ N3.is).mono ?_
  rintro e w10 ⟨rfl, x⟩
  have z16 := x.size
  replace E := E.trans x
  replace E1 := E1.trans x
  replace K9 := K9.ext x
  replace N2 := N2.ext x
  replace N3 := N3.ext x
  replace K11 := K11.ext x
  replace N4 := N4.ext x
  replace K13 := K13.ext x
  clear x
  go_wp2_with (refine loadgV (B := B11) (by rfl) rfl rfl K11 ?_)
  refine (cnu v3 kk _ N3.is).mono ?_
  rintro e w11 ⟨P3, cP3, rfl, SP3, x⟩
  have z17 := x.size
  replace E := E.trans x
  replace E1 := E1.trans x
  replace K9 := K9.ext x
  replace N2 := N2.ext x
  replace N3 := N3.ext x
  replace K11 := K11.ext x
  replace N4 := N4.ext x
  replace K13 := K13.ext x
  clear x
  go_wp2_with fail
  refine (cs _ _ _ _ _ SP3 (ST.ext E1)).mono ?_
  rintro e w12 ⟨rfl, x⟩
  have z18 := x.size
  replace E := E.trans x
  replace E1 := E1.trans x
  replace K9 := K9.ext x
  replace N2 := N2.ext x
  replace N3 := N3.ext x
  replace K11 := K11.ext x
  replace N4 := N4.ext x
  replace K13 := K13.ext x
  clear x
  clear SP3
  go_wp2_with (refine loadgV (B := B13) (by rfl) rfl rfl K13 ?_)
  refine (nkind_any v4 r L _ N4.is).mono ?_
  rintro e w13 ⟨rfl, x⟩
  have z19 := x.size
  replace E := E.trans x
  replace E1 := E1.trans x
  replace K9 := K9.ext x
  replace N2 := N2.ext x
  replace N3 := N3.ext x
  replace K11 := K11.ext x
  replace N4 := N4.ext x
  replace K13 := K13.ext x
  clear x
  go_wp2_with fail
  refine (crl _ _ _ (ST.ext E1)).mono ?_
  rintro e w14 ⟨rfl, x⟩
  have z20 := x.size
  replace E := E.trans x
  replace E1 := E1.trans x
  replace K9 := K9.ext x
  replace N2 := N2.ext x
  replace N3 := N3.ext x
  replace K11 := K11.ext x
  replace N4 := N4.ext x
  replace K13 := K13.ext x
  clear x
  go_wp2_with (refine loadgV (B := B11) (by rfl) rfl rfl K11 ?_)
  refine (cl v3 kk _ N3.is).mono ?_
  rintro e w15 ⟨rfl, x⟩
  have z21 := x.size
  replace E := E.trans x
  replace E1 := E1.trans x
  replace K9 := K9.ext x
  replace N2 := N2.ext x
  replace N3 := N3.ext x
  replace K11 := K11.ext x
  replace N4 := N4.ext x
  replace K13 := K13.ext x
  clear x
  go_wp2_with fail
  refine (crl _ _ _ (ST.ext E1)).mono ?_
  rintro e w16 ⟨rfl, x⟩
  have z22 := x.size
  replace E := E.trans x
  replace E1 := E1.trans x
  replace K9 := K9.ext x
  replace N2 := N2.ext x
  replace N3 := N3.ext x
  replace K11 := K11.ext x
  replace N4 := N4.ext x
  replace K13 := K13.ext x
  clear x
  go_wp2_with (refine loadgV (B := B13) (by rfl) rfl rfl K13 ?_)
  refine (cnu v4 r _ N4.is).mono ?_
  rintro e w17 ⟨P4, cP4, rfl, SP4, x⟩
  have z23 := x.size
  replace E := E.trans x
  replace E1 := E1.trans x
  replace K9 := K9.ext x
  replace N2 := N2.ext x
  replace N3 := N3.ext x
  replace K11 := K11.ext x
  replace N4 := N4.ext x
  replace K13 := K13.ext x
  clear x
  go_wp2_with fail
  refine (cs _ _ _ _ _ SP4 (ST.ext E1)).mono ?_
  rintro e w18 ⟨rfl, x⟩
  have z24 := x.size
  replace E := E.trans x
  replace E1 := E1.trans x
  replace K9 := K9.ext x
  replace N2 := N2.ext x
  replace N3 := N3.ext x
  replace K11 := K11.ext x
  replace N4 := N4.ext x
  replace K13 := K13.ext x
  clear x
  clear SP4
  go_wp2_with fail
  refine (awake_any _).mono ?_
  rintro e w20 ⟨rfl, x⟩
  have z25 := x.size
  replace E := E.trans x
  replace E1 := E1.trans x
  replace K9 := K9.ext x
  replace N2 := N2.ext x
  replace N3 := N3.ext x
  replace K11 := K11.ext x
  replace N4 := N4.ext x
  replace K13 := K13.ext x
  clear x
  go_wp2
  go_ret
  exact ⟨rfl, E⟩

set_option maxHeartbeats 2000000 in
set_option maxRecDepth 100000 in
theorem squeezeInto_yn (w : World) (A : Option Addr) (l : List Nat) (c : Nat) (hs : Sl w 1 A l.length (f64s l)) (hw : ∀ x ∈ l, x < 18446744073709551616) (h5 : l.length ≤ 500) (hf : allF l = true) (kf : Nat) (kd : Int) (g1 : fitsL (dnL l) (kf : Int) = true) (g2 : fitsL (dnL l) kd = false) :
    Calls Try.prog 3 #[.slice A l.length c, .int .i64 kd, .int .i64 (kf : Int)] w fun e w' => e = .returned (.bool true) ∧ Ext w w' := by
  obtain ⟨n, hn⟩ : ∃ n, n = l.length := ⟨_, rfl⟩
  have hL : n = (dnL l).length := by rw [dnL_length]; exact hn
  have hT := dnL_tidy hw
  have ct := fun w hs => rtidyL_yes A l n hn c w (by omega) hf hs
  have cf := fun w hs => floats_yes A l n hn hw hf c w (by omega) hs
  rw [← hn] at hs h5 ⊢
  clear hn hf hw
  generalize dnL l = L at *
  have cF1 := fun B cb w hs => rfits_ext B L n hL cb (kf : Int) w (by omega) hs
  have cF2 := fun B cb w hs => rfits_ext B L n hL cb kd w (by omega) hs
  rw [g1] at cF1
  rw [g2] at cF2
  have ci1 := fun v w h => into_yes v 4 L kf g1 w h
  have ci2 := fun v w h => into_no v kf L kd g2 w h
  obtain ⟨z, hz⟩ : ∃ z, zeroVec = z := ⟨_, rfl⟩
  have hF := zeroVec_flat
  have ck := fun w => kind_zero z hz w
  rw [hz] at ci2 hF
  have HZ := Lib.hid hz
  clear hz
  have cq := fun v K w h => squeeze_num v K L w h
  have cl := fun v K w h => least_any v K L w h
  have crl := fun B cb w hs => rleast_ext B L n hL cb w (by omega) hs
  have cs := fun B B' cb cb' w hs hs' => same_yes B B' L n cb cb' hL w (by omega) hT hs hs'
  have cnu := fun v K w h => nnums_sl v K L n hL w h
  clear hL hT g1 g2
  generalize leastL L = r at *
  have E := Ext.refl w
  go_enter Try.func3, Try.ntmps3
  go_wp2_with fail
  refine (ct _ (hs.ext E)).mono ?_
  rintro e w1 ⟨T, tc, rfl, ST, x⟩
  have z1 := x.size
  replace E := E.trans x
  have E1 := Ext.refl w1
  clear x
  go_wp2_with fail
  refine (cf _ (hs.ext E)).mono ?_
  rintro e w2 ⟨v1, rfl, N1, x⟩
  have z2 := x.size
  replace E := E.trans x
  replace E1 := E1.trans x
  have F1 := N1.is.flat
  replace N1 := N1.now
  clear x
  go_wp2_with (first | (refine allocsV rfl rfl ?_; intro B9 u9 bB9 cB9 x K9 R9; have z3 := x.size; replace E := E.trans x; replace E1 := E1.trans x; replace N1 := N1.ext x; clear x) | (have hRl := (R9).lt (Nat.zero_lt_succ _); refine storesV (B := B9) rfl rfl rfl (v := v1) rfl R9 F1 ?_; clear K9; intro t9 g K9 RQ; have z4 := g.size; replace E := grown_ext E g (by omega); replace E1 := grown_ext E1 g (by omega); replace N1 := N1.grown g (by dsimp only [New]; omega); clear R9; have R9 := RQ; clear RQ hRl; clear g))
  refine (cF1 _ _ _ (ST.ext E1)).mono ?_
  rintro e w3 ⟨rfl, x⟩
  have z5 := x.size
  replace E := E.trans x
  replace E1 := E1.trans x
  replace N1 := N1.ext x
  replace K9 := K9.ext x
  replace R9 := R9.ext x
  clear x
  go_wp2_with (refine loadsV (B := B9) (by rfl) rfl rfl K9 ?_)
  have M1 := N1
  refine (ci1 v1 _ N1.is).mono ?_
  rintro e w4 ⟨v2, rfl, hq, x⟩
  have N2 := (hq _ N1).now
  clear hq M1
  have z6 := x.size
  replace E := E.trans x
  replace E1 := E1.trans x
  replace N1 := N1.ext x
  replace K9 := K9.ext x
  replace R9 := R9.ext x
  clear x
  have F2 := N2.is.flat
  clear N1
  go_wp2_with (first | (have hRl := (R9).lt (Nat.zero_lt_succ _); refine storesV (B := B9) rfl rfl rfl (v := v2) rfl R9 F2 ?_; clear K9; intro w5 g K9 RQ; have z7 := g.size; replace E := grown_ext E g (by omega); replace E1 := grown_ext E1 g (by omega); replace N2 := N2.grown g (by dsimp only [New]; omega); clear R9; have R9 := RQ; clear RQ hRl; clear g) | (refine loadsV (B := B9) (by rfl) rfl rfl K9 ?_))
  refine (nkind_any v2 kf L _ N2.is).mono ?_
  rintro e w6 ⟨rfl, x⟩
  have z8 := x.size
  replace E := E.trans x
  replace E1 := E1.trans x
  replace K9 := K9.ext x
  replace R9 := R9.ext x
  replace N2 := N2.ext x
  clear x
  go_wp2_with (refine loadsV (B := B9) (by rfl) rfl rfl K9 ?_)
  refine (ci2 v2 _ N2.is).mono ?_
  rintro e w7 ⟨rfl, x⟩
  have z9 := x.size
  replace E := E.trans x
  replace E1 := E1.trans x
  replace K9 := K9.ext x
  replace R9 := R9.ext x
  replace N2 := N2.ext x
  clear x
  go_wp2_with (first | (refine allocsV rfl rfl ?_; intro B11 u11 bB11 cB11 x K11 R11; have z10 := x.size; replace E := E.trans x; replace E1 := E1.trans x; replace K9 := K9.ext x; replace R9 := R9.ext x; replace N2 := N2.ext x; clear x) | (have hRl := (R11).lt (Nat.zero_lt_succ _); refine storesV (B := B11) rfl rfl rfl (v := z) rfl R11 hF ?_; clear K11; intro t11 g K11 RQ; have z11 := g.size; replace E := grown_ext E g (by omega); replace E1 := grown_ext E1 g (by omega); replace K9 := K9.grown g (by omega); replace R9 := R9.grown g (by omega); replace N2 := N2.grown g (by dsimp only [New]; omega); clear R11; have R11 := RQ; clear RQ hRl; clear g))
  refine (cF2 _ _ _ (ST.ext E1)).mono ?_
  rintro e w8 ⟨rfl, x⟩
  have z12 := x.size
  replace E := E.trans x
  replace E1 := E1.trans x
  replace K9 := K9.ext x
  replace R9 := R9.ext x
  replace N2 := N2.ext x
  replace K11 := K11.ext x
  replace R11 := R11.ext x
  clear x
  go_wp2_with (refine loadsV (B := B11) (by rfl) rfl rfl K11 ?_)
  refine (ck _).mono ?_
  rintro e w9 ⟨rfl, x⟩
  have z13 := x.size
  replace E := E.trans x
  replace E1 := E1.trans x
  replace K9 := K9.ext x
  replace R9 := R9.ext x
  replace N2 := N2.ext x
  replace K11 := K11.ext x
  replace R11 := R11.ext x
  clear x
  go_wp2_with fail
  refine (awake_any _).mono ?_
  rintro e w20 ⟨rfl, x⟩
  have z14 := x.size
  replace E := E.trans x
  replace E1 := E1.trans x
  replace K9 := K9.ext x
  replace R9 := R9.ext x
  replace N2 := N2.ext x
  replace K11 := K11.ext x
  replace R11 := R11.ext x
  clear x
  go_wp2
  go_ret
  exact ⟨rfl, E⟩

set_option maxHeartbeats 2000000 in
set_option maxRecDepth 100000 in
theorem squeezeInto_ny (w : World) (A : Option Addr) (l : List Nat) (c : Nat) (hs : Sl w 1 A l.length (f64s l)) (hw : ∀ x ∈ l, x < 18446744073709551616) (h5 : l.length ≤ 500) (hf : allF l = true) (fr : Int) (kk : Nat) (g1 : fitsL (dnL l) fr = false) (g2 : fitsL (dnL l) (kk : Int) = true) :
    Calls Try.prog 3 #[.slice A l.length c, .int .i64 (kk : Int), .int .i64 fr] w fun e w' => e = .returned (.bool true) ∧ Ext w w' := by
  obtain ⟨n, hn⟩ : ∃ n, n = l.length := ⟨_, rfl⟩
  have hL : n = (dnL l).length := by rw [dnL_length]; exact hn
  have hT := dnL_tidy hw
  have ct := fun w hs => rtidyL_yes A l n hn c w (by omega) hf hs
  have cf := fun w hs => floats_yes A l n hn hw hf c w (by omega) hs
  rw [← hn] at hs h5 ⊢
  clear hn hf hw
  generalize dnL l = L at *
  have cF1 := fun B cb w hs => rfits_ext B L n hL cb fr w (by omega) hs
  have cF2 := fun B cb w hs => rfits_ext B L n hL cb (kk : Int) w (by omega) hs
  rw [g1] at cF1
  rw [g2] at cF2
  have ci2 := fun v w h => into_yes v 4 L kk g2 w h
  have cq := fun v K w h => squeeze_num v K L w h
  have cl := fun v K w h => least_any v K L w h
  have crl := fun B cb w hs => rleast_ext B L n hL cb w (by omega) hs
  have cs := fun B B' cb cb' w hs hs' => same_yes B B' L n cb cb' hL w (by omega) hT hs hs'
  have cnu := fun v K w h => nnums_sl v K L n hL w h
  clear hL hT g1 g2
  generalize leastL L = r at *
  have E := Ext.refl w
  go_enter Try.func3, Try.ntmps3
  go_wp2_with fail
  refine (ct _ (hs.ext E)).mono ?_
  rintro e w1 ⟨T, tc, rfl, ST, x⟩
  have z1 := x.size
  replace E := E.trans x
  have E1 := Ext.refl w1
  clear x
  go_wp2_with fail
  refine (cf _ (hs.ext E)).mono ?_
  rintro e w2 ⟨v1, rfl, N1, x⟩
  have z2 := x.size
  replace E := E.trans x
  replace E1 := E1.trans x
  have F1 := N1.is.flat
  replace N1 := N1.now
  clear x
  go_wp2_with (first | (refine allocsV rfl rfl ?_; intro B9 u9 bB9 cB9 x K9 R9; have z3 := x.size; replace E := E.trans x; replace E1 := E1.trans x; replace N1 := N1.ext x; clear x) | (have hRl := (R9).lt (Nat.zero_lt_succ _); refine storesV (B := B9) rfl rfl rfl (v := v1) rfl R9 F1 ?_; clear K9; intro t9 g K9 RQ; have z4 := g.size; replace E := grown_ext E g (by omega); replace E1 := grown_ext E1 g (by omega); replace N1 := N1.grown g (by dsimp only [New]; omega); clear R9; have R9 := RQ; clear RQ hRl; clear g))
  refine (cF1 _ _ _ (ST.ext E1)).mono ?_
  rintro e w3 ⟨rfl, x⟩
  have z5 := x.size
  replace E := E.trans x
  replace E1 := E1.trans x
  replace N1 := N1.ext x
  replace K9 := K9.ext x
  replace R9 := R9.ext x
  clear x
  go_wp2_with (refine loadsV (B := B9) (by rfl) rfl rfl K9 ?_)
  refine (ci2 v1 _ N1.is).mono ?_
  rintro e w7 ⟨v3, rfl, hq, x⟩
  have N3 := (hq _ N1).now
  clear hq
  have z6 := x.size
  replace E := E.trans x
  replace E1 := E1.trans x
  replace N1 := N1.ext x
  replace K9 := K9.ext x
  replace R9 := R9.ext x
  clear x
  have F3 := N3.is.flat
  go_wp2_with (first | (refine allocsV rfl rfl ?_; intro B11 u11 bB11 cB11 x K11 R11; have z7 := x.size; replace E := E.trans x; replace E1 := E1.trans x; replace N1 := N1.ext x; replace K9 := K9.ext x; replace R9 := R9.ext x; replace N3 := N3.ext x; clear x) | (have hRl := (R11).lt (Nat.zero_lt_succ _); refine storesV (B := B11) rfl rfl rfl (v := v3) rfl R11 F3 ?_; clear K11; intro t11 g K11 RQ; have z8 := g.size; replace E := grown_ext E g (by omega); replace E1 := grown_ext E1 g (by omega); replace N1 := N1.grown g (by dsimp only [New]; omega); replace K9 := K9.grown g (by omega); replace R9 := R9.grown g (by omega); replace N3 := N3.grown g (by dsimp only [New]; omega); clear R11; have R11 := RQ; clear RQ hRl; clear g))
  refine (cF2 _ _ _ (ST.ext E1)).mono ?_
  rintro e w8 ⟨rfl, x⟩
  have z9 := x.size
  replace E := E.trans x
  replace E1 := E1.trans x
  replace N1 := N1.ext x
  replace K9 := K9.ext x
  replace R9 := R9.ext x
  replace N3 := N3.ext x
  replace K11 := K11.ext x
  replace R11 := R11.ext x
  clear x
  go_wp2_with (refine loadsV (B := B11) (by rfl) rfl rfl K11 ?_)
  refine (cq v3 kk _ N3.is).mono ?_
  rintro e w9 ⟨v4, rfl, hq, x⟩
  have N4 := (hq _ N3).now
  clear hq
  have z10 := x.size
  replace E := E.trans x
  replace E1 := E1.trans x
  replace N1 := N1.ext x
  replace K9 := K9.ext x
  replace R9 := R9.ext x
  replace N3 := N3.ext x
  replace K11 := K11.ext x
  replace R11 := R11.ext x
  clear x
  have F4 := N4.is.flat
  go_wp2_with (first | (refine allocsV rfl rfl ?_; intro B13 u13 bB13 cB13 x K13 R13; have z11 := x.size; replace E := E.trans x; replace E1 := E1.trans x; replace N1 := N1.ext x; replace K9 := K9.ext x; replace R9 := R9.ext x; replace N3 := N3.ext x; replace K11 := K11.ext x; replace R11 := R11.ext x; replace N4 := N4.ext x; clear x) | (have hRl := (R13).lt (Nat.zero_lt_succ _); refine storesV (B := B13) rfl rfl rfl (v := v4) rfl R13 F4 ?_; clear K13; intro t13 g K13 RQ; have z12 := g.size; replace E := grown_ext E g (by omega); replace E1 := grown_ext E1 g (by omega); replace N1 := N1.grown g (by dsimp only [New]; omega); replace K9 := K9.grown g (by omega); replace R9 := R9.grown g (by omega); replace N3 := N3.grown g (by dsimp only [New]; omega); replace K11 := K11.grown g (by omega); replace R11 := R11.grown g (by omega); replace N4 := N4.grown g (by dsimp only [New]; omega); clear R13; have R13 := RQ; clear RQ hRl; clear g) | (refine loadsV (B := B11) (by rfl) rfl rfl K11 ?_))
  clear ct cf cF1 cF2 ci2 cq R9 R11 R13 F1 F3 F4
  refine (nkind_any v3 kk L _ N3.is).mono ?_
  rintro e w10 ⟨rfl, x⟩
  have z13 := x.size
  replace E := E.trans x
  replace E1 := E1.trans x
  replace N1 := N1.ext x
  replace K9 := K9.ext x
  replace N3 := N3.ext x
  replace K11 := K11.ext x
  replace N4 := N4.ext x
  replace K13 := K13.ext x
  clear x
  go_wp2_with (refine loadgV (B := B11) (by rfl) rfl rfl K11 ?_)
  refine (cnu v3 kk _ N3.is).mono ?_
  rintro e w11 ⟨P3, cP3, rfl, SP3, x⟩
  have z14 := x.size
  replace E := E.trans x
  replace E1 := E1.trans x
  replace N1 := N1.ext x
  replace K9 := K9.ext x
  replace N3 := N3.ext x
  replace K11 := K11.ext x
  replace N4 := N4.ext x
  replace K13 := K13.ext x
  clear x
  go_wp2_with fail
  refine (cs _ _ _ _ _ SP3 (ST.ext E1)).mono ?_
  rintro e w12 ⟨rfl, x⟩
  have z15 := x.size
  replace E := E.trans x
  replace E1 := E1.trans x
  replace N1 := N1.ext x
  replace K9 := K9.ext x
  replace N3 := N3.ext x
  replace K11 := K11.ext x
  replace N4 := N4.ext x
  replace K13 := K13.ext x
  clear x
  clear SP3
  go_wp2_with (refine loadgV (B := B13) (by rfl) rfl rfl K13 ?_)
  refine (nkind_any v4 r L _ N4.is).mono ?_
  rintro e w13 ⟨rfl, x⟩
  have z16 := x.size
  replace E := E.trans x
  replace E1 := E1.trans x
  replace N1 := N1.ext x
  replace K9 := K9.ext x
  replace N3 := N3.ext x
  replace K11 := K11.ext x
  replace N4 := N4.ext x
  replace K13 := K13.ext x
  clear x
  go_wp2_with fail
  refine (crl _ _ _ (ST.ext E1)).mono ?_
  rintro e w14 ⟨rfl, x⟩
  have z17 := x.size
  replace E := E.trans x
  replace E1 := E1.trans x
  replace N1 := N1.ext x
  replace K9 := K9.ext x
  replace N3 := N3.ext x
  replace K11 := K11.ext x
  replace N4 := N4.ext x
  replace K13 := K13.ext x
  clear x
  go_wp2_with (refine loadgV (B := B11) (by rfl) rfl rfl K11 ?_)
  refine (cl v3 kk _ N3.is).mono ?_
  rintro e w15 ⟨rfl, x⟩
  have z18 := x.size
  replace E := E.trans x
  replace E1 := E1.trans x
  replace N1 := N1.ext x
  replace K9 := K9.ext x
  replace N3 := N3.ext x
  replace K11 := K11.ext x
  replace N4 := N4.ext x
  replace K13 := K13.ext x
  clear x
  go_wp2_with fail
  refine (crl _ _ _ (ST.ext E1)).mono ?_
  rintro e w16 ⟨rfl, x⟩
  have z19 := x.size
  replace E := E.trans x
  replace E1 := E1.trans x
  replace N1 := N1.ext x
  replace K9 := K9.ext x
  replace N3 := N3.ext x
  replace K11 := K11.ext x
  replace N4 := N4.ext x
  replace K13 := K13.ext x
  clear x
  go_wp2_with (refine loadgV (B := B13) (by rfl) rfl rfl K13 ?_)
  refine (cnu v4 r _ N4.is).mono ?_
  rintro e w17 ⟨P4, cP4, rfl, SP4, x⟩
  have z20 := x.size
  replace E := E.trans x
  replace E1 := E1.trans x
  replace N1 := N1.ext x
  replace K9 := K9.ext x
  replace N3 := N3.ext x
  replace K11 := K11.ext x
  replace N4 := N4.ext x
  replace K13 := K13.ext x
  clear x
  go_wp2_with fail
  refine (cs _ _ _ _ _ SP4 (ST.ext E1)).mono ?_
  rintro e w18 ⟨rfl, x⟩
  have z21 := x.size
  replace E := E.trans x
  replace E1 := E1.trans x
  replace N1 := N1.ext x
  replace K9 := K9.ext x
  replace N3 := N3.ext x
  replace K11 := K11.ext x
  replace N4 := N4.ext x
  replace K13 := K13.ext x
  clear x
  clear SP4
  go_wp2_with fail
  refine (awake_any _).mono ?_
  rintro e w20 ⟨rfl, x⟩
  have z22 := x.size
  replace E := E.trans x
  replace E1 := E1.trans x
  replace N1 := N1.ext x
  replace K9 := K9.ext x
  replace N3 := N3.ext x
  replace K11 := K11.ext x
  replace N4 := N4.ext x
  replace K13 := K13.ext x
  clear x
  go_wp2
  go_ret
  exact ⟨rfl, E⟩

set_option maxHeartbeats 2000000 in
set_option maxRecDepth 100000 in
theorem squeezeInto_nn (w : World) (A : Option Addr) (l : List Nat) (c : Nat) (hs : Sl w 1 A l.length (f64s l)) (hw : ∀ x ∈ l, x < 18446744073709551616) (h5 : l.length ≤ 500) (hf : allF l = true) (fr : Int) (kd : Int) (g1 : fitsL (dnL l) fr = false) (g2 : fitsL (dnL l) kd = false) :
    Calls Try.prog 3 #[.slice A l.length c, .int .i64 kd, .int .i64 fr] w fun e w' => e = .returned (.bool true) ∧ Ext w w' := by
  obtain ⟨n, hn⟩ : ∃ n, n = l.length := ⟨_, rfl⟩
  have hL : n = (dnL l).length := by rw [dnL_length]; exact hn
  have hT := dnL_tidy hw
  have ct := fun w hs => rtidyL_yes A l n hn c w (by omega) hf hs
  have cf := fun w hs => floats_yes A l n hn hw hf c w (by omega) hs
  rw [← hn] at hs h5 ⊢
  clear hn hf hw
  generalize dnL l = L at *
  have cF1 := fun B cb w hs => rfits_ext B L n hL cb fr w (by omega) hs
  have cF2 := fun B cb w hs => rfits_ext B L n hL cb kd w (by omega) hs
  rw [g1] at cF1
  rw [g2] at cF2
  have ci2 := fun v w h => into_no v 4 L kd g2 w h
  obtain ⟨z, hz⟩ : ∃ z, zeroVec = z := ⟨_, rfl⟩
  have hF := zeroVec_flat
  have ck := fun w => kind_zero z hz w
  rw [hz] at ci2 hF
  have HZ := Lib.hid hz
  clear hz
  have cq := fun v K w h => squeeze_num v K L w h
  have cl := fun v K w h => least_any v K L w h
  have crl := fun B cb w hs => rleast_ext B L n hL cb w (by omega) hs
  have cs := fun B B' cb cb' w hs hs' => same_yes B B' L n cb cb' hL w (by omega) hT hs hs'
  have cnu := fun v K w h => nnums_sl v K L n hL w h
  clear hL hT g1 g2
  generalize leastL L = r at *
  have E := Ext.refl w
  go_enter Try.func3, Try.ntmps3
  go_wp2_with fail
  refine (ct _ (hs.ext E)).mono ?_
  rintro e w1 ⟨T, tc, rfl, ST, x⟩
  have z1 := x.size
  replace E := E.trans x
  have E1 := Ext.refl w1
  clear x
  go_wp2_with fail
  refine (cf _ (hs.ext E)).mono ?_
  rintro e w2 ⟨v1, rfl, N1, x⟩
  have z2 := x.size
  replace E := E.trans x
  replace E1 := E1.trans x
  have F1 := N1.is.flat
  replace N1 := N1.now
  clear x
  go_wp2_with (first | (refine allocsV rfl rfl ?_; intro B9 u9 bB9 cB9 x K9 R9; have z3 := x.size; replace E := E.trans x; replace E1 := E1.trans x; replace N1 := N1.ext x; clear x) | (have hRl := (R9).lt (Nat.zero_lt_succ _); refine storesV (B := B9) rfl rfl rfl (v := v1) rfl R9 F1 ?_; clear K9; intro t9 g K9 RQ; have z4 := g.size; replace E := grown_ext E g (by omega); replace E1 := grown_ext E1 g (by omega); replace N1 := N1.grown g (by dsimp only [New]; omega); clear R9; have R9 := RQ; clear RQ hRl; clear g))
  refine (cF1 _ _ _ (ST.ext E1)).mono ?_
  rintro e w3 ⟨rfl, x⟩
  have z5 := x.size
  replace E := E.trans x
  replace E1 := E1.trans x
  replace N1 := N1.ext x
  replace K9 := K9.ext x
  replace R9 := R9.ext x
  clear x
  go_wp2_with (refine loadsV (B := B9) (by rfl) rfl rfl K9 ?_)
  refine (ci2 v1 _ N1.is).mono ?_
  rintro e w7 ⟨rfl, x⟩
  have z6 := x.size
  replace E := E.trans x
  replace E1 := E1.trans x
  replace N1 := N1.ext x
  replace K9 := K9.ext x
  replace R9 := R9.ext x
  clear x
  go_wp2_with (first | (refine allocsV rfl rfl ?_; intro B11 u11 bB11 cB11 x K11 R11; have z7 := x.size; replace E := E.trans x; replace E1 := E1.trans x; replace N1 := N1.ext x; replace K9 := K9.ext x; replace R9 := R9.ext x; clear x) | (have hRl := (R11).lt (Nat.zero_lt_succ _); refine storesV (B := B11) rfl rfl rfl (v := z) rfl R11 hF ?_; clear K11; intro t11 g K11 RQ; have z8 := g.size; replace E := grown_ext E g (by omega); replace E1 := grown_ext E1 g (by omega); replace N1 := N1.grown g (by dsimp only [New]; omega); replace K9 := K9.grown g (by omega); replace R9 := R9.grown g (by omega); clear R11; have R11 := RQ; clear RQ hRl; clear g))
  refine (cF2 _ _ _ (ST.ext E1)).mono ?_
  rintro e w8 ⟨rfl, x⟩
  have z9 := x.size
  replace E := E.trans x
  replace E1 := E1.trans x
  replace N1 := N1.ext x
  replace K9 := K9.ext x
  replace R9 := R9.ext x
  replace K11 := K11.ext x
  replace R11 := R11.ext x
  clear x
  go_wp2_with (refine loadsV (B := B11) (by rfl) rfl rfl K11 ?_)
  refine (ck _).mono ?_
  rintro e w9 ⟨rfl, x⟩
  have z10 := x.size
  replace E := E.trans x
  replace E1 := E1.trans x
  replace N1 := N1.ext x
  replace K9 := K9.ext x
  replace R9 := R9.ext x
  replace K11 := K11.ext x
  replace R11 := R11.ext x
  clear x
  go_wp2_with fail
  refine (awake_any _).mono ?_
  rintro e w20 ⟨rfl, x⟩
  have z11 := x.size
  replace E := E.trans x
  replace E1 := E1.trans x
  replace N1 := N1.ext x
  replace K9 := K9.ext x
  replace R9 := R9.ext x
  replace K11 := K11.ext x
  replace R11 := R11.ext x
  clear x
  go_wp2
  go_ret
  exact ⟨rfl, E⟩

theorem squeezeInto_walk (w : World) (A : Option Addr) (l : List Nat) (c : Nat) (_ : l.length ≤ c) (_ : c ≤ maxLen) (hs : Sl w 1 A l.length (l.map fun x => .float .f64 x)) (hw : ∀ x ∈ l, (Lit.float .f64 x).wf = true) (kind : Int) (_ : (Lit.int .i64 kind).wf = true) (fr : Int) (_ : (Lit.int .i64 fr).wf = true) :
    Calls Try.prog 3 #[.slice A l.length c, .int .i64 kind, .int .i64 fr] w fun e w' => e = .returned (.bool true) ∧ Ext w w' := by
  by_cases h5 : l.length ≤ 500
  · have hw' : ∀ x ∈ l, x < 18446744073709551616 := fun x hx => by have := hw x hx; simpa [Lit.wf] using this
    cases hf : allF l
    · exact squeezeInto_no w A l c hs h5 hf kind fr
    · cases g1 : fitsL (dnL l) fr
      · cases g2 : fitsL (dnL l) kind
        · exact squeezeInto_nn w A l c hs hw' h5 hf fr kind g1 g2
        · obtain ⟨kk, rfl⟩ := fits_nat g2
          exact squeezeInto_ny w A l c hs hw' h5 hf fr kk g1 g2
      · obtain ⟨kf, rfl⟩ := fits_nat g1
        cases g2 : fitsL (dnL l) kind
        · exact squeezeInto_yn w A l c hs hw' h5 hf kf kind g1 g2
        · obtain ⟨kk, rfl⟩ := fits_nat g2
          exact squeezeInto_yy w A l c hs hw' h5 hf kf kk g1 g2
  · have ct := awake_any w
    clear hs hw
    generalize l.length = m at *
    go_enter Try.func3, Try.ntmps3
    go_wp2_with fail
    refine ct.mono ?_
    rintro e w1 ⟨rfl, hx⟩
    go_wp2
    go_ret
    exact ⟨rfl, hx⟩
end Go.Proofs.Ytdfhefnjoekgbaa
