/- relate.Apply of numbers, of letters; awake; RelateOne. -/
import Derived.Test.YtdfhefnjoekgbaaRl
import Derived.Test.YtdfhefnjoekgbaaRg
namespace Go.Proofs.Ytdfhefnjoekgbaa
open Go.ChangeShapes Go.WideShapes Go.RowKit Bv Fl
/-- what comes of two lists of numbers: the error -/
def relE (f : Int) (m n : Nat) : Int := if f < 11 ∨ 16 < f then 1 else if lenOk (m : Int) (n : Int) = false then 23 else 0
def relLL (f : Int) (x y : List Nat) : List Bool := if relE f x.length y.length = 0 then relL f x y (lenV (x.length : Int) (y.length : Int)).toNat else []
def relD (f : Int) (x y : List Nat) : VD := if relE f x.length y.length = 0 then VD.bits (relLL f x y) else VD.none
theorem num_bits {w : World} {v : Value} {l : List Nat} (h : IsNum w v 1 l) : ∃ b, l = (VD.bits b).nums ∧ toB l = b := by
  obtain ⟨d, hv, hk, _, _, rfl⟩ := h
  have hd : ∃ b, d = VD.bits b := by
    rcases hv with ⟨rfl, _⟩ | ⟨l, A, c, rfl, _⟩ | ⟨l, A, c, rfl, _, hb, _⟩ | ⟨l, A, c, rfl, _, hb, _⟩ | ⟨l, A, c, rfl, _, hb, _⟩ | ⟨l, A, c, rfl, _⟩ | ⟨n, cs, A, c, rfl, _⟩
    · cases hk
    · exact ⟨l, rfl⟩
    all_goals cases hk
  obtain ⟨b, rfl⟩ := hd
  have := bitsOf_bits b
  unfold bitsOf at this
  rw [if_pos (by rfl)] at this
  exact ⟨b, rfl, this⟩
theorem pk_bits (b : List Bool) (N i : Nat) (hx : b.length = N ∨ b.length = 1) (hi : i < N) : pkN (VD.bits b).nums i = bitW (pkB b i) := by
  have hl : (VD.bits b).nums.length = b.length := by rw [VD.nums_length]; rfl
  have g : ∀ j, j < b.length → (VD.bits b).nums.getD j 0 = bitW (b.getD j false) := fun j hj => by
    simp only [VD.nums, List.getD]
    rw [List.getElem?_map, List.getElem?_range (by show j < (VD.bits b).len; exact hj)]
    rfl
  unfold pkN pkB ixN
  rw [hl]
  by_cases h1 : b.length = 1
  · rw [if_pos h1, if_neg (by omega), g 0 (by omega)]
  · rw [if_neg h1, if_pos (by omega), g i (by omega)]
theorem ttL_rel (f : Int) (b c : List Bool) (N : Nat) (hb : b.length = N ∨ b.length = 1) (hc : c.length = N ∨ c.length = 1) : ttL (tblR f) (sprL b N) (sprL c N) = relL f (VD.bits b).nums (VD.bits c).nums N := by
  unfold ttL relL
  rw [sprL_length]
  apply tabL_ext
  intro j hj
  rw [sprL_get b N j hb hj, sprL_get c N j hc hj, ttb_rel, pk_bits b N j hb hj, pk_bits c N j hc hj]
theorem rapply_num (f : Int) (v u : Value) (K J : Nat) (x y : List Nat) (hx1 : x.length ≤ 1048576) (hy1 : y.length ≤ 1048576) (w : World) (hv : IsNum w v K x) (hu : IsNum w u J y) : Calls Try.prog 49 #[.int .i64 f, v, u] w (AppU (relE f x.length y.length) (relD f x y) w) := by
  have hF := hv.flat
  have hG := hu.flat
  have ca : ∀ w', Ext w w' → Calls Try.prog 30 #[v] w' fun e w2 => e = .returned (.int .i64 (x.length : Int)) ∧ Ext w' w2 := fun w' h => nlen_any v K x w' (hv.ext h)
  have cb : ∀ w', Ext w w' → Calls Try.prog 30 #[u] w' fun e w2 => e = .returned (.int .i64 (y.length : Int)) ∧ Ext w' w2 := fun w' h => nlen_any u J y w' (hu.ext h)
  have da : ∀ w', Ext w w' → Calls Try.prog 56 #[v] w' fun e w2 => e = .returned (.int .i64 0) ∧ Ext w' w2 := fun w' h => nclass_any v K x w' (hv.ext h)
  have db : ∀ w', Ext w w' → Calls Try.prog 56 #[u] w' fun e w2 => e = .returned (.int .i64 0) ∧ Ext w' w2 := fun w' h => nclass_any u J y w' (hu.ext h)
  have err : ∀ k : Int, k ≠ 0 → relE f x.length y.length = k → Calls Try.prog 49 #[.int .i64 f, v, u] w (fun e w' => e = .returned (.tuple #[zeroVec, .int .i64 k]) ∧ Ext w w') → Calls Try.prog 49 #[.int .i64 f, v, u] w (AppU (relE f x.length y.length) (relD f x y) w) := by
    intro k hk hE h
    refine h.mono ?_
    rintro e w' ⟨rfl, hx⟩
    refine ⟨_, by rw [hE], ?_, hx⟩
    unfold relD
    rw [if_neg (by rw [hE]; exact hk)]
    exact VecS.zero
  by_cases h1 : f < 11
  · exact err 1 (by decide) (by unfold relE; rw [if_pos (.inl h1)]) (rapp_bad1 f v u w h1 hF hG)
  by_cases h2 : 16 < f
  · exact err 1 (by decide) (by unfold relE; rw [if_pos (.inr h2)]) (rapp_bad2 f v u w h1 h2 hF hG)
  have hf : 11 ≤ f ∧ f ≤ 16 := by omega
  cases hle : lenOk (x.length : Int) (y.length : Int)
  · exact err 23 (by decide) (by unfold relE; rw [if_neg (by omega), if_pos hle]) (rapp_len f v u w hf _ _ ca cb hle hF hG)
  obtain ⟨N, hN, hNm, hNn, hNo⟩ := lenV_pos hle
  have hN2 : N ≤ 1048576 := by omega
  have hE : relE f x.length y.length = 0 := by unfold relE; rw [if_neg (by omega), if_neg (by rw [hle]; decide)]
  have hD : relD f x y = VD.bits (relL f x y N) := by unfold relD relLL; rw [if_pos hE, if_pos hE, hN, Int.toNat_natCast]
  rw [hE, hD]
  have hxN : x.length = N ∨ x.length = 1 := by omega
  have hyN : y.length = N ∨ y.length = 1 := by omega
  have cn : ∀ w', Ext w w' → Calls Try.prog 81 #[.int .i64 f, .int .i64 (N : Int), v, u] w' fun e w2 => ∃ p, e = .returned p ∧ VecS w2 p (VD.bits (relL f x y N)) (New w'.heap.size) ∧ Ext w' w2 := fun w' h => numbers_r f v u K J x y N hN2 hxN hyN w' (hv.ext h) (hu.ext h)
  have sy : ∀ (v : Value) (x : List Nat), IsNum w v 1 x → (x.length = N ∨ x.length = 1) → ∀ w', Ext w w' → Calls Try.prog 79 #[v, .int .i64 (N : Int)] w' fun e w2 => ∃ q, e = .returned (.tuple #[q, .bool true]) ∧ BitS w2 q (sprL (toB x) N) (fun i => i < w.heap.size ∨ New w'.heap.size i) ∧ Ext w' w2 := fun v x hv hx w' h =>
    (spread_yes v (toB x) N (by rw [toB_length]; exact hx) hN2 w' ((NumS.all hv).bits.is.ext h)).mono fun e w2 => by
      rintro ⟨q, rfl, hq, hx⟩
      exact ⟨q, rfl, hq _ ((NumS.all hv).bits.ext h), hx⟩
  have sn : ∀ (v : Value) (K : Nat) (x : List Nat), K ≠ 1 → IsNum w v K x → ∀ w', Ext w w' → Calls Try.prog 79 #[v, .int .i64 (N : Int)] w' fun e w2 => e = .returned (.tuple #[zeroBits, .bool false]) ∧ Ext w' w2 := fun v K x hK hv w' h => by
    obtain ⟨d, hd, rfl, _⟩ := hv
    exact spread_no v d hK N w' (hd.ext h)
  by_cases k1 : K = 1
  · subst k1
    by_cases j1 : J = 1
    · subst j1
      obtain ⟨b, hb, hb2⟩ := num_bits hv
      obtain ⟨c, hc, hc2⟩ := num_bits hu
      have hL : ttL (tblR f) (sprL (toB x) N) (sprL (toB y) N) = relL f x y N := by
        have e1 : b.length = x.length := by rw [← hb2, toB_length]
        have e2 : c.length = y.length := by rw [← hc2, toB_length]
        rw [hb2, hc2, hb, hc]
        exact ttL_rel f b c N (by omega) (by omega)
      rw [← hL]
      exact rapp_bits f v u w hf _ _ ca cb hle N hN da db _ _ (by rw [sprL_length, sprL_length]) (sy v x hv hxN) (sy u y hu hyN) hF hG
    · exact rapp_num2 f v u w hf _ _ ca cb hle N hN da db _ cn _ (sy v x hv hxN) (sn u J y j1 hu) hF hG
  · refine rapp_num1 f v u w hf _ _ ca cb hle N hN da db _ cn (sn v K x k1 hv) (fun w' h => ?_) hF hG
    by_cases j1 : J = 1
    · subst j1
      refine (sy u y hu hyN w' h).mono ?_
      rintro e w2 ⟨q, rfl, hq, hx⟩
      exact ⟨q, _, rfl, hq.is.flat, hx⟩
    · refine (sn u J y j1 hu w' h).mono ?_
      rintro e w2 ⟨rfl, hx⟩
      exact ⟨_, _, rfl, zeroBits_flat, hx⟩
/-- alike letters -/
theorem rapply_let (v u : Value) (p q : List Int) (N : Nat) (hle : lenOk (p.length : Int) (q.length : Int) = true) (hN : lenV (p.length : Int) (q.length : Int) = (N : Int)) (hN2 : N ≤ 1048576) (w : World) (hv : IsVec w v (VD.chars p)) (hu : IsVec w u (VD.chars q)) :
    Calls Try.prog 49 #[.int .i64 13, v, u] w (AppU 0 (VD.bits (tabL N fun k => (VD.chars p).chrI (ixN (VD.chars p).len k : Nat) == (VD.chars q).chrI (ixN (VD.chars q).len k : Nat))) w) := by
  have hF := hv.flat
  have hG := hu.flat
  have ca : ∀ w', Ext w w' → Calls Try.prog 30 #[v] w' fun e w2 => e = .returned (.int .i64 (p.length : Int)) ∧ Ext w' w2 := fun w' h => vlen_any v _ w' (hv.ext h)
  have cb : ∀ w', Ext w w' → Calls Try.prog 30 #[u] w' fun e w2 => e = .returned (.int .i64 (q.length : Int)) ∧ Ext w' w2 := fun w' h => vlen_any u _ w' (hu.ext h)
  have da : ∀ w', Ext w w' → Calls Try.prog 56 #[v] w' fun e w2 => e = .returned (.int .i64 1) ∧ Ext w' w2 := fun w' h => vclass_any v _ w' (hv.ext h)
  have db : ∀ w', Ext w w' → Calls Try.prog 56 #[u] w' fun e w2 => e = .returned (.int .i64 1) ∧ Ext w' w2 := fun w' h => vclass_any u _ w' (hu.ext h)
  exact rapp_chars2_yes 13 v u w (by omega) _ _ ca cb hle N hN 1 1 da db rfl rfl rfl rfl _ (fun w' h => chars_eq v u w' N hN2 hF hG 1 1 (fun w2 h2 => da w2 (h.trans h2)) (fun w2 h2 => db w2 (h.trans h2)) rfl _ _ fun k _ => ⟨_, _, fun w2 h2 => at_r v _ k w2 (hv.ext (h.trans h2)), fun w2 h2 => vchar_any v _ _ w2 (hv.ext (h.trans h2)), fun w2 h2 => at_r u _ k w2 (hu.ext (h.trans h2)), fun w2 h2 => vchar_any u _ _ w2 (hu.ext (h.trans h2))⟩) hF hG
theorem chars_v (A : Option Addr) (l : List Int) (n : Nat) (hn : n = l.length) (c : Nat) (w : World) (hl : n ≤ 1048576) (hs : Sl w 1 A n (i32s l)) : Calls Try.prog 26 #[.slice A n c] w fun e w' => ∃ v, e = .returned v ∧ VecS w' v (VD.chars l) (New w.heap.size) ∧ Ext w w' := by
  refine (chars_s A l n hn c w hl hs).mono ?_
  rintro e w' ⟨B, cb, rfl, h1, hx⟩
  exact ⟨_, rfl, h1, hx⟩
set_option maxHeartbeats 2000000
set_option maxRecDepth 100000
attribute [local go_sem ↓] Go.wp_at_zero Go.wp_at_succ
theorem rawake_any (w : World) : Calls Try.prog 46 #[] w fun e w' => e = .returned (.bool true) ∧ Ext w w' := by
  have n1 : ∀ A w, Sl w 1 A 2 (f64s [4607182418800017408, 4617315517961601024]) → Calls Try.prog 24 #[.slice A 2 2] w (NewNum 2 (dnL [4607182418800017408, 4617315517961601024]) w) := fun A w hs => by
    have h := numbers_yes A [4607182418800017408, 4617315517961601024] 2 rfl (by intro x hx; simp at hx; omega) (by kernel_rfl) 2 w (by omega) hs
    rwa [show leastL (dnL [4607182418800017408, 4617315517961601024]) = 2 by kernel_rfl] at h
  have n2 : ∀ A w, Sl w 1 A 1 (f64s [4613937818241073152]) → Calls Try.prog 24 #[.slice A 1 1] w (NewNum 2 (dnL [4613937818241073152]) w) := fun A w hs => by
    have h := numbers_yes A [4613937818241073152] 1 rfl (by intro x hx; simp at hx; omega) (by kernel_rfl) 1 w (by omega) hs
    rwa [show leastL (dnL [4613937818241073152]) = 2 by kernel_rfl] at h
  have ap : ∀ v u K J w, IsNum w v K (dnL [4607182418800017408, 4617315517961601024]) → IsNum w u J (dnL [4613937818241073152]) → Calls Try.prog 49 #[.int .i64 11, v, u] w (AppU 0 (VD.bits [true, false]) w) := fun v u K J w hv hu => by
    have h := rapply_num 11 v u K J _ _ (by decide) (by decide) w hv hu
    rwa [show relE 11 (dnL [4607182418800017408, 4617315517961601024]).length (dnL [4613937818241073152]).length = 0 by kernel_rfl, show relD 11 (dnL [4607182418800017408, 4617315517961601024]) (dnL [4613937818241073152]) = VD.bits [true, false] by kernel_rfl] at h
  have ac : ∀ v u w, IsVec w v (VD.chars [97, 98]) → IsVec w u (VD.chars [98]) → Calls Try.prog 49 #[.int .i64 13, v, u] w (AppU 0 (VD.bits [false, true]) w) := fun v u w hv hu => by
    have h := rapply_let v u [97, 98] [98] 2 (by decide) (by decide) (by decide) w hv hu
    rwa [show (tabL 2 fun k => (VD.chars [97, 98]).chrI (ixN (VD.chars [97, 98]).len k : Nat) == (VD.chars [98]).chrI (ixN (VD.chars [98]).len k : Nat)) = [false, true] by kernel_rfl] at h
  have cc : ∀ A w, Sl w 1 A 2 (i32s [97, 98]) → Calls Try.prog 26 #[.slice A 2 2] w fun e w' => ∃ v, e = .returned v ∧ VecS w' v (VD.chars [97, 98]) (New w.heap.size) ∧ Ext w w' := fun A w hs => chars_v A [97, 98] 2 rfl 2 w (by omega) hs
  have cd : ∀ A w, Sl w 1 A 1 (i32s [98]) → Calls Try.prog 26 #[.slice A 1 1] w fun e w' => ∃ v, e = .returned v ∧ VecS w' v (VD.chars [98]) (New w.heap.size) ∧ Ext w w' := fun A w hs => chars_v A [98] 1 rfl 1 w (by omega) hs
  generalize dnL [4607182418800017408, 4617315517961601024] = L1 at *
  generalize dnL [4613937818241073152] = L2 at *
  generalize VD.chars [97, 98] = D1 at *
  generalize VD.chars [98] = D2 at *
  have E := Ext.refl w
  go_enter Try.func46, Try.ntmps46
  go_wp2_with fail
  refine (n1 _ _ (Sl.lit _ #[.float .f64 4607182418800017408, .float .f64 4617315517961601024] _)).mono ?_
  rintro e w15 ⟨a, rfl, hq, x⟩
  have NA := hq.now
  have Fa := NA.is.flat
  clear hq
  replace x := ((Ext.refl _).alloc _).trans x
  have z1 := x.size
  replace E := E.trans x
  clear x
  have TB1 : True := trivial
  have TG3 : True := trivial
  go_wp2_with (first | (clear TB1; refine allocsV rfl rfl ?_; intro B1 w1 bB1 cB1 XB1 LB1 RB1; have z2 := XB1.size; replace E := E.trans XB1; replace NA := NA.ext XB1) | (clear TG3; have hRl := (RB1).lt (Nat.zero_lt_succ _); refine storesV (B := B1) rfl rfl rfl (v := a) rfl RB1 Fa ?_; clear LB1; intro s3 G3 LB1 RQ; have z4 := G3.size; replace E := grown_ext E G3 (by omega); replace NA := NA.grown G3 (by first | omega | (dsimp only [New]; omega)); clear RB1; have RB1 := RQ; clear RQ hRl; clear RB1))
  refine (n2 _ _ (Sl.lit _ #[.float .f64 4613937818241073152] _)).mono ?_
  rintro e w20 ⟨b, rfl, hq, x⟩
  have NB := hq.now
  have Fb := NB.is.flat
  clear hq
  replace x := ((Ext.refl _).alloc _).trans x
  have z5 := x.size
  replace E := E.trans x
  replace NA := NA.ext x
  replace LB1 := LB1.ext x
  clear x
  have TB3 : True := trivial
  have TG7 : True := trivial
  go_wp2_with (first | (clear TB3; refine allocsV rfl rfl ?_; intro B3 w3 bB3 cB3 XB3 LB3 RB3; have z6 := XB3.size; replace E := E.trans XB3; replace NA := NA.ext XB3; replace LB1 := LB1.ext XB3; replace NB := NB.ext XB3) | (clear TG7; have hRl := (RB3).lt (Nat.zero_lt_succ _); refine storesV (B := B3) rfl rfl rfl (v := b) rfl RB3 Fb ?_; clear LB3; intro s7 G7 LB3 RQ; have z8 := G7.size; replace E := grown_ext E G7 (by omega); replace NA := NA.grown G7 (by first | omega | (dsimp only [New]; omega)); replace LB1 := LB1.grown G7 (by omega); replace NB := NB.grown G7 (by first | omega | (dsimp only [New]; omega)); clear RB3; have RB3 := RQ; clear RQ hRl; clear RB3) | (refine loadsV (B := B1) (by rfl) rfl rfl LB1 ?_) | (refine loadsV (B := B3) (by rfl) rfl rfl LB3 ?_))
  clear LB1 LB3
  refine (ap a b _ _ _ NA.is NB.is).mono ?_
  rintro e w26 ⟨v, rfl, hq, x⟩
  have NV := hq.now
  have Fv := NV.is.flat
  clear hq
  have z9 := x.size
  replace E := E.trans x
  replace NA := NA.ext x
  replace NB := NB.ext x
  clear x
  have TB5 : True := trivial
  have TG11 : True := trivial
  go_wp2_with (first | (clear TB5; refine allocsV rfl rfl ?_; intro B5 w5 bB5 cB5 XB5 LB5 RB5; have z10 := XB5.size; replace E := E.trans XB5; replace NA := NA.ext XB5; replace NB := NB.ext XB5; replace NV := NV.ext XB5) | (clear TG11; have hRl := (RB5).lt (Nat.zero_lt_succ _); refine storesV (B := B5) rfl rfl rfl (v := v) rfl RB5 Fv ?_; clear LB5; intro s11 G11 LB5 RQ; have z12 := G11.size; replace E := grown_ext E G11 (by omega); replace NA := NA.grown G11 (by first | omega | (dsimp only [New]; omega)); replace NB := NB.grown G11 (by first | omega | (dsimp only [New]; omega)); replace NV := NV.grown G11 (by first | omega | (dsimp only [New]; omega)); clear RB5; have RB5 := RQ; clear RQ hRl; clear RB5))
  refine (cc _ _ (Sl.lit _ #[.int .i32 97, .int .i32 98] _)).mono ?_
  rintro e w31 ⟨c, rfl, hq, x⟩
  have NC := hq.now
  have Fc := NC.is.flat
  clear hq
  replace x := ((Ext.refl _).alloc _).trans x
  have z13 := x.size
  replace E := E.trans x
  replace NA := NA.ext x
  replace NB := NB.ext x
  replace NV := NV.ext x
  replace LB5 := LB5.ext x
  clear x
  go_wp2_with fail
  refine (cd _ _ (Sl.lit _ #[.int .i32 98] _)).mono ?_
  rintro e w33 ⟨d, rfl, hq, x⟩
  have ND := hq.now
  have Fd := ND.is.flat
  clear hq
  replace x := ((Ext.refl _).alloc _).trans x
  have z14 := x.size
  replace E := E.trans x
  replace NA := NA.ext x
  replace NB := NB.ext x
  replace NV := NV.ext x
  replace LB5 := LB5.ext x
  replace NC := NC.ext x
  clear x
  go_wp2_with fail
  refine (ac c d _ NC.is ND.is).mono ?_
  rintro e w34 ⟨u, rfl, hq, x⟩
  have NU := hq.now
  have Fu := NU.is.flat
  clear hq
  have z15 := x.size
  replace E := E.trans x
  replace NA := NA.ext x
  replace NB := NB.ext x
  replace NV := NV.ext x
  replace LB5 := LB5.ext x
  replace NC := NC.ext x
  replace ND := ND.ext x
  clear x
  have TB7 : True := trivial
  have TG17 : True := trivial
  go_wp2_with (first | (clear TB7; refine allocsV rfl rfl ?_; intro B7 w7 bB7 cB7 XB7 LB7 RB7; have z16 := XB7.size; replace E := E.trans XB7; replace NA := NA.ext XB7; replace NB := NB.ext XB7; replace NV := NV.ext XB7; replace LB5 := LB5.ext XB7; replace NC := NC.ext XB7; replace ND := ND.ext XB7; replace NU := NU.ext XB7) | (clear TG17; have hRl := (RB7).lt (Nat.zero_lt_succ _); refine storesV (B := B7) rfl rfl rfl (v := u) rfl RB7 Fu ?_; clear LB7; intro s17 G17 LB7 RQ; have z18 := G17.size; replace E := grown_ext E G17 (by omega); replace NA := NA.grown G17 (by first | omega | (dsimp only [New]; omega)); replace NB := NB.grown G17 (by first | omega | (dsimp only [New]; omega)); replace NV := NV.grown G17 (by first | omega | (dsimp only [New]; omega)); replace LB5 := LB5.grown G17 (by omega); replace NC := NC.grown G17 (by first | omega | (dsimp only [New]; omega)); replace ND := ND.grown G17 (by first | omega | (dsimp only [New]; omega)); replace NU := NU.grown G17 (by first | omega | (dsimp only [New]; omega)); clear RB7; have RB7 := RQ; clear RQ hRl; clear RB7) | (refine loadsV (B := B5) (by rfl) rfl rfl LB5 ?_))
  clear LB5
  refine (VecS.packed v _ _ NV.is).mono ?_
  rintro e w39 ⟨p, rfl, hq, x⟩
  have NP := hq _ NV
  have Fp := NP.is.flat
  clear hq
  have z19 := x.size
  replace E := E.trans x
  replace NA := NA.ext x
  replace NB := NB.ext x
  replace NV := NV.ext x
  replace NC := NC.ext x
  replace ND := ND.ext x
  replace NU := NU.ext x
  replace LB7 := LB7.ext x
  clear x
  have TB9 : True := trivial
  have TG21 : True := trivial
  go_wp2_with (first | (clear TB9; refine allocsB rfl rfl ?_; intro B9 w9 bB9 cB9 XB9 LB9 RB9; have z20 := XB9.size; replace E := E.trans XB9; replace NA := NA.ext XB9; replace NB := NB.ext XB9; replace NV := NV.ext XB9; replace NC := NC.ext XB9; replace ND := ND.ext XB9; replace NU := NU.ext XB9; replace LB7 := LB7.ext XB9; replace NP := NP.ext XB9) | (clear TG21; have hRl := (RB9).lt (Nat.zero_lt_succ _); refine storesB (B := B9) rfl rfl rfl (v := p) rfl RB9 Fp ?_; clear LB9; intro s21 G21 LB9 RQ; have z22 := G21.size; replace E := grown_ext E G21 (by omega); replace NA := NA.grown G21 (by first | omega | (dsimp only [New]; omega)); replace NB := NB.grown G21 (by first | omega | (dsimp only [New]; omega)); replace NV := NV.grown G21 (by first | omega | (dsimp only [New]; omega)); replace NC := NC.grown G21 (by first | omega | (dsimp only [New]; omega)); replace ND := ND.grown G21 (by first | omega | (dsimp only [New]; omega)); replace NU := NU.grown G21 (by first | omega | (dsimp only [New]; omega)); replace LB7 := LB7.grown G21 (by omega); replace NP := NP.grown G21 (by first | omega | (dsimp only [New]; omega)); clear RB9; have RB9 := RQ; clear RQ hRl; clear RB9) | (refine loadsV (B := B7) (by rfl) rfl rfl LB7 ?_))
  clear LB7
  refine (VecS.packed u _ _ NU.is).mono ?_
  rintro e w44 ⟨q, rfl, hq, x⟩
  have NQ := hq _ NU
  have Fq := NQ.is.flat
  clear hq
  have z23 := x.size
  replace E := E.trans x
  replace NA := NA.ext x
  replace NB := NB.ext x
  replace NV := NV.ext x
  replace NC := NC.ext x
  replace ND := ND.ext x
  replace NU := NU.ext x
  replace NP := NP.ext x
  replace LB9 := LB9.ext x
  clear x
  have TB11 : True := trivial
  have TG25 : True := trivial
  go_wp2_with (first | (clear TB11; refine allocsB rfl rfl ?_; intro B11 w11 bB11 cB11 XB11 LB11 RB11; have z24 := XB11.size; replace E := E.trans XB11; replace NA := NA.ext XB11; replace NB := NB.ext XB11; replace NV := NV.ext XB11; replace NC := NC.ext XB11; replace ND := ND.ext XB11; replace NU := NU.ext XB11; replace NP := NP.ext XB11; replace LB9 := LB9.ext XB11; replace NQ := NQ.ext XB11) | (clear TG25; have hRl := (RB11).lt (Nat.zero_lt_succ _); refine storesB (B := B11) rfl rfl rfl (v := q) rfl RB11 Fq ?_; clear LB11; intro s25 G25 LB11 RQ; have z26 := G25.size; replace E := grown_ext E G25 (by omega); replace NA := NA.grown G25 (by first | omega | (dsimp only [New]; omega)); replace NB := NB.grown G25 (by first | omega | (dsimp only [New]; omega)); replace NV := NV.grown G25 (by first | omega | (dsimp only [New]; omega)); replace NC := NC.grown G25 (by first | omega | (dsimp only [New]; omega)); replace ND := ND.grown G25 (by first | omega | (dsimp only [New]; omega)); replace NU := NU.grown G25 (by first | omega | (dsimp only [New]; omega)); replace NP := NP.grown G25 (by first | omega | (dsimp only [New]; omega)); replace LB9 := LB9.grown G25 (by omega); replace NQ := NQ.grown G25 (by first | omega | (dsimp only [New]; omega)); clear RB11; have RB11 := RQ; clear RQ hRl; clear RB11) | (refine loadgB (B := B9) (by rfl) rfl rfl LB9 ?_))
  clear LB9
  refine (unpack_sl p _ 2 rfl _ NP.is).mono ?_
  rintro e w62 ⟨B, cb, rfl, SB, x⟩
  have z27 := x.size
  replace E := E.trans x
  replace NA := NA.ext x
  replace NB := NB.ext x
  replace NV := NV.ext x
  replace NC := NC.ext x
  replace ND := ND.ext x
  replace NU := NU.ext x
  replace NP := NP.ext x
  replace NQ := NQ.ext x
  replace LB11 := LB11.ext x
  clear x
  go_wp2_with fail
  refine (bools_same B _ [true, false] 2 2 cb 2 rfl rfl _ (by omega) (SB.ext ((Ext.refl _).alloc _)) (Sl.lit _ #[.bool true, .bool false] _)).mono ?_
  rintro e w64 ⟨rfl, x⟩
  replace x := ((Ext.refl _).alloc _).trans x
  have z28 := x.size
  replace E := E.trans x
  replace NA := NA.ext x
  replace NB := NB.ext x
  replace NV := NV.ext x
  replace NC := NC.ext x
  replace ND := ND.ext x
  replace NU := NU.ext x
  replace NP := NP.ext x
  replace NQ := NQ.ext x
  replace LB11 := LB11.ext x
  replace SB := SB.ext x
  clear x
  go_wp2_with (refine loadgB (B := B11) (by rfl) rfl rfl LB11 ?_)
  clear LB11
  refine (unpack_sl q _ 2 rfl _ NQ.is).mono ?_
  rintro e w68 ⟨B2, cb2, rfl, SB2, x⟩
  have z29 := x.size
  replace E := E.trans x
  replace NA := NA.ext x
  replace NB := NB.ext x
  replace NV := NV.ext x
  replace NC := NC.ext x
  replace ND := ND.ext x
  replace NU := NU.ext x
  replace NP := NP.ext x
  replace NQ := NQ.ext x
  clear x
  go_wp2_with fail
  refine (bools_same B2 _ [false, true] 2 2 cb2 2 rfl rfl _ (by omega) (SB2.ext ((Ext.refl _).alloc _)) (Sl.lit _ #[.bool false, .bool true] _)).mono ?_
  rintro e w70 ⟨rfl, x⟩
  replace x := ((Ext.refl _).alloc _).trans x
  have z30 := x.size
  replace E := E.trans x
  replace NA := NA.ext x
  replace NB := NB.ext x
  replace NV := NV.ext x
  replace NC := NC.ext x
  replace ND := ND.ext x
  replace NU := NU.ext x
  replace NP := NP.ext x
  replace NQ := NQ.ext x
  replace SB2 := SB2.ext x
  clear x
  go_wp2_with fail
  go_ret
  exact ⟨rfl, E⟩
section
variable (w : World) (f : Int) (a b : Nat)
end
end Go.Proofs.Ytdfhefnjoekgbaa
