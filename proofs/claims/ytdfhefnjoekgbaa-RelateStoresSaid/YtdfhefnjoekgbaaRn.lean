/- RelateStores. -/
import Derived.Test.YtdfhefnjoekgbaaRm
import Derived.Test.YtdfhefnjoekgbaaQp
namespace Go.Proofs.Ytdfhefnjoekgbaa
open Go.ChangeShapes Go.WideShapes Go.RowKit Bv Fl
set_option maxHeartbeats 4000000
set_option maxRecDepth 100000
section
variable (w : World) (f : Int) (A : Option Addr) (a : List Nat) (n : Nat) (c : Nat) (B : Option Addr) (b : List Nat) (m : Nat) (c' : Nat) (j k : Int)
theorem relateStores_long1 (h : 300 < n) : Calls Try.prog 11 #[.int .i64 f, .slice A n c, .slice B m c', .int .i64 j, .int .i64 k] w fun e w' => e = .returned (.bool true) ∧ Ext w w' := by
  have E := Ext.refl w
  go_enter Try.func11, Try.ntmps11
  go_wp2_with fail
  refine (rawake_any _).mono ?_
  rintro e w37 ⟨rfl, x⟩
  have z1 := x.size
  replace E := E.trans x
  clear x
  go_wp2_with fail
  go_ret
  exact ⟨rfl, E⟩
theorem relateStores_long2 (h : n ≤ 300) (h2 : 300 < m) : Calls Try.prog 11 #[.int .i64 f, .slice A n c, .slice B m c', .int .i64 j, .int .i64 k] w fun e w' => e = .returned (.bool true) ∧ Ext w w' := by
  have E := Ext.refl w
  go_enter Try.func11, Try.ntmps11
  go_wp2_with fail
  refine (rawake_any _).mono ?_
  rintro e w37 ⟨rfl, x⟩
  have z1 := x.size
  replace E := E.trans x
  clear x
  go_wp2_with fail
  go_ret
  exact ⟨rfl, E⟩
theorem relateStores_no1 (hn : n = a.length) (hm : m = b.length) (_ : ∀ x ∈ a, x < 18446744073709551616) (hwb : ∀ x ∈ b, x < 18446744073709551616) (h3 : n ≤ 300) (h4 : m ≤ 300) (hs : Sl w 1 A n (f64s a)) (hs' : Sl w 1 B m (f64s b)) (hfa : allF a = false) : Calls Try.prog 11 #[.int .i64 f, .slice A n c, .slice B m c', .int .i64 j, .int .i64 k] w fun e w' => e = .returned (.bool true) ∧ Ext w w' := by
  have E := Ext.refl w
  have cka := fun w hs => numbers_no A a n hn hfa c w (by omega) hs
  have ckb : ∀ w, Sl w 1 B m (f64s b) → Calls Try.prog 24 #[.slice B m c'] w fun e w' => ∃ v t, e = .returned (.tuple #[v, .bool t]) ∧ Flat 8 v ∧ Ext w w' := fun w hs => by
    cases hfb : allF b
    · refine (numbers_no B b m hm hfb c' w (by omega) hs).mono ?_
      rintro e w' ⟨rfl, hx⟩
      exact ⟨_, _, rfl, zeroVec_flat, hx⟩
    · refine (numbers_yes B b m hm hwb hfb c' w (by omega) hs).mono ?_
      rintro e w' ⟨v, rfl, hF, hx⟩
      exact ⟨v, _, rfl, hF.is.flat, hx⟩
  have HS := Lib.hid hs
  have HS' := Lib.hid hs'
  clear hs hs' hn hm hwb hfa
  go_enter Try.func11, Try.ntmps11
  go_wp2_with fail
  refine (cka _ (HS.out.ext E)).mono ?_
  rintro e w40 ⟨rfl, x⟩
  have z1 := x.size
  replace E := E.trans x
  clear x
  have TB11 : True := trivial
  have TG3 : True := trivial
  go_wp2_with (first | (clear TB11; refine allocsV rfl rfl ?_; intro B11 w11 bB11 cB11 XB11 LB11 RB11; have z2 := XB11.size; replace E := E.trans XB11; clear LB11) | (clear TG3; have hRl := (RB11).lt (Nat.zero_lt_succ _); refine storesV (B := B11) rfl rfl rfl (v := zeroVec) rfl RB11 zeroVec_flat ?_; intro s3 G3 LB11 RQ; have z4 := G3.size; replace E := grown_ext E G3 (by omega); clear RB11; have RB11 := RQ; clear RQ hRl; clear LB11 RB11))
  refine (ckb _ (HS'.out.ext E)).mono ?_
  rintro e w45 ⟨u, t, rfl, Fu, x⟩
  have z5 := x.size
  replace E := E.trans x
  clear x
  have TB13 : True := trivial
  have TG7 : True := trivial
  go_wp2_with (first | (clear TB13; refine allocsV rfl rfl ?_; intro B13 w13 bB13 cB13 XB13 LB13 RB13; have z6 := XB13.size; replace E := E.trans XB13; clear LB13) | (clear TG7; have hRl := (RB13).lt (Nat.zero_lt_succ _); refine storesV (B := B13) rfl rfl rfl (v := u) rfl RB13 Fu ?_; intro s7 G7 LB13 RQ; have z8 := G7.size; replace E := grown_ext E G7 (by omega); clear RB13; have RB13 := RQ; clear RQ hRl; clear LB13 RB13))
  refine (rawake_any _).mono ?_
  rintro e w54 ⟨rfl, x⟩
  have z9 := x.size
  replace E := E.trans x
  clear x
  go_wp2_with fail
  go_ret
  exact ⟨rfl, E⟩
theorem relateStores_no2 (hn : n = a.length) (hm : m = b.length) (hwa : ∀ x ∈ a, x < 18446744073709551616) (_ : ∀ x ∈ b, x < 18446744073709551616) (h3 : n ≤ 300) (h4 : m ≤ 300) (hs : Sl w 1 A n (f64s a)) (hs' : Sl w 1 B m (f64s b)) (hfa : allF a = true) (hfb : allF b = false) : Calls Try.prog 11 #[.int .i64 f, .slice A n c, .slice B m c', .int .i64 j, .int .i64 k] w fun e w' => e = .returned (.bool true) ∧ Ext w w' := by
  have E := Ext.refl w
  have cka := fun w hs => numbers_yes A a n hn hwa hfa c w (by omega) hs
  have ckb := fun w hs => numbers_no B b m hm hfb c' w (by omega) hs
  have HS := Lib.hid hs
  have HS' := Lib.hid hs'
  clear hs hs' hn hm hwa hfa hfb
  generalize dnL a = X at *
  generalize leastL X = K1 at *
  go_enter Try.func11, Try.ntmps11
  go_wp2_with fail
  refine (cka _ (HS.out.ext E)).mono ?_
  rintro e w40 ⟨v, rfl, hq, x⟩
  have NV := hq.now
  have Fv := NV.is.flat
  clear hq
  have z1 := x.size
  replace E := E.trans x
  clear x
  have TB11 : True := trivial
  have TG3 : True := trivial
  go_wp2_with (first | (clear TB11; refine allocsV rfl rfl ?_; intro B11 w11 bB11 cB11 XB11 LB11 RB11; have z2 := XB11.size; replace E := E.trans XB11; replace NV := NV.ext XB11; clear LB11) | (clear TG3; have hRl := (RB11).lt (Nat.zero_lt_succ _); refine storesV (B := B11) rfl rfl rfl (v := v) rfl RB11 Fv ?_; intro s3 G3 LB11 RQ; have z4 := G3.size; replace E := grown_ext E G3 (by omega); replace NV := NV.grown G3 (by first | omega | (dsimp only [New]; omega)); clear RB11; have RB11 := RQ; clear RQ hRl; clear LB11 RB11))
  refine (ckb _ (HS'.out.ext E)).mono ?_
  rintro e w45 ⟨rfl, x⟩
  have z5 := x.size
  replace E := E.trans x
  replace NV := NV.ext x
  clear x
  have TB13 : True := trivial
  have TG7 : True := trivial
  go_wp2_with (first | (clear TB13; refine allocsV rfl rfl ?_; intro B13 w13 bB13 cB13 XB13 LB13 RB13; have z6 := XB13.size; replace E := E.trans XB13; replace NV := NV.ext XB13; clear LB13) | (clear TG7; have hRl := (RB13).lt (Nat.zero_lt_succ _); refine storesV (B := B13) rfl rfl rfl (v := zeroVec) rfl RB13 zeroVec_flat ?_; intro s7 G7 LB13 RQ; have z8 := G7.size; replace E := grown_ext E G7 (by omega); replace NV := NV.grown G7 (by first | omega | (dsimp only [New]; omega)); clear RB13; have RB13 := RQ; clear RQ hRl; clear LB13 RB13))
  refine (rawake_any _).mono ?_
  rintro e w54 ⟨rfl, x⟩
  have z9 := x.size
  replace E := E.trans x
  replace NV := NV.ext x
  clear x
  go_wp2_with fail
  go_ret
  exact ⟨rfl, E⟩
theorem relateStores_00 (hn : n = a.length) (hm : m = b.length) (hwa : ∀ x ∈ a, x < 18446744073709551616) (hwb : ∀ x ∈ b, x < 18446744073709551616) (h3 : n ≤ 300) (h4 : m ≤ 300) (hs : Sl w 1 A n (f64s a)) (hs' : Sl w 1 B m (f64s b)) (hfa : allF a = true) (hfb : allF b = true) (hj : fitsL (dnL a) j = false) (hk : fitsL (dnL b) k = false) : Calls Try.prog 11 #[.int .i64 f, .slice A n c, .slice B m c', .int .i64 j, .int .i64 k] w fun e w' => e = .returned (.bool true) ∧ Ext w w' := by
  have cka := fun w hs => numbers_yes A a n hn hwa hfa c w (by omega) hs
  have ckb := fun w hs => numbers_yes B b m hm hwb hfb c' w (by omega) hs
  have la : n = (dnL a).length := by rw [dnL_length]; exact hn
  have lb : m = (dnL b).length := by rw [dnL_length]; exact hm
  have HS := Lib.hid hs
  have HS' := Lib.hid hs'
  have cij := fun v w h => into_no v (leastL (dnL a)) (dnL a) j hj w h
  have cik := fun v w h => into_no v (leastL (dnL b)) (dnL b) k hk w h
  clear hs hs' hn hm hwa hwb hfa hfb hj hk
  generalize dnL a = X at *
  generalize dnL b = Y at *
  generalize leastL X = K1 at *
  generalize leastL Y = K2 at *
  have cap := fun v u K J w hv hu => rapply_num f v u K J X Y (by omega) (by omega) w hv hu
  obtain ⟨m0, hm0⟩ : ∃ m0, m0 = (relLL f X Y).length := ⟨_, rfl⟩
  have hm00 : m0 ≤ 1048576 := by
    rw [hm0]
    by_cases hE : relE f X.length Y.length = 0
    · unfold relLL; rw [if_pos hE, relL_length]
      have : lenV (X.length : Int) (Y.length : Int) ≤ 300 := by unfold lenV; rw [← la, ← lb]; repeat (first | split | omega)
      omega
    · unfold relLL; rw [if_neg hE]; simp
  have cpk : ∀ p w, IsVec w p (relD f X Y) → Calls Try.prog 36 #[p] w fun e w' => ∃ q, e = .returned (.tuple #[q, .bool (relE f X.length Y.length == 0)]) ∧ (∀ S, VecS w p (relD f X Y) S → BitS w' q (relLL f X Y) S) ∧ Ext w w' := fun p w h => by
    have := packed_u p _ (relD_cases f X Y) w h
    unfold PackedU at this
    rwa [relD_kind, relD_bits] at this
  have cu0 := fun p w h => unpack_sl p (relLL f X Y) m0 hm0 w h
  have cb0 := fun P Q c c' w h h' => bools_same P Q (relLL f X Y) m0 m0 c c' hm0 hm0 w hm00 h h'
  clear hm0 hm00 la lb
  generalize relD f X Y = D at *
  generalize relLL f X Y = AL at *
  generalize (relE f X.length Y.length == 0) = eb at *
  generalize relE f X.length Y.length = er at *
  have E := Ext.refl w
  go_enter Try.func11, Try.ntmps11
  go_wp2_with fail
  refine (cka _ (HS.out.ext E)).mono ?_
  rintro e w40 ⟨v, rfl, hq, x⟩
  have NV := hq.now
  have Fv := NV.is.flat
  clear hq
  have z1 := x.size
  replace E := E.trans x
  clear x
  have TB11 : True := trivial
  have TG3 : True := trivial
  go_wp2_with (first | (clear TB11; refine allocsV rfl rfl ?_; intro B11 w11 bB11 cB11 XB11 LB11 RB11; have z2 := XB11.size; replace E := E.trans XB11; replace NV := NV.ext XB11) | (clear TG3; have hRl := (RB11).lt (Nat.zero_lt_succ _); refine storesV (B := B11) rfl rfl rfl (v := v) rfl RB11 Fv ?_; clear LB11; intro s3 G3 LB11 RQ; have z4 := G3.size; replace E := grown_ext E G3 (by omega); replace NV := NV.grown G3 (by first | omega | (dsimp only [New]; omega)); clear RB11; have RB11 := RQ; clear RQ hRl; clear RB11))
  refine (ckb _ (HS'.out.ext E)).mono ?_
  rintro e w45 ⟨u, rfl, hq, x⟩
  have NU := hq.now
  have Fu := NU.is.flat
  clear hq
  have z5 := x.size
  replace E := E.trans x
  replace NV := NV.ext x
  replace LB11 := LB11.ext x
  clear x
  have TB13 : True := trivial
  have TG7 : True := trivial
  go_wp2_with (first | (clear TB13; refine allocsV rfl rfl ?_; intro B13 w13 bB13 cB13 XB13 LB13 RB13; have z6 := XB13.size; replace E := E.trans XB13; replace NV := NV.ext XB13; replace LB11 := LB11.ext XB13; replace NU := NU.ext XB13) | (clear TG7; have hRl := (RB13).lt (Nat.zero_lt_succ _); refine storesV (B := B13) rfl rfl rfl (v := u) rfl RB13 Fu ?_; clear LB13; intro s7 G7 LB13 RQ; have z8 := G7.size; replace E := grown_ext E G7 (by omega); replace NV := NV.grown G7 (by first | omega | (dsimp only [New]; omega)); replace LB11 := LB11.grown G7 (by omega); replace NU := NU.grown G7 (by first | omega | (dsimp only [New]; omega)); clear RB13; have RB13 := RQ; clear RQ hRl; clear RB13))
  try simp only [Act.put, List.setIfInBounds_toArray, List.set_cons_zero, List.set_cons_succ]
  have hq9 : s7.heap.size ≤ s7.drew.heap.size := Nat.le_refl _
  have z10 := (Ext.refl s7).drew.size
  replace E := E.trans (Ext.refl s7).drew
  replace NV := NV.ext (Ext.refl s7).drew
  replace LB11 := LB11.ext (Ext.refl s7).drew
  replace NU := NU.ext (Ext.refl s7).drew
  replace LB13 := LB13.ext (Ext.refl s7).drew
  refine wp_region_held_drew (S := (fun w' => Lay 8 w' B11 v ∧ Lay 8 w' B13 u)) (by kernel_rfl) ⟨LB11, LB13⟩ (fun hHeld => ?_)
  refine wpAnyH_take (i := 0) (oi := { dst := some 55, op := Go.Op.load 34 (Go.Operand.tmp 11), type := 34, pos := "law.go:76", after := #[], guard := none }) (v := v) rfl (by kernel_rfl) (by kernel_rfl) (by kernel_rfl) (fun _ _ _ h => h) (yieldV (by rfl) rfl rfl fun w' hx => hx.1) hHeld ?_
  try simp only [Act.put, List.setIfInBounds_toArray, List.set_cons_zero, List.set_cons_succ]
  refine wpAnyH_take (i := 1) (oi := { dst := some 56, op := Go.Op.load 34 (Go.Operand.tmp 13), type := 34, pos := "law.go:76", after := #[{ on := 4, ground := Go.Ground.gcOnly Go.Departure.lateStores }], guard := none }) (v := u) rfl (by kernel_rfl) (by kernel_rfl) (by kernel_rfl) (fun _ _ _ h => h) (yieldV (by rfl) rfl rfl fun w' hx => hx.2) hHeld ?_
  try simp only [Act.put, List.setIfInBounds_toArray, List.set_cons_zero, List.set_cons_succ]
  refine wpAnyH_ready (rs := [2, 3]) (by kernel_rfl) (by simp) ?_
  refine AllReadyH.cons (o := { dst := some 15, op := Go.Op.alloc 34, type := 0, pos := "law.go:76", after := #[], guard := none }) rfl (fun K hK => ?_) (AllReadyH.cons (o := { dst := some 16, op := Go.Op.alloc 34, type := 0, pos := "law.go:76", after := #[], guard := none }) rfl (fun K hK => ?_) (AllReadyH.nil))
  · rw [if_pos (by rfl)]
    refine allocV rfl ?_
    intro B15 w15 bB15 cB15 XB15 LB15 RB15
    have z13 := XB15.size
    replace E := E.trans XB15
    replace NV := NV.ext XB15
    replace LB11 := LB11.ext XB15
    replace NU := NU.ext XB15
    replace LB13 := LB13.ext XB15
    clear hHeld
    have hHeld := And.intro LB11 (LB13)
    refine hK.out _ _ hHeld (fun _ => ?_)
    clear hK K
    try simp only [Act.put, List.setIfInBounds_toArray, List.set_cons_zero, List.set_cons_succ]
    refine wpAnyH_ready (rs := [3]) (by kernel_rfl) (by simp) ?_
    refine AllReadyH.cons (o := { dst := some 16, op := Go.Op.alloc 34, type := 0, pos := "law.go:76", after := #[], guard := none }) rfl (fun K hK => ?_) (AllReadyH.nil)
    rw [if_pos (by rfl)]
    refine allocV rfl ?_
    intro B16 w16 bB16 cB16 XB16 LB16 RB16
    have z14 := XB16.size
    replace E := E.trans XB16
    replace NV := NV.ext XB16
    replace LB11 := LB11.ext XB16
    replace NU := NU.ext XB16
    replace LB13 := LB13.ext XB16
    replace LB15 := LB15.ext XB16
    replace RB15 := RB15.ext XB16
    clear hHeld
    have hHeld := And.intro LB11 (LB13)
    refine hK.out _ _ hHeld (fun _ => ?_)
    clear hK K
    try simp only [Act.put, List.setIfInBounds_toArray, List.set_cons_zero, List.set_cons_succ]
    refine wpAnyH_ready (rs := [4]) (by kernel_rfl) (by simp) ?_
    refine AllReadyH.cons (o := { dst := none, op := Go.Op.store 34 (Go.Operand.tmp 15) (Go.Operand.tmp 55), type := 0, pos := "law.go:76", after := #[{ on := 2, ground := Go.Ground.data }, { on := 0, ground := Go.Ground.data }, { on := 0, ground := Go.Ground.phase }, { on := 1, ground := Go.Ground.textOnly Go.Departure.lateStores }, { on := 2, ground := Go.Ground.phase }, { on := 3, ground := Go.Ground.phase }], guard := none }) rfl (fun K hK => ?_) (AllReadyH.nil)
    rw [if_pos (by rfl)]
    have hRl := (RB15).lt (Nat.zero_lt_succ _)
    refine storeV (by rfl) (by rfl) (v := v) (by rfl) RB15 Fv ?_
    clear LB15
    intro s15 G15 LB15 RQ
    have z16 := G15.size
    replace E := grown_ext E G15 (by omega)
    replace NV := NV.grown G15 (by first | omega | (dsimp only [New]; omega))
    replace LB11 := LB11.grown G15 (by omega)
    replace NU := NU.grown G15 (by first | omega | (dsimp only [New]; omega))
    replace LB13 := LB13.grown G15 (by omega)
    replace LB16 := LB16.grown G15 (by omega)
    replace RB16 := RB16.grown G15 (by omega)
    clear RB15
    have RB15 := RQ
    clear RQ hRl G15
    clear hHeld
    have hHeld := And.intro LB11 (LB13)
    refine hK.out _ _ hHeld (fun _ => ?_)
    clear hK K
    try simp only [Act.put]
    refine wpAnyH_ready (rs := [5]) (by kernel_rfl) (by simp) ?_
    refine AllReadyH.cons (o := { dst := none, op := Go.Op.store 34 (Go.Operand.tmp 16) (Go.Operand.tmp 56), type := 0, pos := "law.go:76", after := #[{ on := 3, ground := Go.Ground.data }, { on := 1, ground := Go.Ground.data }, { on := 4, ground := Go.Ground.chain }, { on := 0, ground := Go.Ground.phase }, { on := 1, ground := Go.Ground.phase }, { on := 2, ground := Go.Ground.phase }, { on := 3, ground := Go.Ground.phase }, { on := 4, ground := Go.Ground.phase }], guard := none }) rfl (fun K hK => ?_) (AllReadyH.nil)
    rw [if_pos (by rfl)]
    have hRl := (RB16).lt (Nat.zero_lt_succ _)
    refine storeV (by rfl) (by rfl) (v := u) (by rfl) RB16 Fu ?_
    clear LB16
    intro s17 G17 LB16 RQ
    have z18 := G17.size
    replace E := grown_ext E G17 (by omega)
    replace NV := NV.grown G17 (by first | omega | (dsimp only [New]; omega))
    replace LB11 := LB11.grown G17 (by omega)
    replace NU := NU.grown G17 (by first | omega | (dsimp only [New]; omega))
    replace LB13 := LB13.grown G17 (by omega)
    replace LB15 := LB15.grown G17 (by omega)
    replace RB15 := RB15.grown G17 (by omega)
    clear RB16
    have RB16 := RQ
    clear RQ hRl G17
    clear hHeld
    have hHeld := And.intro LB11 (LB13)
    refine hK.out _ _ hHeld (fun _ => ?_)
    clear hK K
    try simp only [Act.put]
    refine wpAnyH_done (by kernel_rfl) ?_ _
    go_wp2_with (refine loadsV (B := B11) (by rfl) rfl rfl LB11 ?_)
    clear RB15 RB16
    refine (cij v _ NV.is).mono ?_
    rintro e w60 ⟨rfl, x⟩
    have z19 := x.size
    replace E := E.trans x
    replace NV := NV.ext x
    replace LB11 := LB11.ext x
    replace NU := NU.ext x
    replace LB13 := LB13.ext x
    replace LB15 := LB15.ext x
    replace LB16 := LB16.ext x
    clear x
    have TB17 : True := trivial
    have TG21 : True := trivial
    go_wp2_with (first | (clear TB17; refine allocsV rfl rfl ?_; intro B17 w17 bB17 cB17 XB17 LB17 RB17; have z20 := XB17.size; replace E := E.trans XB17; replace NV := NV.ext XB17; replace LB11 := LB11.ext XB17; replace NU := NU.ext XB17; replace LB13 := LB13.ext XB17; replace LB15 := LB15.ext XB17; replace LB16 := LB16.ext XB17; clear LB17) | (clear TG21; have hRl := (RB17).lt (Nat.zero_lt_succ _); refine storesV (B := B17) rfl rfl rfl (v := zeroVec) rfl RB17 zeroVec_flat ?_; intro s21 G21 LB17 RQ; have z22 := G21.size; replace E := grown_ext E G21 (by omega); replace NV := NV.grown G21 (by first | omega | (dsimp only [New]; omega)); replace LB11 := LB11.grown G21 (by omega); replace NU := NU.grown G21 (by first | omega | (dsimp only [New]; omega)); replace LB13 := LB13.grown G21 (by omega); replace LB15 := LB15.grown G21 (by omega); replace LB16 := LB16.grown G21 (by omega); clear RB17; have RB17 := RQ; clear RQ hRl; clear LB17 RB17) | (refine loadsV (B := B13) (by rfl) rfl rfl LB13 ?_))
    refine (cik u _ NU.is).mono ?_
    rintro e w68 ⟨rfl, x⟩
    have z23 := x.size
    replace E := E.trans x
    replace NV := NV.ext x
    replace LB11 := LB11.ext x
    replace NU := NU.ext x
    replace LB13 := LB13.ext x
    replace LB15 := LB15.ext x
    replace LB16 := LB16.ext x
    clear x
    have TB19 : True := trivial
    have TG25 : True := trivial
    go_wp2_with (first | (clear TB19; refine allocsV rfl rfl ?_; intro B19 w19 bB19 cB19 XB19 LB19 RB19; have z24 := XB19.size; replace E := E.trans XB19; replace NV := NV.ext XB19; replace LB11 := LB11.ext XB19; replace NU := NU.ext XB19; replace LB13 := LB13.ext XB19; replace LB15 := LB15.ext XB19; replace LB16 := LB16.ext XB19; clear LB19) | (clear TG25; have hRl := (RB19).lt (Nat.zero_lt_succ _); refine storesV (B := B19) rfl rfl rfl (v := zeroVec) rfl RB19 zeroVec_flat ?_; intro s25 G25 LB19 RQ; have z26 := G25.size; replace E := grown_ext E G25 (by omega); replace NV := NV.grown G25 (by first | omega | (dsimp only [New]; omega)); replace LB11 := LB11.grown G25 (by omega); replace NU := NU.grown G25 (by first | omega | (dsimp only [New]; omega)); replace LB13 := LB13.grown G25 (by omega); replace LB15 := LB15.grown G25 (by omega); replace LB16 := LB16.grown G25 (by omega); clear RB19; have RB19 := RQ; clear RQ hRl; clear LB19 RB19) | (refine loadsV (B := B11) (by rfl) rfl rfl LB11 ?_) | (refine loadsV (B := B13) (by rfl) rfl rfl LB13 ?_))
    clear LB11 LB13
    refine (cap v u _ _ _ NV.is NU.is).mono ?_
    rintro e w77 ⟨p, rfl, hq, x⟩
    have NP := hq.now
    have Fp := NP.is.flat
    clear hq
    have z27 := x.size
    replace E := E.trans x
    replace NV := NV.ext x
    replace NU := NU.ext x
    replace LB15 := LB15.ext x
    replace LB16 := LB16.ext x
    clear x
    have TB21 : True := trivial
    have TG29 : True := trivial
    go_wp2_with (first | (clear TB21; refine allocsV rfl rfl ?_; intro B21 w21 bB21 cB21 XB21 LB21 RB21; have z28 := XB21.size; replace E := E.trans XB21; replace NV := NV.ext XB21; replace NU := NU.ext XB21; replace LB15 := LB15.ext XB21; replace LB16 := LB16.ext XB21; replace NP := NP.ext XB21) | (clear TG29; have hRl := (RB21).lt (Nat.zero_lt_succ _); refine storesV (B := B21) rfl rfl rfl (v := p) rfl RB21 Fp ?_; clear LB21; intro s29 G29 LB21 RQ; have z30 := G29.size; replace E := grown_ext E G29 (by omega); replace NV := NV.grown G29 (by first | omega | (dsimp only [New]; omega)); replace NU := NU.grown G29 (by first | omega | (dsimp only [New]; omega)); replace LB15 := LB15.grown G29 (by omega); replace LB16 := LB16.grown G29 (by omega); replace NP := NP.grown G29 (by first | omega | (dsimp only [New]; omega)); clear RB21; have RB21 := RQ; clear RQ hRl; clear RB21) | (refine loadsV (B := B15) (by rfl) rfl rfl LB15 ?_) | (refine loadsV (B := B16) (by rfl) rfl rfl LB16 ?_))
    clear LB15 LB16
    refine (cap v u _ _ _ NV.is NU.is).mono ?_
    rintro e w84 ⟨q, rfl, hq, x⟩
    have NQ := hq.now
    have Fq := NQ.is.flat
    clear hq
    have z31 := x.size
    replace E := E.trans x
    replace NV := NV.ext x
    replace NU := NU.ext x
    replace NP := NP.ext x
    replace LB21 := LB21.ext x
    clear x
    have TB23 : True := trivial
    have TG33 : True := trivial
    go_wp2_with (first | (clear TB23; refine allocsV rfl rfl ?_; intro B23 w23 bB23 cB23 XB23 LB23 RB23; have z32 := XB23.size; replace E := E.trans XB23; replace NV := NV.ext XB23; replace NU := NU.ext XB23; replace NP := NP.ext XB23; replace LB21 := LB21.ext XB23; replace NQ := NQ.ext XB23) | (clear TG33; have hRl := (RB23).lt (Nat.zero_lt_succ _); refine storesV (B := B23) rfl rfl rfl (v := q) rfl RB23 Fq ?_; clear LB23; intro s33 G33 LB23 RQ; have z34 := G33.size; replace E := grown_ext E G33 (by omega); replace NV := NV.grown G33 (by first | omega | (dsimp only [New]; omega)); replace NU := NU.grown G33 (by first | omega | (dsimp only [New]; omega)); replace NP := NP.grown G33 (by first | omega | (dsimp only [New]; omega)); replace LB21 := LB21.grown G33 (by omega); replace NQ := NQ.grown G33 (by first | omega | (dsimp only [New]; omega)); clear RB23; have RB23 := RQ; clear RQ hRl; clear RB23) | (refine loadsV (B := B21) (by rfl) rfl rfl LB21 ?_))
    clear LB21
    refine (cpk p _ NP.is).mono ?_
    rintro e w89 ⟨s, rfl, hq, x⟩
    have NS := hq _ NP
    have Fs := NS.is.flat
    clear hq
    have z35 := x.size
    replace E := E.trans x
    replace NV := NV.ext x
    replace NU := NU.ext x
    replace NP := NP.ext x
    replace NQ := NQ.ext x
    replace LB23 := LB23.ext x
    clear x
    have TB25 : True := trivial
    have TG37 : True := trivial
    go_wp2_with (first | (clear TB25; refine allocsB rfl rfl ?_; intro B25 w25 bB25 cB25 XB25 LB25 RB25; have z36 := XB25.size; replace E := E.trans XB25; replace NV := NV.ext XB25; replace NU := NU.ext XB25; replace NP := NP.ext XB25; replace NQ := NQ.ext XB25; replace LB23 := LB23.ext XB25; replace NS := NS.ext XB25) | (clear TG37; have hRl := (RB25).lt (Nat.zero_lt_succ _); refine storesB (B := B25) rfl rfl rfl (v := s) rfl RB25 Fs ?_; clear LB25; intro s37 G37 LB25 RQ; have z38 := G37.size; replace E := grown_ext E G37 (by omega); replace NV := NV.grown G37 (by first | omega | (dsimp only [New]; omega)); replace NU := NU.grown G37 (by first | omega | (dsimp only [New]; omega)); replace NP := NP.grown G37 (by first | omega | (dsimp only [New]; omega)); replace NQ := NQ.grown G37 (by first | omega | (dsimp only [New]; omega)); replace LB23 := LB23.grown G37 (by omega); replace NS := NS.grown G37 (by first | omega | (dsimp only [New]; omega)); clear RB25; have RB25 := RQ; clear RQ hRl; clear RB25) | (refine loadsV (B := B23) (by rfl) rfl rfl LB23 ?_))
    clear LB23
    refine (cpk q _ NQ.is).mono ?_
    rintro e w94 ⟨t, rfl, hq, x⟩
    have NT := hq _ NQ
    have Ft := NT.is.flat
    clear hq
    have z39 := x.size
    replace E := E.trans x
    replace NV := NV.ext x
    replace NU := NU.ext x
    replace NP := NP.ext x
    replace NQ := NQ.ext x
    replace NS := NS.ext x
    replace LB25 := LB25.ext x
    clear x
    have TB27 : True := trivial
    have TG41 : True := trivial
    go_wp2_with (first | (clear TB27; refine allocsB rfl rfl ?_; intro B27 w27 bB27 cB27 XB27 LB27 RB27; have z40 := XB27.size; replace E := E.trans XB27; replace NV := NV.ext XB27; replace NU := NU.ext XB27; replace NP := NP.ext XB27; replace NQ := NQ.ext XB27; replace NS := NS.ext XB27; replace LB25 := LB25.ext XB27; replace NT := NT.ext XB27) | (clear TG41; have hRl := (RB27).lt (Nat.zero_lt_succ _); refine storesB (B := B27) rfl rfl rfl (v := t) rfl RB27 Ft ?_; clear LB27; intro s41 G41 LB27 RQ; have z42 := G41.size; replace E := grown_ext E G41 (by omega); replace NV := NV.grown G41 (by first | omega | (dsimp only [New]; omega)); replace NU := NU.grown G41 (by first | omega | (dsimp only [New]; omega)); replace NP := NP.grown G41 (by first | omega | (dsimp only [New]; omega)); replace NQ := NQ.grown G41 (by first | omega | (dsimp only [New]; omega)); replace NS := NS.grown G41 (by first | omega | (dsimp only [New]; omega)); replace LB25 := LB25.grown G41 (by omega); replace NT := NT.grown G41 (by first | omega | (dsimp only [New]; omega)); clear RB27; have RB27 := RQ; clear RQ hRl; clear RB27))
    try simp only [Act.put, List.setIfInBounds_toArray, List.set_cons_zero, List.set_cons_succ]
    have hq43 : s41.heap.size ≤ s41.drew.heap.size := Nat.le_refl _
    have z44 := (Ext.refl s41).drew.size
    replace E := E.trans (Ext.refl s41).drew
    replace NV := NV.ext (Ext.refl s41).drew
    replace NU := NU.ext (Ext.refl s41).drew
    replace NP := NP.ext (Ext.refl s41).drew
    replace NQ := NQ.ext (Ext.refl s41).drew
    replace NS := NS.ext (Ext.refl s41).drew
    replace LB25 := LB25.ext (Ext.refl s41).drew
    replace NT := NT.ext (Ext.refl s41).drew
    replace LB27 := LB27.ext (Ext.refl s41).drew
    refine wp_region_held_drew (S := (fun w' => Lay 2 w' B25 s ∧ Lay 2 w' B27 t)) (by kernel_rfl) ⟨LB25, LB27⟩ (fun hHeld => ?_)
    refine wpAnyH_take (i := 0) (oi := { dst := some 97, op := Go.Op.move (Go.Operand.tmp 22), type := 59, pos := "law.go:87", after := #[], guard := none }) (v := ?v45) rfl (by kernel_rfl) (by kernel_rfl) (by kernel_rfl) (fun _ _ _ h => h) (Or.inl ⟨by rfl, ?hy45⟩) hHeld ?rest45
    case hy45 => (intro w hSw; (try dsimp only at hSw); go_simp; (first | done | with_reducible rfl))
    try simp only [Act.put, List.setIfInBounds_toArray, List.set_cons_zero, List.set_cons_succ]
    refine wpAnyH_take (i := 1) (oi := { dst := some 98, op := Go.Op.move (Go.Operand.tmp 24), type := 59, pos := "law.go:87", after := #[], guard := none }) (v := ?v46) rfl (by kernel_rfl) (by kernel_rfl) (by kernel_rfl) (fun _ _ _ h => h) (Or.inl ⟨by rfl, ?hy46⟩) hHeld ?rest46
    case hy46 => (intro w hSw; (try dsimp only at hSw); go_simp; (first | done | with_reducible rfl))
    try simp only [Act.put, List.setIfInBounds_toArray, List.set_cons_zero, List.set_cons_succ]
    refine wpAnyH_take (i := 2) (oi := { dst := some 99, op := Go.Op.binOp Go.BinOp.eql 59 (Go.Operand.tmp 97) (Go.Operand.tmp 98) 59, type := 4, pos := "law.go:87", after := #[{ on := 0, ground := Go.Ground.data }, { on := 1, ground := Go.Ground.data }], guard := none }) (v := ?v47) rfl (by kernel_rfl) (by kernel_rfl) (by kernel_rfl) (fun _ _ _ h => h) (Or.inl ⟨by rfl, ?hy47⟩) hHeld ?rest47
    case hy47 => (intro w hSw; (try dsimp only at hSw); go_simp; (first | done | with_reducible rfl))
    try simp only [Act.put, List.setIfInBounds_toArray, List.set_cons_zero, List.set_cons_succ]
    refine wpAnyH_take (i := 3) (oi := { dst := some 100, op := Go.Op.move (Go.Operand.tmp 99), type := 4, pos := "law.go:87", after := #[{ on := 2, ground := Go.Ground.data }], guard := none }) (v := ?v48) rfl (by kernel_rfl) (by kernel_rfl) (by kernel_rfl) (fun _ _ _ h => h) (Or.inl ⟨by rfl, ?hy48⟩) hHeld ?rest48
    case hy48 => (intro w hSw; (try dsimp only at hSw); go_simp; (first | done | with_reducible rfl))
    try simp only [Act.put, List.setIfInBounds_toArray, List.set_cons_zero, List.set_cons_succ]
    refine wpAnyH_take (i := 4) (oi := { dst := some 101, op := Go.Op.load 28 (Go.Operand.tmp 25), type := 28, pos := "law.go:87", after := #[{ on := 3, ground := Go.Ground.guard }], guard := some (3, true) }) (v := s) rfl (by kernel_rfl) (by kernel_rfl) (by kernel_rfl) (fun _ _ _ h => h) (yieldB (by rfl) rfl rfl fun w' hx => hx.1) hHeld ?_
    try simp only [Act.put, List.setIfInBounds_toArray, List.set_cons_zero, List.set_cons_succ]
    refine wpAnyH_take (i := 6) (oi := { dst := some 103, op := Go.Op.load 28 (Go.Operand.tmp 27), type := 28, pos := "law.go:87", after := #[{ on := 3, ground := Go.Ground.guard }], guard := some (3, true) }) (v := t) rfl (by kernel_rfl) (by kernel_rfl) (by kernel_rfl) (fun _ _ _ h => h) (yieldB (by rfl) rfl rfl fun w' hx => hx.2) hHeld ?_
    try simp only [Act.put, List.setIfInBounds_toArray, List.set_cons_zero, List.set_cons_succ]
    refine wpAnyH_ready (rs := [5]) (by kernel_rfl) (by simp) ?_
    refine AllReadyH.cons (o := { dst := some 102, op := Go.Op.call { callee := Go.Callee.value (Go.Operand.func 40), args := #[Go.Operand.tmp 101], argTypes := #[28] }, type := 62, pos := "law.go:87", after := #[{ on := 4, ground := Go.Ground.data }, { on := 3, ground := Go.Ground.chain }, { on := 3, ground := Go.Ground.guard }], guard := some (3, true) }) rfl (fun K hK => ?_) (AllReadyH.nil)
    go_simp
    refine (cu0 s _ NS.is).mono ?_
    rintro e w102 ⟨R, cR, rfl, hq, x⟩
    have SR := SlS.all hq
    clear hq
    have z51 := x.size
    replace E := E.trans x
    replace NV := NV.ext x
    replace NU := NU.ext x
    replace NP := NP.ext x
    replace NQ := NQ.ext x
    replace NS := NS.ext x
    replace LB25 := LB25.ext x
    replace NT := NT.ext x
    replace LB27 := LB27.ext x
    clear x
    clear hHeld
    have hHeld := And.intro LB25 (LB27)
    refine hK.out _ _ hHeld (fun _ => ?_)
    clear hK K
    try simp only [Act.put, List.setIfInBounds_toArray, List.set_cons_zero, List.set_cons_succ]
    refine wpAnyH_ready (rs := [7]) (by kernel_rfl) (by simp) ?_
    refine AllReadyH.cons (o := { dst := some 104, op := Go.Op.call { callee := Go.Callee.value (Go.Operand.func 40), args := #[Go.Operand.tmp 103], argTypes := #[28] }, type := 62, pos := "law.go:87", after := #[{ on := 6, ground := Go.Ground.data }, { on := 5, ground := Go.Ground.chain }, { on := 3, ground := Go.Ground.guard }], guard := some (3, true) }) rfl (fun K hK => ?_) (AllReadyH.nil)
    go_simp
    refine (cu0 t _ NT.is).mono ?_
    rintro e w104 ⟨Q, cQ, rfl, hq, x⟩
    have SQ := SlS.all hq
    clear hq
    have z52 := x.size
    replace E := E.trans x
    replace NV := NV.ext x
    replace NU := NU.ext x
    replace NP := NP.ext x
    replace NQ := NQ.ext x
    replace NS := NS.ext x
    replace LB25 := LB25.ext x
    replace NT := NT.ext x
    replace LB27 := LB27.ext x
    replace SR := SR.ext x
    clear x
    clear hHeld
    have hHeld := And.intro LB25 (LB27)
    refine hK.out _ _ hHeld (fun _ => ?_)
    clear hK K
    try simp only [Act.put, List.setIfInBounds_toArray, List.set_cons_zero, List.set_cons_succ]
    refine wpAnyH_ready (rs := [8]) (by kernel_rfl) (by simp) ?_
    refine AllReadyH.cons (o := { dst := some 105, op := Go.Op.call { callee := Go.Callee.value (Go.Operand.func 39), args := #[Go.Operand.tmp 102, Go.Operand.tmp 104], argTypes := #[62, 62] }, type := 4, pos := "law.go:87", after := #[{ on := 5, ground := Go.Ground.data }, { on := 7, ground := Go.Ground.data }, { on := 7, ground := Go.Ground.chain }, { on := 3, ground := Go.Ground.guard }], guard := some (3, true) }) rfl (fun K hK => ?_) (AllReadyH.nil)
    go_simp
    refine (cb0 R Q cR cQ _ SR.is SQ.is).mono ?_
    rintro e w105 ⟨rfl, x⟩
    have z53 := x.size
    replace E := E.trans x
    replace NV := NV.ext x
    replace NU := NU.ext x
    replace NP := NP.ext x
    replace NQ := NQ.ext x
    replace NS := NS.ext x
    replace LB25 := LB25.ext x
    replace NT := NT.ext x
    replace LB27 := LB27.ext x
    replace SR := SR.ext x
    replace SQ := SQ.ext x
    clear x
    clear hHeld
    have hHeld := And.intro LB25 (LB27)
    refine hK.out _ _ hHeld (fun _ => ?_)
    clear hK K
    try simp only [Act.put, List.setIfInBounds_toArray, List.set_cons_zero, List.set_cons_succ]
    refine wpAnyH_take (i := 9) (oi := { dst := some 106, op := Go.Op.pick (Go.Operand.tmp 100) (Go.Operand.tmp 105) (Go.Operand.const (Go.Value.bool false)), type := 4, pos := "law.go:87", after := #[{ on := 3, ground := Go.Ground.data }, { on := 8, ground := Go.Ground.data }], guard := none }) (v := ?v54) rfl (by kernel_rfl) (by kernel_rfl) (by kernel_rfl) (fun _ _ _ h => h) (Or.inl ⟨by rfl, ?hy54⟩) hHeld ?rest54
    case hy54 => (intro w hSw; (try dsimp only at hSw); go_simp; (first | done | with_reducible rfl))
    try simp only [Act.put, List.setIfInBounds_toArray, List.set_cons_zero, List.set_cons_succ]
    refine wpAnyH_take (i := 10) (oi := { dst := some 107, op := Go.Op.move (Go.Operand.tmp 106), type := 4, pos := "law.go:87", after := #[{ on := 9, ground := Go.Ground.data }, { on := 8, ground := Go.Ground.chain }], guard := none }) (v := ?v55) rfl (by kernel_rfl) (by kernel_rfl) (by kernel_rfl) (fun _ _ _ h => h) (Or.inl ⟨by rfl, ?hy55⟩) hHeld ?rest55
    case hy55 => (intro w hSw; (try dsimp only at hSw); go_simp; (first | done | with_reducible rfl))
    try simp only [Act.put, List.setIfInBounds_toArray, List.set_cons_zero, List.set_cons_succ]
    refine wpAnyH_ready (rs := [11]) (by kernel_rfl) (by simp) ?_
    refine AllReadyH.cons (o := { dst := some 108, op := Go.Op.call { callee := Go.Callee.value (Go.Operand.func 46), args := #[], argTypes := #[] }, type := 4, pos := "law.go:87", after := #[{ on := 10, ground := Go.Ground.chain }, { on := 10, ground := Go.Ground.guard }], guard := some (10, true) }) rfl (fun K hK => ?_) (AllReadyH.nil)
    go_simp
    refine (rawake_any _).mono ?_
    rintro e w108 ⟨rfl, x⟩
    have z56 := x.size
    replace E := E.trans x
    replace NV := NV.ext x
    replace NU := NU.ext x
    replace NP := NP.ext x
    replace NQ := NQ.ext x
    replace NS := NS.ext x
    replace LB25 := LB25.ext x
    replace NT := NT.ext x
    replace LB27 := LB27.ext x
    replace SR := SR.ext x
    replace SQ := SQ.ext x
    clear x
    clear hHeld
    have hHeld := And.intro LB25 (LB27)
    refine hK.out _ _ hHeld (fun _ => ?_)
    clear hK K
    try simp only [Act.put, List.setIfInBounds_toArray, List.set_cons_zero, List.set_cons_succ]
    refine wpAnyH_take (i := 12) (oi := { dst := some 109, op := Go.Op.pick (Go.Operand.tmp 107) (Go.Operand.tmp 108) (Go.Operand.const (Go.Value.bool false)), type := 4, pos := "law.go:87", after := #[{ on := 10, ground := Go.Ground.data }, { on := 11, ground := Go.Ground.data }], guard := none }) (v := ?v57) rfl (by kernel_rfl) (by kernel_rfl) (by kernel_rfl) (fun _ _ _ h => h) (Or.inl ⟨by rfl, ?hy57⟩) hHeld ?rest57
    case hy57 => (intro w hSw; (try dsimp only at hSw); go_simp; (first | done | with_reducible rfl))
    try simp only [Act.put, List.setIfInBounds_toArray, List.set_cons_zero, List.set_cons_succ]
    refine wpAnyH_take (i := 13) (oi := { dst := some 10, op := Go.Op.assign (Go.Operand.tmp 109), type := 4, pos := "law.go:87", after := #[{ on := 12, ground := Go.Ground.data }, { on := 11, ground := Go.Ground.chain }, { on := 0, ground := Go.Ground.phase }, { on := 1, ground := Go.Ground.phase }, { on := 2, ground := Go.Ground.phase }, { on := 3, ground := Go.Ground.phase }, { on := 4, ground := Go.Ground.phase }, { on := 5, ground := Go.Ground.phase }, { on := 6, ground := Go.Ground.phase }, { on := 7, ground := Go.Ground.phase }, { on := 8, ground := Go.Ground.phase }, { on := 9, ground := Go.Ground.phase }, { on := 10, ground := Go.Ground.phase }, { on := 11, ground := Go.Ground.phase }, { on := 12, ground := Go.Ground.phase }], guard := none }) (v := ?v58) rfl (by kernel_rfl) (by kernel_rfl) (by kernel_rfl) (fun _ _ _ h => h) (Or.inl ⟨by rfl, ?hy58⟩) hHeld ?rest58
    case hy58 => (intro w hSw; (try dsimp only at hSw); go_simp; (first | done | with_reducible rfl))
    try simp only [Act.put, List.setIfInBounds_toArray, List.set_cons_zero, List.set_cons_succ]
    refine wpAnyH_done (by kernel_rfl) ?_ _
    go_wp2_with fail
    go_ret
    exact ⟨rfl, E⟩
  · rw [if_pos (by rfl)]
    refine allocV rfl ?_
    intro B16 w16 bB16 cB16 XB16 LB16 RB16
    have z59 := XB16.size
    replace E := E.trans XB16
    replace NV := NV.ext XB16
    replace LB11 := LB11.ext XB16
    replace NU := NU.ext XB16
    replace LB13 := LB13.ext XB16
    clear hHeld
    have hHeld := And.intro LB11 (LB13)
    refine hK.out _ _ hHeld (fun _ => ?_)
    clear hK K
    try simp only [Act.put, List.setIfInBounds_toArray, List.set_cons_zero, List.set_cons_succ]
    refine wpAnyH_ready (rs := [2]) (by kernel_rfl) (by simp) ?_
    refine AllReadyH.cons (o := { dst := some 15, op := Go.Op.alloc 34, type := 0, pos := "law.go:76", after := #[], guard := none }) rfl (fun K hK => ?_) (AllReadyH.nil)
    rw [if_pos (by rfl)]
    refine allocV rfl ?_
    intro B15 w15 bB15 cB15 XB15 LB15 RB15
    have z60 := XB15.size
    replace E := E.trans XB15
    replace NV := NV.ext XB15
    replace LB11 := LB11.ext XB15
    replace NU := NU.ext XB15
    replace LB13 := LB13.ext XB15
    replace LB16 := LB16.ext XB15
    replace RB16 := RB16.ext XB15
    clear hHeld
    have hHeld := And.intro LB11 (LB13)
    refine hK.out _ _ hHeld (fun _ => ?_)
    clear hK K
    try simp only [Act.put, List.setIfInBounds_toArray, List.set_cons_zero, List.set_cons_succ]
    refine wpAnyH_ready (rs := [4]) (by kernel_rfl) (by simp) ?_
    refine AllReadyH.cons (o := { dst := none, op := Go.Op.store 34 (Go.Operand.tmp 15) (Go.Operand.tmp 55), type := 0, pos := "law.go:76", after := #[{ on := 2, ground := Go.Ground.data }, { on := 0, ground := Go.Ground.data }, { on := 0, ground := Go.Ground.phase }, { on := 1, ground := Go.Ground.textOnly Go.Departure.lateStores }, { on := 2, ground := Go.Ground.phase }, { on := 3, ground := Go.Ground.phase }], guard := none }) rfl (fun K hK => ?_) (AllReadyH.nil)
    rw [if_pos (by rfl)]
    have hRl := (RB15).lt (Nat.zero_lt_succ _)
    refine storeV (by rfl) (by rfl) (v := v) (by rfl) RB15 Fv ?_
    clear LB15
    intro s61 G61 LB15 RQ
    have z62 := G61.size
    replace E := grown_ext E G61 (by omega)
    replace NV := NV.grown G61 (by first | omega | (dsimp only [New]; omega))
    replace LB11 := LB11.grown G61 (by omega)
    replace NU := NU.grown G61 (by first | omega | (dsimp only [New]; omega))
    replace LB13 := LB13.grown G61 (by omega)
    replace LB16 := LB16.grown G61 (by omega)
    replace RB16 := RB16.grown G61 (by omega)
    clear RB15
    have RB15 := RQ
    clear RQ hRl G61
    clear hHeld
    have hHeld := And.intro LB11 (LB13)
    refine hK.out _ _ hHeld (fun _ => ?_)
    clear hK K
    try simp only [Act.put]
    refine wpAnyH_ready (rs := [5]) (by kernel_rfl) (by simp) ?_
    refine AllReadyH.cons (o := { dst := none, op := Go.Op.store 34 (Go.Operand.tmp 16) (Go.Operand.tmp 56), type := 0, pos := "law.go:76", after := #[{ on := 3, ground := Go.Ground.data }, { on := 1, ground := Go.Ground.data }, { on := 4, ground := Go.Ground.chain }, { on := 0, ground := Go.Ground.phase }, { on := 1, ground := Go.Ground.phase }, { on := 2, ground := Go.Ground.phase }, { on := 3, ground := Go.Ground.phase }, { on := 4, ground := Go.Ground.phase }], guard := none }) rfl (fun K hK => ?_) (AllReadyH.nil)
    rw [if_pos (by rfl)]
    have hRl := (RB16).lt (Nat.zero_lt_succ _)
    refine storeV (by rfl) (by rfl) (v := u) (by rfl) RB16 Fu ?_
    clear LB16
    intro s63 G63 LB16 RQ
    have z64 := G63.size
    replace E := grown_ext E G63 (by omega)
    replace NV := NV.grown G63 (by first | omega | (dsimp only [New]; omega))
    replace LB11 := LB11.grown G63 (by omega)
    replace NU := NU.grown G63 (by first | omega | (dsimp only [New]; omega))
    replace LB13 := LB13.grown G63 (by omega)
    replace LB15 := LB15.grown G63 (by omega)
    replace RB15 := RB15.grown G63 (by omega)
    clear RB16
    have RB16 := RQ
    clear RQ hRl G63
    clear hHeld
    have hHeld := And.intro LB11 (LB13)
    refine hK.out _ _ hHeld (fun _ => ?_)
    clear hK K
    try simp only [Act.put]
    refine wpAnyH_done (by kernel_rfl) ?_ _
    go_wp2_with (refine loadsV (B := B11) (by rfl) rfl rfl LB11 ?_)
    clear RB16 RB15
    refine (cij v _ NV.is).mono ?_
    rintro e w60 ⟨rfl, x⟩
    have z65 := x.size
    replace E := E.trans x
    replace NV := NV.ext x
    replace LB11 := LB11.ext x
    replace NU := NU.ext x
    replace LB13 := LB13.ext x
    replace LB16 := LB16.ext x
    replace LB15 := LB15.ext x
    clear x
    have TB17 : True := trivial
    have TG67 : True := trivial
    go_wp2_with (first | (clear TB17; refine allocsV rfl rfl ?_; intro B17 w17 bB17 cB17 XB17 LB17 RB17; have z66 := XB17.size; replace E := E.trans XB17; replace NV := NV.ext XB17; replace LB11 := LB11.ext XB17; replace NU := NU.ext XB17; replace LB13 := LB13.ext XB17; replace LB16 := LB16.ext XB17; replace LB15 := LB15.ext XB17; clear LB17) | (clear TG67; have hRl := (RB17).lt (Nat.zero_lt_succ _); refine storesV (B := B17) rfl rfl rfl (v := zeroVec) rfl RB17 zeroVec_flat ?_; intro s67 G67 LB17 RQ; have z68 := G67.size; replace E := grown_ext E G67 (by omega); replace NV := NV.grown G67 (by first | omega | (dsimp only [New]; omega)); replace LB11 := LB11.grown G67 (by omega); replace NU := NU.grown G67 (by first | omega | (dsimp only [New]; omega)); replace LB13 := LB13.grown G67 (by omega); replace LB16 := LB16.grown G67 (by omega); replace LB15 := LB15.grown G67 (by omega); clear RB17; have RB17 := RQ; clear RQ hRl; clear LB17 RB17) | (refine loadsV (B := B13) (by rfl) rfl rfl LB13 ?_))
    refine (cik u _ NU.is).mono ?_
    rintro e w68 ⟨rfl, x⟩
    have z69 := x.size
    replace E := E.trans x
    replace NV := NV.ext x
    replace LB11 := LB11.ext x
    replace NU := NU.ext x
    replace LB13 := LB13.ext x
    replace LB16 := LB16.ext x
    replace LB15 := LB15.ext x
    clear x
    have TB19 : True := trivial
    have TG71 : True := trivial
    go_wp2_with (first | (clear TB19; refine allocsV rfl rfl ?_; intro B19 w19 bB19 cB19 XB19 LB19 RB19; have z70 := XB19.size; replace E := E.trans XB19; replace NV := NV.ext XB19; replace LB11 := LB11.ext XB19; replace NU := NU.ext XB19; replace LB13 := LB13.ext XB19; replace LB16 := LB16.ext XB19; replace LB15 := LB15.ext XB19; clear LB19) | (clear TG71; have hRl := (RB19).lt (Nat.zero_lt_succ _); refine storesV (B := B19) rfl rfl rfl (v := zeroVec) rfl RB19 zeroVec_flat ?_; intro s71 G71 LB19 RQ; have z72 := G71.size; replace E := grown_ext E G71 (by omega); replace NV := NV.grown G71 (by first | omega | (dsimp only [New]; omega)); replace LB11 := LB11.grown G71 (by omega); replace NU := NU.grown G71 (by first | omega | (dsimp only [New]; omega)); replace LB13 := LB13.grown G71 (by omega); replace LB16 := LB16.grown G71 (by omega); replace LB15 := LB15.grown G71 (by omega); clear RB19; have RB19 := RQ; clear RQ hRl; clear LB19 RB19) | (refine loadsV (B := B11) (by rfl) rfl rfl LB11 ?_) | (refine loadsV (B := B13) (by rfl) rfl rfl LB13 ?_))
    clear LB11 LB13
    refine (cap v u _ _ _ NV.is NU.is).mono ?_
    rintro e w77 ⟨p, rfl, hq, x⟩
    have NP := hq.now
    have Fp := NP.is.flat
    clear hq
    have z73 := x.size
    replace E := E.trans x
    replace NV := NV.ext x
    replace NU := NU.ext x
    replace LB16 := LB16.ext x
    replace LB15 := LB15.ext x
    clear x
    have TB21 : True := trivial
    have TG75 : True := trivial
    go_wp2_with (first | (clear TB21; refine allocsV rfl rfl ?_; intro B21 w21 bB21 cB21 XB21 LB21 RB21; have z74 := XB21.size; replace E := E.trans XB21; replace NV := NV.ext XB21; replace NU := NU.ext XB21; replace LB16 := LB16.ext XB21; replace LB15 := LB15.ext XB21; replace NP := NP.ext XB21) | (clear TG75; have hRl := (RB21).lt (Nat.zero_lt_succ _); refine storesV (B := B21) rfl rfl rfl (v := p) rfl RB21 Fp ?_; clear LB21; intro s75 G75 LB21 RQ; have z76 := G75.size; replace E := grown_ext E G75 (by omega); replace NV := NV.grown G75 (by first | omega | (dsimp only [New]; omega)); replace NU := NU.grown G75 (by first | omega | (dsimp only [New]; omega)); replace LB16 := LB16.grown G75 (by omega); replace LB15 := LB15.grown G75 (by omega); replace NP := NP.grown G75 (by first | omega | (dsimp only [New]; omega)); clear RB21; have RB21 := RQ; clear RQ hRl; clear RB21) | (refine loadsV (B := B15) (by rfl) rfl rfl LB15 ?_) | (refine loadsV (B := B16) (by rfl) rfl rfl LB16 ?_))
    clear LB16 LB15
    refine (cap v u _ _ _ NV.is NU.is).mono ?_
    rintro e w84 ⟨q, rfl, hq, x⟩
    have NQ := hq.now
    have Fq := NQ.is.flat
    clear hq
    have z77 := x.size
    replace E := E.trans x
    replace NV := NV.ext x
    replace NU := NU.ext x
    replace NP := NP.ext x
    replace LB21 := LB21.ext x
    clear x
    have TB23 : True := trivial
    have TG79 : True := trivial
    go_wp2_with (first | (clear TB23; refine allocsV rfl rfl ?_; intro B23 w23 bB23 cB23 XB23 LB23 RB23; have z78 := XB23.size; replace E := E.trans XB23; replace NV := NV.ext XB23; replace NU := NU.ext XB23; replace NP := NP.ext XB23; replace LB21 := LB21.ext XB23; replace NQ := NQ.ext XB23) | (clear TG79; have hRl := (RB23).lt (Nat.zero_lt_succ _); refine storesV (B := B23) rfl rfl rfl (v := q) rfl RB23 Fq ?_; clear LB23; intro s79 G79 LB23 RQ; have z80 := G79.size; replace E := grown_ext E G79 (by omega); replace NV := NV.grown G79 (by first | omega | (dsimp only [New]; omega)); replace NU := NU.grown G79 (by first | omega | (dsimp only [New]; omega)); replace NP := NP.grown G79 (by first | omega | (dsimp only [New]; omega)); replace LB21 := LB21.grown G79 (by omega); replace NQ := NQ.grown G79 (by first | omega | (dsimp only [New]; omega)); clear RB23; have RB23 := RQ; clear RQ hRl; clear RB23) | (refine loadsV (B := B21) (by rfl) rfl rfl LB21 ?_))
    clear LB21
    refine (cpk p _ NP.is).mono ?_
    rintro e w89 ⟨s, rfl, hq, x⟩
    have NS := hq _ NP
    have Fs := NS.is.flat
    clear hq
    have z81 := x.size
    replace E := E.trans x
    replace NV := NV.ext x
    replace NU := NU.ext x
    replace NP := NP.ext x
    replace NQ := NQ.ext x
    replace LB23 := LB23.ext x
    clear x
    have TB25 : True := trivial
    have TG83 : True := trivial
    go_wp2_with (first | (clear TB25; refine allocsB rfl rfl ?_; intro B25 w25 bB25 cB25 XB25 LB25 RB25; have z82 := XB25.size; replace E := E.trans XB25; replace NV := NV.ext XB25; replace NU := NU.ext XB25; replace NP := NP.ext XB25; replace NQ := NQ.ext XB25; replace LB23 := LB23.ext XB25; replace NS := NS.ext XB25) | (clear TG83; have hRl := (RB25).lt (Nat.zero_lt_succ _); refine storesB (B := B25) rfl rfl rfl (v := s) rfl RB25 Fs ?_; clear LB25; intro s83 G83 LB25 RQ; have z84 := G83.size; replace E := grown_ext E G83 (by omega); replace NV := NV.grown G83 (by first | omega | (dsimp only [New]; omega)); replace NU := NU.grown G83 (by first | omega | (dsimp only [New]; omega)); replace NP := NP.grown G83 (by first | omega | (dsimp only [New]; omega)); replace NQ := NQ.grown G83 (by first | omega | (dsimp only [New]; omega)); replace LB23 := LB23.grown G83 (by omega); replace NS := NS.grown G83 (by first | omega | (dsimp only [New]; omega)); clear RB25; have RB25 := RQ; clear RQ hRl; clear RB25) | (refine loadsV (B := B23) (by rfl) rfl rfl LB23 ?_))
    clear LB23
    refine (cpk q _ NQ.is).mono ?_
    rintro e w94 ⟨t, rfl, hq, x⟩
    have NT := hq _ NQ
    have Ft := NT.is.flat
    clear hq
    have z85 := x.size
    replace E := E.trans x
    replace NV := NV.ext x
    replace NU := NU.ext x
    replace NP := NP.ext x
    replace NQ := NQ.ext x
    replace NS := NS.ext x
    replace LB25 := LB25.ext x
    clear x
    have TB27 : True := trivial
    have TG87 : True := trivial
    go_wp2_with (first | (clear TB27; refine allocsB rfl rfl ?_; intro B27 w27 bB27 cB27 XB27 LB27 RB27; have z86 := XB27.size; replace E := E.trans XB27; replace NV := NV.ext XB27; replace NU := NU.ext XB27; replace NP := NP.ext XB27; replace NQ := NQ.ext XB27; replace NS := NS.ext XB27; replace LB25 := LB25.ext XB27; replace NT := NT.ext XB27) | (clear TG87; have hRl := (RB27).lt (Nat.zero_lt_succ _); refine storesB (B := B27) rfl rfl rfl (v := t) rfl RB27 Ft ?_; clear LB27; intro s87 G87 LB27 RQ; have z88 := G87.size; replace E := grown_ext E G87 (by omega); replace NV := NV.grown G87 (by first | omega | (dsimp only [New]; omega)); replace NU := NU.grown G87 (by first | omega | (dsimp only [New]; omega)); replace NP := NP.grown G87 (by first | omega | (dsimp only [New]; omega)); replace NQ := NQ.grown G87 (by first | omega | (dsimp only [New]; omega)); replace NS := NS.grown G87 (by first | omega | (dsimp only [New]; omega)); replace LB25 := LB25.grown G87 (by omega); replace NT := NT.grown G87 (by first | omega | (dsimp only [New]; omega)); clear RB27; have RB27 := RQ; clear RQ hRl; clear RB27))
    try simp only [Act.put, List.setIfInBounds_toArray, List.set_cons_zero, List.set_cons_succ]
    have hq89 : s87.heap.size ≤ s87.drew.heap.size := Nat.le_refl _
    have z90 := (Ext.refl s87).drew.size
    replace E := E.trans (Ext.refl s87).drew
    replace NV := NV.ext (Ext.refl s87).drew
    replace NU := NU.ext (Ext.refl s87).drew
    replace NP := NP.ext (Ext.refl s87).drew
    replace NQ := NQ.ext (Ext.refl s87).drew
    replace NS := NS.ext (Ext.refl s87).drew
    replace LB25 := LB25.ext (Ext.refl s87).drew
    replace NT := NT.ext (Ext.refl s87).drew
    replace LB27 := LB27.ext (Ext.refl s87).drew
    refine wp_region_held_drew (S := (fun w' => Lay 2 w' B25 s ∧ Lay 2 w' B27 t)) (by kernel_rfl) ⟨LB25, LB27⟩ (fun hHeld => ?_)
    refine wpAnyH_take (i := 0) (oi := { dst := some 97, op := Go.Op.move (Go.Operand.tmp 22), type := 59, pos := "law.go:87", after := #[], guard := none }) (v := ?v91) rfl (by kernel_rfl) (by kernel_rfl) (by kernel_rfl) (fun _ _ _ h => h) (Or.inl ⟨by rfl, ?hy91⟩) hHeld ?rest91
    case hy91 => (intro w hSw; (try dsimp only at hSw); go_simp; (first | done | with_reducible rfl))
    try simp only [Act.put, List.setIfInBounds_toArray, List.set_cons_zero, List.set_cons_succ]
    refine wpAnyH_take (i := 1) (oi := { dst := some 98, op := Go.Op.move (Go.Operand.tmp 24), type := 59, pos := "law.go:87", after := #[], guard := none }) (v := ?v92) rfl (by kernel_rfl) (by kernel_rfl) (by kernel_rfl) (fun _ _ _ h => h) (Or.inl ⟨by rfl, ?hy92⟩) hHeld ?rest92
    case hy92 => (intro w hSw; (try dsimp only at hSw); go_simp; (first | done | with_reducible rfl))
    try simp only [Act.put, List.setIfInBounds_toArray, List.set_cons_zero, List.set_cons_succ]
    refine wpAnyH_take (i := 2) (oi := { dst := some 99, op := Go.Op.binOp Go.BinOp.eql 59 (Go.Operand.tmp 97) (Go.Operand.tmp 98) 59, type := 4, pos := "law.go:87", after := #[{ on := 0, ground := Go.Ground.data }, { on := 1, ground := Go.Ground.data }], guard := none }) (v := ?v93) rfl (by kernel_rfl) (by kernel_rfl) (by kernel_rfl) (fun _ _ _ h => h) (Or.inl ⟨by rfl, ?hy93⟩) hHeld ?rest93
    case hy93 => (intro w hSw; (try dsimp only at hSw); go_simp; (first | done | with_reducible rfl))
    try simp only [Act.put, List.setIfInBounds_toArray, List.set_cons_zero, List.set_cons_succ]
    refine wpAnyH_take (i := 3) (oi := { dst := some 100, op := Go.Op.move (Go.Operand.tmp 99), type := 4, pos := "law.go:87", after := #[{ on := 2, ground := Go.Ground.data }], guard := none }) (v := ?v94) rfl (by kernel_rfl) (by kernel_rfl) (by kernel_rfl) (fun _ _ _ h => h) (Or.inl ⟨by rfl, ?hy94⟩) hHeld ?rest94
    case hy94 => (intro w hSw; (try dsimp only at hSw); go_simp; (first | done | with_reducible rfl))
    try simp only [Act.put, List.setIfInBounds_toArray, List.set_cons_zero, List.set_cons_succ]
    refine wpAnyH_take (i := 4) (oi := { dst := some 101, op := Go.Op.load 28 (Go.Operand.tmp 25), type := 28, pos := "law.go:87", after := #[{ on := 3, ground := Go.Ground.guard }], guard := some (3, true) }) (v := s) rfl (by kernel_rfl) (by kernel_rfl) (by kernel_rfl) (fun _ _ _ h => h) (yieldB (by rfl) rfl rfl fun w' hx => hx.1) hHeld ?_
    try simp only [Act.put, List.setIfInBounds_toArray, List.set_cons_zero, List.set_cons_succ]
    refine wpAnyH_take (i := 6) (oi := { dst := some 103, op := Go.Op.load 28 (Go.Operand.tmp 27), type := 28, pos := "law.go:87", after := #[{ on := 3, ground := Go.Ground.guard }], guard := some (3, true) }) (v := t) rfl (by kernel_rfl) (by kernel_rfl) (by kernel_rfl) (fun _ _ _ h => h) (yieldB (by rfl) rfl rfl fun w' hx => hx.2) hHeld ?_
    try simp only [Act.put, List.setIfInBounds_toArray, List.set_cons_zero, List.set_cons_succ]
    refine wpAnyH_ready (rs := [5]) (by kernel_rfl) (by simp) ?_
    refine AllReadyH.cons (o := { dst := some 102, op := Go.Op.call { callee := Go.Callee.value (Go.Operand.func 40), args := #[Go.Operand.tmp 101], argTypes := #[28] }, type := 62, pos := "law.go:87", after := #[{ on := 4, ground := Go.Ground.data }, { on := 3, ground := Go.Ground.chain }, { on := 3, ground := Go.Ground.guard }], guard := some (3, true) }) rfl (fun K hK => ?_) (AllReadyH.nil)
    go_simp
    refine (cu0 s _ NS.is).mono ?_
    rintro e w102 ⟨R, cR, rfl, hq, x⟩
    have SR := SlS.all hq
    clear hq
    have z97 := x.size
    replace E := E.trans x
    replace NV := NV.ext x
    replace NU := NU.ext x
    replace NP := NP.ext x
    replace NQ := NQ.ext x
    replace NS := NS.ext x
    replace LB25 := LB25.ext x
    replace NT := NT.ext x
    replace LB27 := LB27.ext x
    clear x
    clear hHeld
    have hHeld := And.intro LB25 (LB27)
    refine hK.out _ _ hHeld (fun _ => ?_)
    clear hK K
    try simp only [Act.put, List.setIfInBounds_toArray, List.set_cons_zero, List.set_cons_succ]
    refine wpAnyH_ready (rs := [7]) (by kernel_rfl) (by simp) ?_
    refine AllReadyH.cons (o := { dst := some 104, op := Go.Op.call { callee := Go.Callee.value (Go.Operand.func 40), args := #[Go.Operand.tmp 103], argTypes := #[28] }, type := 62, pos := "law.go:87", after := #[{ on := 6, ground := Go.Ground.data }, { on := 5, ground := Go.Ground.chain }, { on := 3, ground := Go.Ground.guard }], guard := some (3, true) }) rfl (fun K hK => ?_) (AllReadyH.nil)
    go_simp
    refine (cu0 t _ NT.is).mono ?_
    rintro e w104 ⟨Q, cQ, rfl, hq, x⟩
    have SQ := SlS.all hq
    clear hq
    have z98 := x.size
    replace E := E.trans x
    replace NV := NV.ext x
    replace NU := NU.ext x
    replace NP := NP.ext x
    replace NQ := NQ.ext x
    replace NS := NS.ext x
    replace LB25 := LB25.ext x
    replace NT := NT.ext x
    replace LB27 := LB27.ext x
    replace SR := SR.ext x
    clear x
    clear hHeld
    have hHeld := And.intro LB25 (LB27)
    refine hK.out _ _ hHeld (fun _ => ?_)
    clear hK K
    try simp only [Act.put, List.setIfInBounds_toArray, List.set_cons_zero, List.set_cons_succ]
    refine wpAnyH_ready (rs := [8]) (by kernel_rfl) (by simp) ?_
    refine AllReadyH.cons (o := { dst := some 105, op := Go.Op.call { callee := Go.Callee.value (Go.Operand.func 39), args := #[Go.Operand.tmp 102, Go.Operand.tmp 104], argTypes := #[62, 62] }, type := 4, pos := "law.go:87", after := #[{ on := 5, ground := Go.Ground.data }, { on := 7, ground := Go.Ground.data }, { on := 7, ground := Go.Ground.chain }, { on := 3, ground := Go.Ground.guard }], guard := some (3, true) }) rfl (fun K hK => ?_) (AllReadyH.nil)
    go_simp
    refine (cb0 R Q cR cQ _ SR.is SQ.is).mono ?_
    rintro e w105 ⟨rfl, x⟩
    have z99 := x.size
    replace E := E.trans x
    replace NV := NV.ext x
    replace NU := NU.ext x
    replace NP := NP.ext x
    replace NQ := NQ.ext x
    replace NS := NS.ext x
    replace LB25 := LB25.ext x
    replace NT := NT.ext x
    replace LB27 := LB27.ext x
    replace SR := SR.ext x
    replace SQ := SQ.ext x
    clear x
    clear hHeld
    have hHeld := And.intro LB25 (LB27)
    refine hK.out _ _ hHeld (fun _ => ?_)
    clear hK K
    try simp only [Act.put, List.setIfInBounds_toArray, List.set_cons_zero, List.set_cons_succ]
    refine wpAnyH_take (i := 9) (oi := { dst := some 106, op := Go.Op.pick (Go.Operand.tmp 100) (Go.Operand.tmp 105) (Go.Operand.const (Go.Value.bool false)), type := 4, pos := "law.go:87", after := #[{ on := 3, ground := Go.Ground.data }, { on := 8, ground := Go.Ground.data }], guard := none }) (v := ?v100) rfl (by kernel_rfl) (by kernel_rfl) (by kernel_rfl) (fun _ _ _ h => h) (Or.inl ⟨by rfl, ?hy100⟩) hHeld ?rest100
    case hy100 => (intro w hSw; (try dsimp only at hSw); go_simp; (first | done | with_reducible rfl))
    try simp only [Act.put, List.setIfInBounds_toArray, List.set_cons_zero, List.set_cons_succ]
    refine wpAnyH_take (i := 10) (oi := { dst := some 107, op := Go.Op.move (Go.Operand.tmp 106), type := 4, pos := "law.go:87", after := #[{ on := 9, ground := Go.Ground.data }, { on := 8, ground := Go.Ground.chain }], guard := none }) (v := ?v101) rfl (by kernel_rfl) (by kernel_rfl) (by kernel_rfl) (fun _ _ _ h => h) (Or.inl ⟨by rfl, ?hy101⟩) hHeld ?rest101
    case hy101 => (intro w hSw; (try dsimp only at hSw); go_simp; (first | done | with_reducible rfl))
    try simp only [Act.put, List.setIfInBounds_toArray, List.set_cons_zero, List.set_cons_succ]
    refine wpAnyH_ready (rs := [11]) (by kernel_rfl) (by simp) ?_
    refine AllReadyH.cons (o := { dst := some 108, op := Go.Op.call { callee := Go.Callee.value (Go.Operand.func 46), args := #[], argTypes := #[] }, type := 4, pos := "law.go:87", after := #[{ on := 10, ground := Go.Ground.chain }, { on := 10, ground := Go.Ground.guard }], guard := some (10, true) }) rfl (fun K hK => ?_) (AllReadyH.nil)
    go_simp
    refine (rawake_any _).mono ?_
    rintro e w108 ⟨rfl, x⟩
    have z102 := x.size
    replace E := E.trans x
    replace NV := NV.ext x
    replace NU := NU.ext x
    replace NP := NP.ext x
    replace NQ := NQ.ext x
    replace NS := NS.ext x
    replace LB25 := LB25.ext x
    replace NT := NT.ext x
    replace LB27 := LB27.ext x
    replace SR := SR.ext x
    replace SQ := SQ.ext x
    clear x
    clear hHeld
    have hHeld := And.intro LB25 (LB27)
    refine hK.out _ _ hHeld (fun _ => ?_)
    clear hK K
    try simp only [Act.put, List.setIfInBounds_toArray, List.set_cons_zero, List.set_cons_succ]
    refine wpAnyH_take (i := 12) (oi := { dst := some 109, op := Go.Op.pick (Go.Operand.tmp 107) (Go.Operand.tmp 108) (Go.Operand.const (Go.Value.bool false)), type := 4, pos := "law.go:87", after := #[{ on := 10, ground := Go.Ground.data }, { on := 11, ground := Go.Ground.data }], guard := none }) (v := ?v103) rfl (by kernel_rfl) (by kernel_rfl) (by kernel_rfl) (fun _ _ _ h => h) (Or.inl ⟨by rfl, ?hy103⟩) hHeld ?rest103
    case hy103 => (intro w hSw; (try dsimp only at hSw); go_simp; (first | done | with_reducible rfl))
    try simp only [Act.put, List.setIfInBounds_toArray, List.set_cons_zero, List.set_cons_succ]
    refine wpAnyH_take (i := 13) (oi := { dst := some 10, op := Go.Op.assign (Go.Operand.tmp 109), type := 4, pos := "law.go:87", after := #[{ on := 12, ground := Go.Ground.data }, { on := 11, ground := Go.Ground.chain }, { on := 0, ground := Go.Ground.phase }, { on := 1, ground := Go.Ground.phase }, { on := 2, ground := Go.Ground.phase }, { on := 3, ground := Go.Ground.phase }, { on := 4, ground := Go.Ground.phase }, { on := 5, ground := Go.Ground.phase }, { on := 6, ground := Go.Ground.phase }, { on := 7, ground := Go.Ground.phase }, { on := 8, ground := Go.Ground.phase }, { on := 9, ground := Go.Ground.phase }, { on := 10, ground := Go.Ground.phase }, { on := 11, ground := Go.Ground.phase }, { on := 12, ground := Go.Ground.phase }], guard := none }) (v := ?v104) rfl (by kernel_rfl) (by kernel_rfl) (by kernel_rfl) (fun _ _ _ h => h) (Or.inl ⟨by rfl, ?hy104⟩) hHeld ?rest104
    case hy104 => (intro w hSw; (try dsimp only at hSw); go_simp; (first | done | with_reducible rfl))
    try simp only [Act.put, List.setIfInBounds_toArray, List.set_cons_zero, List.set_cons_succ]
    refine wpAnyH_done (by kernel_rfl) ?_ _
    go_wp2_with fail
    go_ret
    exact ⟨rfl, E⟩
theorem relateStores_01 (hn : n = a.length) (hm : m = b.length) (hwa : ∀ x ∈ a, x < 18446744073709551616) (hwb : ∀ x ∈ b, x < 18446744073709551616) (h3 : n ≤ 300) (h4 : m ≤ 300) (hs : Sl w 1 A n (f64s a)) (hs' : Sl w 1 B m (f64s b)) (hfa : allF a = true) (hfb : allF b = true) (hj : fitsL (dnL a) j = false) (hk : fitsL (dnL b) k = true) : Calls Try.prog 11 #[.int .i64 f, .slice A n c, .slice B m c', .int .i64 j, .int .i64 k] w fun e w' => e = .returned (.bool true) ∧ Ext w w' := by
  have cka := fun w hs => numbers_yes A a n hn hwa hfa c w (by omega) hs
  have ckb := fun w hs => numbers_yes B b m hm hwb hfb c' w (by omega) hs
  have la : n = (dnL a).length := by rw [dnL_length]; exact hn
  have lb : m = (dnL b).length := by rw [dnL_length]; exact hm
  have HS := Lib.hid hs
  have HS' := Lib.hid hs'
  have cij := fun v w h => into_no v (leastL (dnL a)) (dnL a) j hj w h
  obtain ⟨k', rfl⟩ : ∃ k' : Nat, k = k' := by
    have := of_decide_eq_true hk
    have := leastL_ge (dnL b)
    exact ⟨k.toNat, by omega⟩
  have cik := fun v w h => into_yes v (leastL (dnL b)) (dnL b) k' hk w h
  clear hs hs' hn hm hwa hwb hfa hfb hj hk
  generalize dnL a = X at *
  generalize dnL b = Y at *
  generalize leastL X = K1 at *
  generalize leastL Y = K2 at *
  have cap := fun v u K J w hv hu => rapply_num f v u K J X Y (by omega) (by omega) w hv hu
  obtain ⟨m0, hm0⟩ : ∃ m0, m0 = (relLL f X Y).length := ⟨_, rfl⟩
  have hm00 : m0 ≤ 1048576 := by
    rw [hm0]
    by_cases hE : relE f X.length Y.length = 0
    · unfold relLL; rw [if_pos hE, relL_length]
      have : lenV (X.length : Int) (Y.length : Int) ≤ 300 := by unfold lenV; rw [← la, ← lb]; repeat (first | split | omega)
      omega
    · unfold relLL; rw [if_neg hE]; simp
  have cpk : ∀ p w, IsVec w p (relD f X Y) → Calls Try.prog 36 #[p] w fun e w' => ∃ q, e = .returned (.tuple #[q, .bool (relE f X.length Y.length == 0)]) ∧ (∀ S, VecS w p (relD f X Y) S → BitS w' q (relLL f X Y) S) ∧ Ext w w' := fun p w h => by
    have := packed_u p _ (relD_cases f X Y) w h
    unfold PackedU at this
    rwa [relD_kind, relD_bits] at this
  have cu0 := fun p w h => unpack_sl p (relLL f X Y) m0 hm0 w h
  have cb0 := fun P Q c c' w h h' => bools_same P Q (relLL f X Y) m0 m0 c c' hm0 hm0 w hm00 h h'
  clear hm0 hm00 la lb
  generalize relD f X Y = D at *
  generalize relLL f X Y = AL at *
  generalize (relE f X.length Y.length == 0) = eb at *
  generalize relE f X.length Y.length = er at *
  have E := Ext.refl w
  go_enter Try.func11, Try.ntmps11
  go_wp2_with fail
  refine (cka _ (HS.out.ext E)).mono ?_
  rintro e w40 ⟨v, rfl, hq, x⟩
  have NV := hq.now
  have Fv := NV.is.flat
  clear hq
  have z1 := x.size
  replace E := E.trans x
  clear x
  have TB11 : True := trivial
  have TG3 : True := trivial
  go_wp2_with (first | (clear TB11; refine allocsV rfl rfl ?_; intro B11 w11 bB11 cB11 XB11 LB11 RB11; have z2 := XB11.size; replace E := E.trans XB11; replace NV := NV.ext XB11) | (clear TG3; have hRl := (RB11).lt (Nat.zero_lt_succ _); refine storesV (B := B11) rfl rfl rfl (v := v) rfl RB11 Fv ?_; clear LB11; intro s3 G3 LB11 RQ; have z4 := G3.size; replace E := grown_ext E G3 (by omega); replace NV := NV.grown G3 (by first | omega | (dsimp only [New]; omega)); clear RB11; have RB11 := RQ; clear RQ hRl; clear RB11))
  refine (ckb _ (HS'.out.ext E)).mono ?_
  rintro e w45 ⟨u, rfl, hq, x⟩
  have NU := hq.now
  have Fu := NU.is.flat
  clear hq
  have z5 := x.size
  replace E := E.trans x
  replace NV := NV.ext x
  replace LB11 := LB11.ext x
  clear x
  have TB13 : True := trivial
  have TG7 : True := trivial
  go_wp2_with (first | (clear TB13; refine allocsV rfl rfl ?_; intro B13 w13 bB13 cB13 XB13 LB13 RB13; have z6 := XB13.size; replace E := E.trans XB13; replace NV := NV.ext XB13; replace LB11 := LB11.ext XB13; replace NU := NU.ext XB13) | (clear TG7; have hRl := (RB13).lt (Nat.zero_lt_succ _); refine storesV (B := B13) rfl rfl rfl (v := u) rfl RB13 Fu ?_; clear LB13; intro s7 G7 LB13 RQ; have z8 := G7.size; replace E := grown_ext E G7 (by omega); replace NV := NV.grown G7 (by first | omega | (dsimp only [New]; omega)); replace LB11 := LB11.grown G7 (by omega); replace NU := NU.grown G7 (by first | omega | (dsimp only [New]; omega)); clear RB13; have RB13 := RQ; clear RQ hRl; clear RB13))
  try simp only [Act.put, List.setIfInBounds_toArray, List.set_cons_zero, List.set_cons_succ]
  have hq9 : s7.heap.size ≤ s7.drew.heap.size := Nat.le_refl _
  have z10 := (Ext.refl s7).drew.size
  replace E := E.trans (Ext.refl s7).drew
  replace NV := NV.ext (Ext.refl s7).drew
  replace LB11 := LB11.ext (Ext.refl s7).drew
  replace NU := NU.ext (Ext.refl s7).drew
  replace LB13 := LB13.ext (Ext.refl s7).drew
  refine wp_region_held_drew (S := (fun w' => Lay 8 w' B11 v ∧ Lay 8 w' B13 u)) (by kernel_rfl) ⟨LB11, LB13⟩ (fun hHeld => ?_)
  refine wpAnyH_take (i := 0) (oi := { dst := some 55, op := Go.Op.load 34 (Go.Operand.tmp 11), type := 34, pos := "law.go:76", after := #[], guard := none }) (v := v) rfl (by kernel_rfl) (by kernel_rfl) (by kernel_rfl) (fun _ _ _ h => h) (yieldV (by rfl) rfl rfl fun w' hx => hx.1) hHeld ?_
  try simp only [Act.put, List.setIfInBounds_toArray, List.set_cons_zero, List.set_cons_succ]
  refine wpAnyH_take (i := 1) (oi := { dst := some 56, op := Go.Op.load 34 (Go.Operand.tmp 13), type := 34, pos := "law.go:76", after := #[{ on := 4, ground := Go.Ground.gcOnly Go.Departure.lateStores }], guard := none }) (v := u) rfl (by kernel_rfl) (by kernel_rfl) (by kernel_rfl) (fun _ _ _ h => h) (yieldV (by rfl) rfl rfl fun w' hx => hx.2) hHeld ?_
  try simp only [Act.put, List.setIfInBounds_toArray, List.set_cons_zero, List.set_cons_succ]
  refine wpAnyH_ready (rs := [2, 3]) (by kernel_rfl) (by simp) ?_
  refine AllReadyH.cons (o := { dst := some 15, op := Go.Op.alloc 34, type := 0, pos := "law.go:76", after := #[], guard := none }) rfl (fun K hK => ?_) (AllReadyH.cons (o := { dst := some 16, op := Go.Op.alloc 34, type := 0, pos := "law.go:76", after := #[], guard := none }) rfl (fun K hK => ?_) (AllReadyH.nil))
  · rw [if_pos (by rfl)]
    refine allocV rfl ?_
    intro B15 w15 bB15 cB15 XB15 LB15 RB15
    have z13 := XB15.size
    replace E := E.trans XB15
    replace NV := NV.ext XB15
    replace LB11 := LB11.ext XB15
    replace NU := NU.ext XB15
    replace LB13 := LB13.ext XB15
    clear hHeld
    have hHeld := And.intro LB11 (LB13)
    refine hK.out _ _ hHeld (fun _ => ?_)
    clear hK K
    try simp only [Act.put, List.setIfInBounds_toArray, List.set_cons_zero, List.set_cons_succ]
    refine wpAnyH_ready (rs := [3]) (by kernel_rfl) (by simp) ?_
    refine AllReadyH.cons (o := { dst := some 16, op := Go.Op.alloc 34, type := 0, pos := "law.go:76", after := #[], guard := none }) rfl (fun K hK => ?_) (AllReadyH.nil)
    rw [if_pos (by rfl)]
    refine allocV rfl ?_
    intro B16 w16 bB16 cB16 XB16 LB16 RB16
    have z14 := XB16.size
    replace E := E.trans XB16
    replace NV := NV.ext XB16
    replace LB11 := LB11.ext XB16
    replace NU := NU.ext XB16
    replace LB13 := LB13.ext XB16
    replace LB15 := LB15.ext XB16
    replace RB15 := RB15.ext XB16
    clear hHeld
    have hHeld := And.intro LB11 (LB13)
    refine hK.out _ _ hHeld (fun _ => ?_)
    clear hK K
    try simp only [Act.put, List.setIfInBounds_toArray, List.set_cons_zero, List.set_cons_succ]
    refine wpAnyH_ready (rs := [4]) (by kernel_rfl) (by simp) ?_
    refine AllReadyH.cons (o := { dst := none, op := Go.Op.store 34 (Go.Operand.tmp 15) (Go.Operand.tmp 55), type := 0, pos := "law.go:76", after := #[{ on := 2, ground := Go.Ground.data }, { on := 0, ground := Go.Ground.data }, { on := 0, ground := Go.Ground.phase }, { on := 1, ground := Go.Ground.textOnly Go.Departure.lateStores }, { on := 2, ground := Go.Ground.phase }, { on := 3, ground := Go.Ground.phase }], guard := none }) rfl (fun K hK => ?_) (AllReadyH.nil)
    rw [if_pos (by rfl)]
    have hRl := (RB15).lt (Nat.zero_lt_succ _)
    refine storeV (by rfl) (by rfl) (v := v) (by rfl) RB15 Fv ?_
    clear LB15
    intro s15 G15 LB15 RQ
    have z16 := G15.size
    replace E := grown_ext E G15 (by omega)
    replace NV := NV.grown G15 (by first | omega | (dsimp only [New]; omega))
    replace LB11 := LB11.grown G15 (by omega)
    replace NU := NU.grown G15 (by first | omega | (dsimp only [New]; omega))
    replace LB13 := LB13.grown G15 (by omega)
    replace LB16 := LB16.grown G15 (by omega)
    replace RB16 := RB16.grown G15 (by omega)
    clear RB15
    have RB15 := RQ
    clear RQ hRl G15
    clear hHeld
    have hHeld := And.intro LB11 (LB13)
    refine hK.out _ _ hHeld (fun _ => ?_)
    clear hK K
    try simp only [Act.put]
    refine wpAnyH_ready (rs := [5]) (by kernel_rfl) (by simp) ?_
    refine AllReadyH.cons (o := { dst := none, op := Go.Op.store 34 (Go.Operand.tmp 16) (Go.Operand.tmp 56), type := 0, pos := "law.go:76", after := #[{ on := 3, ground := Go.Ground.data }, { on := 1, ground := Go.Ground.data }, { on := 4, ground := Go.Ground.chain }, { on := 0, ground := Go.Ground.phase }, { on := 1, ground := Go.Ground.phase }, { on := 2, ground := Go.Ground.phase }, { on := 3, ground := Go.Ground.phase }, { on := 4, ground := Go.Ground.phase }], guard := none }) rfl (fun K hK => ?_) (AllReadyH.nil)
    rw [if_pos (by rfl)]
    have hRl := (RB16).lt (Nat.zero_lt_succ _)
    refine storeV (by rfl) (by rfl) (v := u) (by rfl) RB16 Fu ?_
    clear LB16
    intro s17 G17 LB16 RQ
    have z18 := G17.size
    replace E := grown_ext E G17 (by omega)
    replace NV := NV.grown G17 (by first | omega | (dsimp only [New]; omega))
    replace LB11 := LB11.grown G17 (by omega)
    replace NU := NU.grown G17 (by first | omega | (dsimp only [New]; omega))
    replace LB13 := LB13.grown G17 (by omega)
    replace LB15 := LB15.grown G17 (by omega)
    replace RB15 := RB15.grown G17 (by omega)
    clear RB16
    have RB16 := RQ
    clear RQ hRl G17
    clear hHeld
    have hHeld := And.intro LB11 (LB13)
    refine hK.out _ _ hHeld (fun _ => ?_)
    clear hK K
    try simp only [Act.put]
    refine wpAnyH_done (by kernel_rfl) ?_ _
    go_wp2_with (refine loadsV (B := B11) (by rfl) rfl rfl LB11 ?_)
    clear RB15
    refine (cij v _ NV.is).mono ?_
    rintro e w60 ⟨rfl, x⟩
    have z19 := x.size
    replace E := E.trans x
    replace NV := NV.ext x
    replace LB11 := LB11.ext x
    replace NU := NU.ext x
    replace LB13 := LB13.ext x
    replace LB15 := LB15.ext x
    replace LB16 := LB16.ext x
    replace RB16 := RB16.ext x
    clear x
    have TB17 : True := trivial
    have TG21 : True := trivial
    go_wp2_with (first | (clear TB17; refine allocsV rfl rfl ?_; intro B17 w17 bB17 cB17 XB17 LB17 RB17; have z20 := XB17.size; replace E := E.trans XB17; replace NV := NV.ext XB17; replace LB11 := LB11.ext XB17; replace NU := NU.ext XB17; replace LB13 := LB13.ext XB17; replace LB15 := LB15.ext XB17; replace LB16 := LB16.ext XB17; replace RB16 := RB16.ext XB17; clear LB17) | (clear TG21; have hRl := (RB17).lt (Nat.zero_lt_succ _); refine storesV (B := B17) rfl rfl rfl (v := zeroVec) rfl RB17 zeroVec_flat ?_; intro s21 G21 LB17 RQ; have z22 := G21.size; replace E := grown_ext E G21 (by omega); replace NV := NV.grown G21 (by first | omega | (dsimp only [New]; omega)); replace LB11 := LB11.grown G21 (by omega); replace NU := NU.grown G21 (by first | omega | (dsimp only [New]; omega)); replace LB13 := LB13.grown G21 (by omega); replace LB15 := LB15.grown G21 (by omega); replace LB16 := LB16.grown G21 (by omega); replace RB16 := RB16.grown G21 (by omega); clear RB17; have RB17 := RQ; clear RQ hRl; clear LB17 RB17) | (refine loadsV (B := B13) (by rfl) rfl rfl LB13 ?_))
    refine (cik u _ NU.is).mono ?_
    rintro e w68 ⟨u2, rfl, hq, x⟩
    have NU2 := (hq _ NU).now
    have Fu2 := NU2.is.flat
    clear hq
    have z23 := x.size
    replace E := E.trans x
    replace NV := NV.ext x
    replace LB11 := LB11.ext x
    replace NU := NU.ext x
    replace LB13 := LB13.ext x
    replace LB15 := LB15.ext x
    replace LB16 := LB16.ext x
    replace RB16 := RB16.ext x
    clear x
    have TB19 : True := trivial
    have TG25 : True := trivial
    have TG27 : True := trivial
    go_wp2_with (first | (clear TB19; refine allocsV rfl rfl ?_; intro B19 w19 bB19 cB19 XB19 LB19 RB19; have z24 := XB19.size; replace E := E.trans XB19; replace NV := NV.ext XB19; replace LB11 := LB11.ext XB19; replace NU := NU.ext XB19; replace LB13 := LB13.ext XB19; replace LB15 := LB15.ext XB19; replace LB16 := LB16.ext XB19; replace RB16 := RB16.ext XB19; replace NU2 := NU2.ext XB19) | (clear TG25; have hRl := (RB19).lt (Nat.zero_lt_succ _); refine storesV (B := B19) rfl rfl rfl (v := u2) rfl RB19 Fu2 ?_; clear LB19; intro s25 G25 LB19 RQ; have z26 := G25.size; replace E := grown_ext E G25 (by omega); replace NV := NV.grown G25 (by first | omega | (dsimp only [New]; omega)); replace LB11 := LB11.grown G25 (by omega); replace NU := NU.grown G25 (by first | omega | (dsimp only [New]; omega)); replace LB13 := LB13.grown G25 (by omega); replace LB15 := LB15.grown G25 (by omega); replace LB16 := LB16.grown G25 (by omega); replace RB16 := RB16.grown G25 (by omega); replace NU2 := NU2.grown G25 (by first | omega | (dsimp only [New]; omega)); clear RB19; have RB19 := RQ; clear RQ hRl; clear RB19) | (refine loadsV (B := B19) (by rfl) rfl rfl LB19 ?_) | (clear TG27; have hRl := (RB16).lt (Nat.zero_lt_succ _); refine storesV (B := B16) rfl rfl rfl (v := u2) rfl RB16 Fu2 ?_; clear LB16; intro s27 G27 LB16 RQ; have z28 := G27.size; replace E := grown_ext E G27 (by omega); replace NV := NV.grown G27 (by first | omega | (dsimp only [New]; omega)); replace LB11 := LB11.grown G27 (by omega); replace NU := NU.grown G27 (by first | omega | (dsimp only [New]; omega)); replace LB13 := LB13.grown G27 (by omega); replace LB15 := LB15.grown G27 (by omega); replace NU2 := NU2.grown G27 (by first | omega | (dsimp only [New]; omega)); replace LB19 := LB19.grown G27 (by omega); clear RB16; have RB16 := RQ; clear RQ hRl; clear RB16) | (refine loadsV (B := B11) (by rfl) rfl rfl LB11 ?_) | (refine loadsV (B := B13) (by rfl) rfl rfl LB13 ?_))
    clear LB11 LB13 LB19
    refine (cap v u _ _ _ NV.is NU.is).mono ?_
    rintro e w77 ⟨p, rfl, hq, x⟩
    have NP := hq.now
    have Fp := NP.is.flat
    clear hq
    have z29 := x.size
    replace E := E.trans x
    replace NV := NV.ext x
    replace NU := NU.ext x
    replace LB15 := LB15.ext x
    replace LB16 := LB16.ext x
    replace NU2 := NU2.ext x
    clear x
    have TB21 : True := trivial
    have TG31 : True := trivial
    go_wp2_with (first | (clear TB21; refine allocsV rfl rfl ?_; intro B21 w21 bB21 cB21 XB21 LB21 RB21; have z30 := XB21.size; replace E := E.trans XB21; replace NV := NV.ext XB21; replace NU := NU.ext XB21; replace LB15 := LB15.ext XB21; replace LB16 := LB16.ext XB21; replace NU2 := NU2.ext XB21; replace NP := NP.ext XB21) | (clear TG31; have hRl := (RB21).lt (Nat.zero_lt_succ _); refine storesV (B := B21) rfl rfl rfl (v := p) rfl RB21 Fp ?_; clear LB21; intro s31 G31 LB21 RQ; have z32 := G31.size; replace E := grown_ext E G31 (by omega); replace NV := NV.grown G31 (by first | omega | (dsimp only [New]; omega)); replace NU := NU.grown G31 (by first | omega | (dsimp only [New]; omega)); replace LB15 := LB15.grown G31 (by omega); replace LB16 := LB16.grown G31 (by omega); replace NU2 := NU2.grown G31 (by first | omega | (dsimp only [New]; omega)); replace NP := NP.grown G31 (by first | omega | (dsimp only [New]; omega)); clear RB21; have RB21 := RQ; clear RQ hRl; clear RB21) | (refine loadsV (B := B15) (by rfl) rfl rfl LB15 ?_) | (refine loadsV (B := B16) (by rfl) rfl rfl LB16 ?_))
    clear LB15 LB16
    refine (cap v u2 _ _ _ NV.is NU2.is).mono ?_
    rintro e w84 ⟨q, rfl, hq, x⟩
    have NQ := hq.now
    have Fq := NQ.is.flat
    clear hq
    have z33 := x.size
    replace E := E.trans x
    replace NV := NV.ext x
    replace NU := NU.ext x
    replace NU2 := NU2.ext x
    replace NP := NP.ext x
    replace LB21 := LB21.ext x
    clear x
    have TB23 : True := trivial
    have TG35 : True := trivial
    go_wp2_with (first | (clear TB23; refine allocsV rfl rfl ?_; intro B23 w23 bB23 cB23 XB23 LB23 RB23; have z34 := XB23.size; replace E := E.trans XB23; replace NV := NV.ext XB23; replace NU := NU.ext XB23; replace NU2 := NU2.ext XB23; replace NP := NP.ext XB23; replace LB21 := LB21.ext XB23; replace NQ := NQ.ext XB23) | (clear TG35; have hRl := (RB23).lt (Nat.zero_lt_succ _); refine storesV (B := B23) rfl rfl rfl (v := q) rfl RB23 Fq ?_; clear LB23; intro s35 G35 LB23 RQ; have z36 := G35.size; replace E := grown_ext E G35 (by omega); replace NV := NV.grown G35 (by first | omega | (dsimp only [New]; omega)); replace NU := NU.grown G35 (by first | omega | (dsimp only [New]; omega)); replace NU2 := NU2.grown G35 (by first | omega | (dsimp only [New]; omega)); replace NP := NP.grown G35 (by first | omega | (dsimp only [New]; omega)); replace LB21 := LB21.grown G35 (by omega); replace NQ := NQ.grown G35 (by first | omega | (dsimp only [New]; omega)); clear RB23; have RB23 := RQ; clear RQ hRl; clear RB23) | (refine loadsV (B := B21) (by rfl) rfl rfl LB21 ?_))
    clear LB21
    refine (cpk p _ NP.is).mono ?_
    rintro e w89 ⟨s, rfl, hq, x⟩
    have NS := hq _ NP
    have Fs := NS.is.flat
    clear hq
    have z37 := x.size
    replace E := E.trans x
    replace NV := NV.ext x
    replace NU := NU.ext x
    replace NU2 := NU2.ext x
    replace NP := NP.ext x
    replace NQ := NQ.ext x
    replace LB23 := LB23.ext x
    clear x
    have TB25 : True := trivial
    have TG39 : True := trivial
    go_wp2_with (first | (clear TB25; refine allocsB rfl rfl ?_; intro B25 w25 bB25 cB25 XB25 LB25 RB25; have z38 := XB25.size; replace E := E.trans XB25; replace NV := NV.ext XB25; replace NU := NU.ext XB25; replace NU2 := NU2.ext XB25; replace NP := NP.ext XB25; replace NQ := NQ.ext XB25; replace LB23 := LB23.ext XB25; replace NS := NS.ext XB25) | (clear TG39; have hRl := (RB25).lt (Nat.zero_lt_succ _); refine storesB (B := B25) rfl rfl rfl (v := s) rfl RB25 Fs ?_; clear LB25; intro s39 G39 LB25 RQ; have z40 := G39.size; replace E := grown_ext E G39 (by omega); replace NV := NV.grown G39 (by first | omega | (dsimp only [New]; omega)); replace NU := NU.grown G39 (by first | omega | (dsimp only [New]; omega)); replace NU2 := NU2.grown G39 (by first | omega | (dsimp only [New]; omega)); replace NP := NP.grown G39 (by first | omega | (dsimp only [New]; omega)); replace NQ := NQ.grown G39 (by first | omega | (dsimp only [New]; omega)); replace LB23 := LB23.grown G39 (by omega); replace NS := NS.grown G39 (by first | omega | (dsimp only [New]; omega)); clear RB25; have RB25 := RQ; clear RQ hRl; clear RB25) | (refine loadsV (B := B23) (by rfl) rfl rfl LB23 ?_))
    clear LB23
    refine (cpk q _ NQ.is).mono ?_
    rintro e w94 ⟨t, rfl, hq, x⟩
    have NT := hq _ NQ
    have Ft := NT.is.flat
    clear hq
    have z41 := x.size
    replace E := E.trans x
    replace NV := NV.ext x
    replace NU := NU.ext x
    replace NU2 := NU2.ext x
    replace NP := NP.ext x
    replace NQ := NQ.ext x
    replace NS := NS.ext x
    replace LB25 := LB25.ext x
    clear x
    have TB27 : True := trivial
    have TG43 : True := trivial
    go_wp2_with (first | (clear TB27; refine allocsB rfl rfl ?_; intro B27 w27 bB27 cB27 XB27 LB27 RB27; have z42 := XB27.size; replace E := E.trans XB27; replace NV := NV.ext XB27; replace NU := NU.ext XB27; replace NU2 := NU2.ext XB27; replace NP := NP.ext XB27; replace NQ := NQ.ext XB27; replace NS := NS.ext XB27; replace LB25 := LB25.ext XB27; replace NT := NT.ext XB27) | (clear TG43; have hRl := (RB27).lt (Nat.zero_lt_succ _); refine storesB (B := B27) rfl rfl rfl (v := t) rfl RB27 Ft ?_; clear LB27; intro s43 G43 LB27 RQ; have z44 := G43.size; replace E := grown_ext E G43 (by omega); replace NV := NV.grown G43 (by first | omega | (dsimp only [New]; omega)); replace NU := NU.grown G43 (by first | omega | (dsimp only [New]; omega)); replace NU2 := NU2.grown G43 (by first | omega | (dsimp only [New]; omega)); replace NP := NP.grown G43 (by first | omega | (dsimp only [New]; omega)); replace NQ := NQ.grown G43 (by first | omega | (dsimp only [New]; omega)); replace NS := NS.grown G43 (by first | omega | (dsimp only [New]; omega)); replace LB25 := LB25.grown G43 (by omega); replace NT := NT.grown G43 (by first | omega | (dsimp only [New]; omega)); clear RB27; have RB27 := RQ; clear RQ hRl; clear RB27))
    try simp only [Act.put, List.setIfInBounds_toArray, List.set_cons_zero, List.set_cons_succ]
    have hq45 : s43.heap.size ≤ s43.drew.heap.size := Nat.le_refl _
    have z46 := (Ext.refl s43).drew.size
    replace E := E.trans (Ext.refl s43).drew
    replace NV := NV.ext (Ext.refl s43).drew
    replace NU := NU.ext (Ext.refl s43).drew
    replace NU2 := NU2.ext (Ext.refl s43).drew
    replace NP := NP.ext (Ext.refl s43).drew
    replace NQ := NQ.ext (Ext.refl s43).drew
    replace NS := NS.ext (Ext.refl s43).drew
    replace LB25 := LB25.ext (Ext.refl s43).drew
    replace NT := NT.ext (Ext.refl s43).drew
    replace LB27 := LB27.ext (Ext.refl s43).drew
    refine wp_region_held_drew (S := (fun w' => Lay 2 w' B25 s ∧ Lay 2 w' B27 t)) (by kernel_rfl) ⟨LB25, LB27⟩ (fun hHeld => ?_)
    refine wpAnyH_take (i := 0) (oi := { dst := some 97, op := Go.Op.move (Go.Operand.tmp 22), type := 59, pos := "law.go:87", after := #[], guard := none }) (v := ?v47) rfl (by kernel_rfl) (by kernel_rfl) (by kernel_rfl) (fun _ _ _ h => h) (Or.inl ⟨by rfl, ?hy47⟩) hHeld ?rest47
    case hy47 => (intro w hSw; (try dsimp only at hSw); go_simp; (first | done | with_reducible rfl))
    try simp only [Act.put, List.setIfInBounds_toArray, List.set_cons_zero, List.set_cons_succ]
    refine wpAnyH_take (i := 1) (oi := { dst := some 98, op := Go.Op.move (Go.Operand.tmp 24), type := 59, pos := "law.go:87", after := #[], guard := none }) (v := ?v48) rfl (by kernel_rfl) (by kernel_rfl) (by kernel_rfl) (fun _ _ _ h => h) (Or.inl ⟨by rfl, ?hy48⟩) hHeld ?rest48
    case hy48 => (intro w hSw; (try dsimp only at hSw); go_simp; (first | done | with_reducible rfl))
    try simp only [Act.put, List.setIfInBounds_toArray, List.set_cons_zero, List.set_cons_succ]
    refine wpAnyH_take (i := 2) (oi := { dst := some 99, op := Go.Op.binOp Go.BinOp.eql 59 (Go.Operand.tmp 97) (Go.Operand.tmp 98) 59, type := 4, pos := "law.go:87", after := #[{ on := 0, ground := Go.Ground.data }, { on := 1, ground := Go.Ground.data }], guard := none }) (v := ?v49) rfl (by kernel_rfl) (by kernel_rfl) (by kernel_rfl) (fun _ _ _ h => h) (Or.inl ⟨by rfl, ?hy49⟩) hHeld ?rest49
    case hy49 => (intro w hSw; (try dsimp only at hSw); go_simp; (first | done | with_reducible rfl))
    try simp only [Act.put, List.setIfInBounds_toArray, List.set_cons_zero, List.set_cons_succ]
    refine wpAnyH_take (i := 3) (oi := { dst := some 100, op := Go.Op.move (Go.Operand.tmp 99), type := 4, pos := "law.go:87", after := #[{ on := 2, ground := Go.Ground.data }], guard := none }) (v := ?v50) rfl (by kernel_rfl) (by kernel_rfl) (by kernel_rfl) (fun _ _ _ h => h) (Or.inl ⟨by rfl, ?hy50⟩) hHeld ?rest50
    case hy50 => (intro w hSw; (try dsimp only at hSw); go_simp; (first | done | with_reducible rfl))
    try simp only [Act.put, List.setIfInBounds_toArray, List.set_cons_zero, List.set_cons_succ]
    refine wpAnyH_take (i := 4) (oi := { dst := some 101, op := Go.Op.load 28 (Go.Operand.tmp 25), type := 28, pos := "law.go:87", after := #[{ on := 3, ground := Go.Ground.guard }], guard := some (3, true) }) (v := s) rfl (by kernel_rfl) (by kernel_rfl) (by kernel_rfl) (fun _ _ _ h => h) (yieldB (by rfl) rfl rfl fun w' hx => hx.1) hHeld ?_
    try simp only [Act.put, List.setIfInBounds_toArray, List.set_cons_zero, List.set_cons_succ]
    refine wpAnyH_take (i := 6) (oi := { dst := some 103, op := Go.Op.load 28 (Go.Operand.tmp 27), type := 28, pos := "law.go:87", after := #[{ on := 3, ground := Go.Ground.guard }], guard := some (3, true) }) (v := t) rfl (by kernel_rfl) (by kernel_rfl) (by kernel_rfl) (fun _ _ _ h => h) (yieldB (by rfl) rfl rfl fun w' hx => hx.2) hHeld ?_
    try simp only [Act.put, List.setIfInBounds_toArray, List.set_cons_zero, List.set_cons_succ]
    refine wpAnyH_ready (rs := [5]) (by kernel_rfl) (by simp) ?_
    refine AllReadyH.cons (o := { dst := some 102, op := Go.Op.call { callee := Go.Callee.value (Go.Operand.func 40), args := #[Go.Operand.tmp 101], argTypes := #[28] }, type := 62, pos := "law.go:87", after := #[{ on := 4, ground := Go.Ground.data }, { on := 3, ground := Go.Ground.chain }, { on := 3, ground := Go.Ground.guard }], guard := some (3, true) }) rfl (fun K hK => ?_) (AllReadyH.nil)
    go_simp
    refine (cu0 s _ NS.is).mono ?_
    rintro e w102 ⟨R, cR, rfl, hq, x⟩
    have SR := SlS.all hq
    clear hq
    have z53 := x.size
    replace E := E.trans x
    replace NV := NV.ext x
    replace NU := NU.ext x
    replace NU2 := NU2.ext x
    replace NP := NP.ext x
    replace NQ := NQ.ext x
    replace NS := NS.ext x
    replace LB25 := LB25.ext x
    replace NT := NT.ext x
    replace LB27 := LB27.ext x
    clear x
    clear hHeld
    have hHeld := And.intro LB25 (LB27)
    refine hK.out _ _ hHeld (fun _ => ?_)
    clear hK K
    try simp only [Act.put, List.setIfInBounds_toArray, List.set_cons_zero, List.set_cons_succ]
    refine wpAnyH_ready (rs := [7]) (by kernel_rfl) (by simp) ?_
    refine AllReadyH.cons (o := { dst := some 104, op := Go.Op.call { callee := Go.Callee.value (Go.Operand.func 40), args := #[Go.Operand.tmp 103], argTypes := #[28] }, type := 62, pos := "law.go:87", after := #[{ on := 6, ground := Go.Ground.data }, { on := 5, ground := Go.Ground.chain }, { on := 3, ground := Go.Ground.guard }], guard := some (3, true) }) rfl (fun K hK => ?_) (AllReadyH.nil)
    go_simp
    refine (cu0 t _ NT.is).mono ?_
    rintro e w104 ⟨Q, cQ, rfl, hq, x⟩
    have SQ := SlS.all hq
    clear hq
    have z54 := x.size
    replace E := E.trans x
    replace NV := NV.ext x
    replace NU := NU.ext x
    replace NU2 := NU2.ext x
    replace NP := NP.ext x
    replace NQ := NQ.ext x
    replace NS := NS.ext x
    replace LB25 := LB25.ext x
    replace NT := NT.ext x
    replace LB27 := LB27.ext x
    replace SR := SR.ext x
    clear x
    clear hHeld
    have hHeld := And.intro LB25 (LB27)
    refine hK.out _ _ hHeld (fun _ => ?_)
    clear hK K
    try simp only [Act.put, List.setIfInBounds_toArray, List.set_cons_zero, List.set_cons_succ]
    refine wpAnyH_ready (rs := [8]) (by kernel_rfl) (by simp) ?_
    refine AllReadyH.cons (o := { dst := some 105, op := Go.Op.call { callee := Go.Callee.value (Go.Operand.func 39), args := #[Go.Operand.tmp 102, Go.Operand.tmp 104], argTypes := #[62, 62] }, type := 4, pos := "law.go:87", after := #[{ on := 5, ground := Go.Ground.data }, { on := 7, ground := Go.Ground.data }, { on := 7, ground := Go.Ground.chain }, { on := 3, ground := Go.Ground.guard }], guard := some (3, true) }) rfl (fun K hK => ?_) (AllReadyH.nil)
    go_simp
    refine (cb0 R Q cR cQ _ SR.is SQ.is).mono ?_
    rintro e w105 ⟨rfl, x⟩
    have z55 := x.size
    replace E := E.trans x
    replace NV := NV.ext x
    replace NU := NU.ext x
    replace NU2 := NU2.ext x
    replace NP := NP.ext x
    replace NQ := NQ.ext x
    replace NS := NS.ext x
    replace LB25 := LB25.ext x
    replace NT := NT.ext x
    replace LB27 := LB27.ext x
    replace SR := SR.ext x
    replace SQ := SQ.ext x
    clear x
    clear hHeld
    have hHeld := And.intro LB25 (LB27)
    refine hK.out _ _ hHeld (fun _ => ?_)
    clear hK K
    try simp only [Act.put, List.setIfInBounds_toArray, List.set_cons_zero, List.set_cons_succ]
    refine wpAnyH_take (i := 9) (oi := { dst := some 106, op := Go.Op.pick (Go.Operand.tmp 100) (Go.Operand.tmp 105) (Go.Operand.const (Go.Value.bool false)), type := 4, pos := "law.go:87", after := #[{ on := 3, ground := Go.Ground.data }, { on := 8, ground := Go.Ground.data }], guard := none }) (v := ?v56) rfl (by kernel_rfl) (by kernel_rfl) (by kernel_rfl) (fun _ _ _ h => h) (Or.inl ⟨by rfl, ?hy56⟩) hHeld ?rest56
    case hy56 => (intro w hSw; (try dsimp only at hSw); go_simp; (first | done | with_reducible rfl))
    try simp only [Act.put, List.setIfInBounds_toArray, List.set_cons_zero, List.set_cons_succ]
    refine wpAnyH_take (i := 10) (oi := { dst := some 107, op := Go.Op.move (Go.Operand.tmp 106), type := 4, pos := "law.go:87", after := #[{ on := 9, ground := Go.Ground.data }, { on := 8, ground := Go.Ground.chain }], guard := none }) (v := ?v57) rfl (by kernel_rfl) (by kernel_rfl) (by kernel_rfl) (fun _ _ _ h => h) (Or.inl ⟨by rfl, ?hy57⟩) hHeld ?rest57
    case hy57 => (intro w hSw; (try dsimp only at hSw); go_simp; (first | done | with_reducible rfl))
    try simp only [Act.put, List.setIfInBounds_toArray, List.set_cons_zero, List.set_cons_succ]
    refine wpAnyH_ready (rs := [11]) (by kernel_rfl) (by simp) ?_
    refine AllReadyH.cons (o := { dst := some 108, op := Go.Op.call { callee := Go.Callee.value (Go.Operand.func 46), args := #[], argTypes := #[] }, type := 4, pos := "law.go:87", after := #[{ on := 10, ground := Go.Ground.chain }, { on := 10, ground := Go.Ground.guard }], guard := some (10, true) }) rfl (fun K hK => ?_) (AllReadyH.nil)
    go_simp
    refine (rawake_any _).mono ?_
    rintro e w108 ⟨rfl, x⟩
    have z58 := x.size
    replace E := E.trans x
    replace NV := NV.ext x
    replace NU := NU.ext x
    replace NU2 := NU2.ext x
    replace NP := NP.ext x
    replace NQ := NQ.ext x
    replace NS := NS.ext x
    replace LB25 := LB25.ext x
    replace NT := NT.ext x
    replace LB27 := LB27.ext x
    replace SR := SR.ext x
    replace SQ := SQ.ext x
    clear x
    clear hHeld
    have hHeld := And.intro LB25 (LB27)
    refine hK.out _ _ hHeld (fun _ => ?_)
    clear hK K
    try simp only [Act.put, List.setIfInBounds_toArray, List.set_cons_zero, List.set_cons_succ]
    refine wpAnyH_take (i := 12) (oi := { dst := some 109, op := Go.Op.pick (Go.Operand.tmp 107) (Go.Operand.tmp 108) (Go.Operand.const (Go.Value.bool false)), type := 4, pos := "law.go:87", after := #[{ on := 10, ground := Go.Ground.data }, { on := 11, ground := Go.Ground.data }], guard := none }) (v := ?v59) rfl (by kernel_rfl) (by kernel_rfl) (by kernel_rfl) (fun _ _ _ h => h) (Or.inl ⟨by rfl, ?hy59⟩) hHeld ?rest59
    case hy59 => (intro w hSw; (try dsimp only at hSw); go_simp; (first | done | with_reducible rfl))
    try simp only [Act.put, List.setIfInBounds_toArray, List.set_cons_zero, List.set_cons_succ]
    refine wpAnyH_take (i := 13) (oi := { dst := some 10, op := Go.Op.assign (Go.Operand.tmp 109), type := 4, pos := "law.go:87", after := #[{ on := 12, ground := Go.Ground.data }, { on := 11, ground := Go.Ground.chain }, { on := 0, ground := Go.Ground.phase }, { on := 1, ground := Go.Ground.phase }, { on := 2, ground := Go.Ground.phase }, { on := 3, ground := Go.Ground.phase }, { on := 4, ground := Go.Ground.phase }, { on := 5, ground := Go.Ground.phase }, { on := 6, ground := Go.Ground.phase }, { on := 7, ground := Go.Ground.phase }, { on := 8, ground := Go.Ground.phase }, { on := 9, ground := Go.Ground.phase }, { on := 10, ground := Go.Ground.phase }, { on := 11, ground := Go.Ground.phase }, { on := 12, ground := Go.Ground.phase }], guard := none }) (v := ?v60) rfl (by kernel_rfl) (by kernel_rfl) (by kernel_rfl) (fun _ _ _ h => h) (Or.inl ⟨by rfl, ?hy60⟩) hHeld ?rest60
    case hy60 => (intro w hSw; (try dsimp only at hSw); go_simp; (first | done | with_reducible rfl))
    try simp only [Act.put, List.setIfInBounds_toArray, List.set_cons_zero, List.set_cons_succ]
    refine wpAnyH_done (by kernel_rfl) ?_ _
    go_wp2_with fail
    go_ret
    exact ⟨rfl, E⟩
  · rw [if_pos (by rfl)]
    refine allocV rfl ?_
    intro B16 w16 bB16 cB16 XB16 LB16 RB16
    have z61 := XB16.size
    replace E := E.trans XB16
    replace NV := NV.ext XB16
    replace LB11 := LB11.ext XB16
    replace NU := NU.ext XB16
    replace LB13 := LB13.ext XB16
    clear hHeld
    have hHeld := And.intro LB11 (LB13)
    refine hK.out _ _ hHeld (fun _ => ?_)
    clear hK K
    try simp only [Act.put, List.setIfInBounds_toArray, List.set_cons_zero, List.set_cons_succ]
    refine wpAnyH_ready (rs := [2]) (by kernel_rfl) (by simp) ?_
    refine AllReadyH.cons (o := { dst := some 15, op := Go.Op.alloc 34, type := 0, pos := "law.go:76", after := #[], guard := none }) rfl (fun K hK => ?_) (AllReadyH.nil)
    rw [if_pos (by rfl)]
    refine allocV rfl ?_
    intro B15 w15 bB15 cB15 XB15 LB15 RB15
    have z62 := XB15.size
    replace E := E.trans XB15
    replace NV := NV.ext XB15
    replace LB11 := LB11.ext XB15
    replace NU := NU.ext XB15
    replace LB13 := LB13.ext XB15
    replace LB16 := LB16.ext XB15
    replace RB16 := RB16.ext XB15
    clear hHeld
    have hHeld := And.intro LB11 (LB13)
    refine hK.out _ _ hHeld (fun _ => ?_)
    clear hK K
    try simp only [Act.put, List.setIfInBounds_toArray, List.set_cons_zero, List.set_cons_succ]
    refine wpAnyH_ready (rs := [4]) (by kernel_rfl) (by simp) ?_
    refine AllReadyH.cons (o := { dst := none, op := Go.Op.store 34 (Go.Operand.tmp 15) (Go.Operand.tmp 55), type := 0, pos := "law.go:76", after := #[{ on := 2, ground := Go.Ground.data }, { on := 0, ground := Go.Ground.data }, { on := 0, ground := Go.Ground.phase }, { on := 1, ground := Go.Ground.textOnly Go.Departure.lateStores }, { on := 2, ground := Go.Ground.phase }, { on := 3, ground := Go.Ground.phase }], guard := none }) rfl (fun K hK => ?_) (AllReadyH.nil)
    rw [if_pos (by rfl)]
    have hRl := (RB15).lt (Nat.zero_lt_succ _)
    refine storeV (by rfl) (by rfl) (v := v) (by rfl) RB15 Fv ?_
    clear LB15
    intro s63 G63 LB15 RQ
    have z64 := G63.size
    replace E := grown_ext E G63 (by omega)
    replace NV := NV.grown G63 (by first | omega | (dsimp only [New]; omega))
    replace LB11 := LB11.grown G63 (by omega)
    replace NU := NU.grown G63 (by first | omega | (dsimp only [New]; omega))
    replace LB13 := LB13.grown G63 (by omega)
    replace LB16 := LB16.grown G63 (by omega)
    replace RB16 := RB16.grown G63 (by omega)
    clear RB15
    have RB15 := RQ
    clear RQ hRl G63
    clear hHeld
    have hHeld := And.intro LB11 (LB13)
    refine hK.out _ _ hHeld (fun _ => ?_)
    clear hK K
    try simp only [Act.put]
    refine wpAnyH_ready (rs := [5]) (by kernel_rfl) (by simp) ?_
    refine AllReadyH.cons (o := { dst := none, op := Go.Op.store 34 (Go.Operand.tmp 16) (Go.Operand.tmp 56), type := 0, pos := "law.go:76", after := #[{ on := 3, ground := Go.Ground.data }, { on := 1, ground := Go.Ground.data }, { on := 4, ground := Go.Ground.chain }, { on := 0, ground := Go.Ground.phase }, { on := 1, ground := Go.Ground.phase }, { on := 2, ground := Go.Ground.phase }, { on := 3, ground := Go.Ground.phase }, { on := 4, ground := Go.Ground.phase }], guard := none }) rfl (fun K hK => ?_) (AllReadyH.nil)
    rw [if_pos (by rfl)]
    have hRl := (RB16).lt (Nat.zero_lt_succ _)
    refine storeV (by rfl) (by rfl) (v := u) (by rfl) RB16 Fu ?_
    clear LB16
    intro s65 G65 LB16 RQ
    have z66 := G65.size
    replace E := grown_ext E G65 (by omega)
    replace NV := NV.grown G65 (by first | omega | (dsimp only [New]; omega))
    replace LB11 := LB11.grown G65 (by omega)
    replace NU := NU.grown G65 (by first | omega | (dsimp only [New]; omega))
    replace LB13 := LB13.grown G65 (by omega)
    replace LB15 := LB15.grown G65 (by omega)
    replace RB15 := RB15.grown G65 (by omega)
    clear RB16
    have RB16 := RQ
    clear RQ hRl G65
    clear hHeld
    have hHeld := And.intro LB11 (LB13)
    refine hK.out _ _ hHeld (fun _ => ?_)
    clear hK K
    try simp only [Act.put]
    refine wpAnyH_done (by kernel_rfl) ?_ _
    go_wp2_with (refine loadsV (B := B11) (by rfl) rfl rfl LB11 ?_)
    clear RB15
    refine (cij v _ NV.is).mono ?_
    rintro e w60 ⟨rfl, x⟩
    have z67 := x.size
    replace E := E.trans x
    replace NV := NV.ext x
    replace LB11 := LB11.ext x
    replace NU := NU.ext x
    replace LB13 := LB13.ext x
    replace LB16 := LB16.ext x
    replace RB16 := RB16.ext x
    replace LB15 := LB15.ext x
    clear x
    have TB17 : True := trivial
    have TG69 : True := trivial
    go_wp2_with (first | (clear TB17; refine allocsV rfl rfl ?_; intro B17 w17 bB17 cB17 XB17 LB17 RB17; have z68 := XB17.size; replace E := E.trans XB17; replace NV := NV.ext XB17; replace LB11 := LB11.ext XB17; replace NU := NU.ext XB17; replace LB13 := LB13.ext XB17; replace LB16 := LB16.ext XB17; replace RB16 := RB16.ext XB17; replace LB15 := LB15.ext XB17; clear LB17) | (clear TG69; have hRl := (RB17).lt (Nat.zero_lt_succ _); refine storesV (B := B17) rfl rfl rfl (v := zeroVec) rfl RB17 zeroVec_flat ?_; intro s69 G69 LB17 RQ; have z70 := G69.size; replace E := grown_ext E G69 (by omega); replace NV := NV.grown G69 (by first | omega | (dsimp only [New]; omega)); replace LB11 := LB11.grown G69 (by omega); replace NU := NU.grown G69 (by first | omega | (dsimp only [New]; omega)); replace LB13 := LB13.grown G69 (by omega); replace LB16 := LB16.grown G69 (by omega); replace RB16 := RB16.grown G69 (by omega); replace LB15 := LB15.grown G69 (by omega); clear RB17; have RB17 := RQ; clear RQ hRl; clear LB17 RB17) | (refine loadsV (B := B13) (by rfl) rfl rfl LB13 ?_))
    refine (cik u _ NU.is).mono ?_
    rintro e w68 ⟨u2, rfl, hq, x⟩
    have NU2 := (hq _ NU).now
    have Fu2 := NU2.is.flat
    clear hq
    have z71 := x.size
    replace E := E.trans x
    replace NV := NV.ext x
    replace LB11 := LB11.ext x
    replace NU := NU.ext x
    replace LB13 := LB13.ext x
    replace LB16 := LB16.ext x
    replace RB16 := RB16.ext x
    replace LB15 := LB15.ext x
    clear x
    have TB19 : True := trivial
    have TG73 : True := trivial
    have TG75 : True := trivial
    go_wp2_with (first | (clear TB19; refine allocsV rfl rfl ?_; intro B19 w19 bB19 cB19 XB19 LB19 RB19; have z72 := XB19.size; replace E := E.trans XB19; replace NV := NV.ext XB19; replace LB11 := LB11.ext XB19; replace NU := NU.ext XB19; replace LB13 := LB13.ext XB19; replace LB16 := LB16.ext XB19; replace RB16 := RB16.ext XB19; replace LB15 := LB15.ext XB19; replace NU2 := NU2.ext XB19) | (clear TG73; have hRl := (RB19).lt (Nat.zero_lt_succ _); refine storesV (B := B19) rfl rfl rfl (v := u2) rfl RB19 Fu2 ?_; clear LB19; intro s73 G73 LB19 RQ; have z74 := G73.size; replace E := grown_ext E G73 (by omega); replace NV := NV.grown G73 (by first | omega | (dsimp only [New]; omega)); replace LB11 := LB11.grown G73 (by omega); replace NU := NU.grown G73 (by first | omega | (dsimp only [New]; omega)); replace LB13 := LB13.grown G73 (by omega); replace LB16 := LB16.grown G73 (by omega); replace RB16 := RB16.grown G73 (by omega); replace LB15 := LB15.grown G73 (by omega); replace NU2 := NU2.grown G73 (by first | omega | (dsimp only [New]; omega)); clear RB19; have RB19 := RQ; clear RQ hRl; clear RB19) | (refine loadsV (B := B19) (by rfl) rfl rfl LB19 ?_) | (clear TG75; have hRl := (RB16).lt (Nat.zero_lt_succ _); refine storesV (B := B16) rfl rfl rfl (v := u2) rfl RB16 Fu2 ?_; clear LB16; intro s75 G75 LB16 RQ; have z76 := G75.size; replace E := grown_ext E G75 (by omega); replace NV := NV.grown G75 (by first | omega | (dsimp only [New]; omega)); replace LB11 := LB11.grown G75 (by omega); replace NU := NU.grown G75 (by first | omega | (dsimp only [New]; omega)); replace LB13 := LB13.grown G75 (by omega); replace LB15 := LB15.grown G75 (by omega); replace NU2 := NU2.grown G75 (by first | omega | (dsimp only [New]; omega)); replace LB19 := LB19.grown G75 (by omega); clear RB16; have RB16 := RQ; clear RQ hRl; clear RB16) | (refine loadsV (B := B11) (by rfl) rfl rfl LB11 ?_) | (refine loadsV (B := B13) (by rfl) rfl rfl LB13 ?_))
    clear LB11 LB13 LB19
    refine (cap v u _ _ _ NV.is NU.is).mono ?_
    rintro e w77 ⟨p, rfl, hq, x⟩
    have NP := hq.now
    have Fp := NP.is.flat
    clear hq
    have z77 := x.size
    replace E := E.trans x
    replace NV := NV.ext x
    replace NU := NU.ext x
    replace LB16 := LB16.ext x
    replace LB15 := LB15.ext x
    replace NU2 := NU2.ext x
    clear x
    have TB21 : True := trivial
    have TG79 : True := trivial
    go_wp2_with (first | (clear TB21; refine allocsV rfl rfl ?_; intro B21 w21 bB21 cB21 XB21 LB21 RB21; have z78 := XB21.size; replace E := E.trans XB21; replace NV := NV.ext XB21; replace NU := NU.ext XB21; replace LB16 := LB16.ext XB21; replace LB15 := LB15.ext XB21; replace NU2 := NU2.ext XB21; replace NP := NP.ext XB21) | (clear TG79; have hRl := (RB21).lt (Nat.zero_lt_succ _); refine storesV (B := B21) rfl rfl rfl (v := p) rfl RB21 Fp ?_; clear LB21; intro s79 G79 LB21 RQ; have z80 := G79.size; replace E := grown_ext E G79 (by omega); replace NV := NV.grown G79 (by first | omega | (dsimp only [New]; omega)); replace NU := NU.grown G79 (by first | omega | (dsimp only [New]; omega)); replace LB16 := LB16.grown G79 (by omega); replace LB15 := LB15.grown G79 (by omega); replace NU2 := NU2.grown G79 (by first | omega | (dsimp only [New]; omega)); replace NP := NP.grown G79 (by first | omega | (dsimp only [New]; omega)); clear RB21; have RB21 := RQ; clear RQ hRl; clear RB21) | (refine loadsV (B := B15) (by rfl) rfl rfl LB15 ?_) | (refine loadsV (B := B16) (by rfl) rfl rfl LB16 ?_))
    clear LB16 LB15
    refine (cap v u2 _ _ _ NV.is NU2.is).mono ?_
    rintro e w84 ⟨q, rfl, hq, x⟩
    have NQ := hq.now
    have Fq := NQ.is.flat
    clear hq
    have z81 := x.size
    replace E := E.trans x
    replace NV := NV.ext x
    replace NU := NU.ext x
    replace NU2 := NU2.ext x
    replace NP := NP.ext x
    replace LB21 := LB21.ext x
    clear x
    have TB23 : True := trivial
    have TG83 : True := trivial
    go_wp2_with (first | (clear TB23; refine allocsV rfl rfl ?_; intro B23 w23 bB23 cB23 XB23 LB23 RB23; have z82 := XB23.size; replace E := E.trans XB23; replace NV := NV.ext XB23; replace NU := NU.ext XB23; replace NU2 := NU2.ext XB23; replace NP := NP.ext XB23; replace LB21 := LB21.ext XB23; replace NQ := NQ.ext XB23) | (clear TG83; have hRl := (RB23).lt (Nat.zero_lt_succ _); refine storesV (B := B23) rfl rfl rfl (v := q) rfl RB23 Fq ?_; clear LB23; intro s83 G83 LB23 RQ; have z84 := G83.size; replace E := grown_ext E G83 (by omega); replace NV := NV.grown G83 (by first | omega | (dsimp only [New]; omega)); replace NU := NU.grown G83 (by first | omega | (dsimp only [New]; omega)); replace NU2 := NU2.grown G83 (by first | omega | (dsimp only [New]; omega)); replace NP := NP.grown G83 (by first | omega | (dsimp only [New]; omega)); replace LB21 := LB21.grown G83 (by omega); replace NQ := NQ.grown G83 (by first | omega | (dsimp only [New]; omega)); clear RB23; have RB23 := RQ; clear RQ hRl; clear RB23) | (refine loadsV (B := B21) (by rfl) rfl rfl LB21 ?_))
    clear LB21
    refine (cpk p _ NP.is).mono ?_
    rintro e w89 ⟨s, rfl, hq, x⟩
    have NS := hq _ NP
    have Fs := NS.is.flat
    clear hq
    have z85 := x.size
    replace E := E.trans x
    replace NV := NV.ext x
    replace NU := NU.ext x
    replace NU2 := NU2.ext x
    replace NP := NP.ext x
    replace NQ := NQ.ext x
    replace LB23 := LB23.ext x
    clear x
    have TB25 : True := trivial
    have TG87 : True := trivial
    go_wp2_with (first | (clear TB25; refine allocsB rfl rfl ?_; intro B25 w25 bB25 cB25 XB25 LB25 RB25; have z86 := XB25.size; replace E := E.trans XB25; replace NV := NV.ext XB25; replace NU := NU.ext XB25; replace NU2 := NU2.ext XB25; replace NP := NP.ext XB25; replace NQ := NQ.ext XB25; replace LB23 := LB23.ext XB25; replace NS := NS.ext XB25) | (clear TG87; have hRl := (RB25).lt (Nat.zero_lt_succ _); refine storesB (B := B25) rfl rfl rfl (v := s) rfl RB25 Fs ?_; clear LB25; intro s87 G87 LB25 RQ; have z88 := G87.size; replace E := grown_ext E G87 (by omega); replace NV := NV.grown G87 (by first | omega | (dsimp only [New]; omega)); replace NU := NU.grown G87 (by first | omega | (dsimp only [New]; omega)); replace NU2 := NU2.grown G87 (by first | omega | (dsimp only [New]; omega)); replace NP := NP.grown G87 (by first | omega | (dsimp only [New]; omega)); replace NQ := NQ.grown G87 (by first | omega | (dsimp only [New]; omega)); replace LB23 := LB23.grown G87 (by omega); replace NS := NS.grown G87 (by first | omega | (dsimp only [New]; omega)); clear RB25; have RB25 := RQ; clear RQ hRl; clear RB25) | (refine loadsV (B := B23) (by rfl) rfl rfl LB23 ?_))
    clear LB23
    refine (cpk q _ NQ.is).mono ?_
    rintro e w94 ⟨t, rfl, hq, x⟩
    have NT := hq _ NQ
    have Ft := NT.is.flat
    clear hq
    have z89 := x.size
    replace E := E.trans x
    replace NV := NV.ext x
    replace NU := NU.ext x
    replace NU2 := NU2.ext x
    replace NP := NP.ext x
    replace NQ := NQ.ext x
    replace NS := NS.ext x
    replace LB25 := LB25.ext x
    clear x
    have TB27 : True := trivial
    have TG91 : True := trivial
    go_wp2_with (first | (clear TB27; refine allocsB rfl rfl ?_; intro B27 w27 bB27 cB27 XB27 LB27 RB27; have z90 := XB27.size; replace E := E.trans XB27; replace NV := NV.ext XB27; replace NU := NU.ext XB27; replace NU2 := NU2.ext XB27; replace NP := NP.ext XB27; replace NQ := NQ.ext XB27; replace NS := NS.ext XB27; replace LB25 := LB25.ext XB27; replace NT := NT.ext XB27) | (clear TG91; have hRl := (RB27).lt (Nat.zero_lt_succ _); refine storesB (B := B27) rfl rfl rfl (v := t) rfl RB27 Ft ?_; clear LB27; intro s91 G91 LB27 RQ; have z92 := G91.size; replace E := grown_ext E G91 (by omega); replace NV := NV.grown G91 (by first | omega | (dsimp only [New]; omega)); replace NU := NU.grown G91 (by first | omega | (dsimp only [New]; omega)); replace NU2 := NU2.grown G91 (by first | omega | (dsimp only [New]; omega)); replace NP := NP.grown G91 (by first | omega | (dsimp only [New]; omega)); replace NQ := NQ.grown G91 (by first | omega | (dsimp only [New]; omega)); replace NS := NS.grown G91 (by first | omega | (dsimp only [New]; omega)); replace LB25 := LB25.grown G91 (by omega); replace NT := NT.grown G91 (by first | omega | (dsimp only [New]; omega)); clear RB27; have RB27 := RQ; clear RQ hRl; clear RB27))
    try simp only [Act.put, List.setIfInBounds_toArray, List.set_cons_zero, List.set_cons_succ]
    have hq93 : s91.heap.size ≤ s91.drew.heap.size := Nat.le_refl _
    have z94 := (Ext.refl s91).drew.size
    replace E := E.trans (Ext.refl s91).drew
    replace NV := NV.ext (Ext.refl s91).drew
    replace NU := NU.ext (Ext.refl s91).drew
    replace NU2 := NU2.ext (Ext.refl s91).drew
    replace NP := NP.ext (Ext.refl s91).drew
    replace NQ := NQ.ext (Ext.refl s91).drew
    replace NS := NS.ext (Ext.refl s91).drew
    replace LB25 := LB25.ext (Ext.refl s91).drew
    replace NT := NT.ext (Ext.refl s91).drew
    replace LB27 := LB27.ext (Ext.refl s91).drew
    refine wp_region_held_drew (S := (fun w' => Lay 2 w' B25 s ∧ Lay 2 w' B27 t)) (by kernel_rfl) ⟨LB25, LB27⟩ (fun hHeld => ?_)
    refine wpAnyH_take (i := 0) (oi := { dst := some 97, op := Go.Op.move (Go.Operand.tmp 22), type := 59, pos := "law.go:87", after := #[], guard := none }) (v := ?v95) rfl (by kernel_rfl) (by kernel_rfl) (by kernel_rfl) (fun _ _ _ h => h) (Or.inl ⟨by rfl, ?hy95⟩) hHeld ?rest95
    case hy95 => (intro w hSw; (try dsimp only at hSw); go_simp; (first | done | with_reducible rfl))
    try simp only [Act.put, List.setIfInBounds_toArray, List.set_cons_zero, List.set_cons_succ]
    refine wpAnyH_take (i := 1) (oi := { dst := some 98, op := Go.Op.move (Go.Operand.tmp 24), type := 59, pos := "law.go:87", after := #[], guard := none }) (v := ?v96) rfl (by kernel_rfl) (by kernel_rfl) (by kernel_rfl) (fun _ _ _ h => h) (Or.inl ⟨by rfl, ?hy96⟩) hHeld ?rest96
    case hy96 => (intro w hSw; (try dsimp only at hSw); go_simp; (first | done | with_reducible rfl))
    try simp only [Act.put, List.setIfInBounds_toArray, List.set_cons_zero, List.set_cons_succ]
    refine wpAnyH_take (i := 2) (oi := { dst := some 99, op := Go.Op.binOp Go.BinOp.eql 59 (Go.Operand.tmp 97) (Go.Operand.tmp 98) 59, type := 4, pos := "law.go:87", after := #[{ on := 0, ground := Go.Ground.data }, { on := 1, ground := Go.Ground.data }], guard := none }) (v := ?v97) rfl (by kernel_rfl) (by kernel_rfl) (by kernel_rfl) (fun _ _ _ h => h) (Or.inl ⟨by rfl, ?hy97⟩) hHeld ?rest97
    case hy97 => (intro w hSw; (try dsimp only at hSw); go_simp; (first | done | with_reducible rfl))
    try simp only [Act.put, List.setIfInBounds_toArray, List.set_cons_zero, List.set_cons_succ]
    refine wpAnyH_take (i := 3) (oi := { dst := some 100, op := Go.Op.move (Go.Operand.tmp 99), type := 4, pos := "law.go:87", after := #[{ on := 2, ground := Go.Ground.data }], guard := none }) (v := ?v98) rfl (by kernel_rfl) (by kernel_rfl) (by kernel_rfl) (fun _ _ _ h => h) (Or.inl ⟨by rfl, ?hy98⟩) hHeld ?rest98
    case hy98 => (intro w hSw; (try dsimp only at hSw); go_simp; (first | done | with_reducible rfl))
    try simp only [Act.put, List.setIfInBounds_toArray, List.set_cons_zero, List.set_cons_succ]
    refine wpAnyH_take (i := 4) (oi := { dst := some 101, op := Go.Op.load 28 (Go.Operand.tmp 25), type := 28, pos := "law.go:87", after := #[{ on := 3, ground := Go.Ground.guard }], guard := some (3, true) }) (v := s) rfl (by kernel_rfl) (by kernel_rfl) (by kernel_rfl) (fun _ _ _ h => h) (yieldB (by rfl) rfl rfl fun w' hx => hx.1) hHeld ?_
    try simp only [Act.put, List.setIfInBounds_toArray, List.set_cons_zero, List.set_cons_succ]
    refine wpAnyH_take (i := 6) (oi := { dst := some 103, op := Go.Op.load 28 (Go.Operand.tmp 27), type := 28, pos := "law.go:87", after := #[{ on := 3, ground := Go.Ground.guard }], guard := some (3, true) }) (v := t) rfl (by kernel_rfl) (by kernel_rfl) (by kernel_rfl) (fun _ _ _ h => h) (yieldB (by rfl) rfl rfl fun w' hx => hx.2) hHeld ?_
    try simp only [Act.put, List.setIfInBounds_toArray, List.set_cons_zero, List.set_cons_succ]
    refine wpAnyH_ready (rs := [5]) (by kernel_rfl) (by simp) ?_
    refine AllReadyH.cons (o := { dst := some 102, op := Go.Op.call { callee := Go.Callee.value (Go.Operand.func 40), args := #[Go.Operand.tmp 101], argTypes := #[28] }, type := 62, pos := "law.go:87", after := #[{ on := 4, ground := Go.Ground.data }, { on := 3, ground := Go.Ground.chain }, { on := 3, ground := Go.Ground.guard }], guard := some (3, true) }) rfl (fun K hK => ?_) (AllReadyH.nil)
    go_simp
    refine (cu0 s _ NS.is).mono ?_
    rintro e w102 ⟨R, cR, rfl, hq, x⟩
    have SR := SlS.all hq
    clear hq
    have z101 := x.size
    replace E := E.trans x
    replace NV := NV.ext x
    replace NU := NU.ext x
    replace NU2 := NU2.ext x
    replace NP := NP.ext x
    replace NQ := NQ.ext x
    replace NS := NS.ext x
    replace LB25 := LB25.ext x
    replace NT := NT.ext x
    replace LB27 := LB27.ext x
    clear x
    clear hHeld
    have hHeld := And.intro LB25 (LB27)
    refine hK.out _ _ hHeld (fun _ => ?_)
    clear hK K
    try simp only [Act.put, List.setIfInBounds_toArray, List.set_cons_zero, List.set_cons_succ]
    refine wpAnyH_ready (rs := [7]) (by kernel_rfl) (by simp) ?_
    refine AllReadyH.cons (o := { dst := some 104, op := Go.Op.call { callee := Go.Callee.value (Go.Operand.func 40), args := #[Go.Operand.tmp 103], argTypes := #[28] }, type := 62, pos := "law.go:87", after := #[{ on := 6, ground := Go.Ground.data }, { on := 5, ground := Go.Ground.chain }, { on := 3, ground := Go.Ground.guard }], guard := some (3, true) }) rfl (fun K hK => ?_) (AllReadyH.nil)
    go_simp
    refine (cu0 t _ NT.is).mono ?_
    rintro e w104 ⟨Q, cQ, rfl, hq, x⟩
    have SQ := SlS.all hq
    clear hq
    have z102 := x.size
    replace E := E.trans x
    replace NV := NV.ext x
    replace NU := NU.ext x
    replace NU2 := NU2.ext x
    replace NP := NP.ext x
    replace NQ := NQ.ext x
    replace NS := NS.ext x
    replace LB25 := LB25.ext x
    replace NT := NT.ext x
    replace LB27 := LB27.ext x
    replace SR := SR.ext x
    clear x
    clear hHeld
    have hHeld := And.intro LB25 (LB27)
    refine hK.out _ _ hHeld (fun _ => ?_)
    clear hK K
    try simp only [Act.put, List.setIfInBounds_toArray, List.set_cons_zero, List.set_cons_succ]
    refine wpAnyH_ready (rs := [8]) (by kernel_rfl) (by simp) ?_
    refine AllReadyH.cons (o := { dst := some 105, op := Go.Op.call { callee := Go.Callee.value (Go.Operand.func 39), args := #[Go.Operand.tmp 102, Go.Operand.tmp 104], argTypes := #[62, 62] }, type := 4, pos := "law.go:87", after := #[{ on := 5, ground := Go.Ground.data }, { on := 7, ground := Go.Ground.data }, { on := 7, ground := Go.Ground.chain }, { on := 3, ground := Go.Ground.guard }], guard := some (3, true) }) rfl (fun K hK => ?_) (AllReadyH.nil)
    go_simp
    refine (cb0 R Q cR cQ _ SR.is SQ.is).mono ?_
    rintro e w105 ⟨rfl, x⟩
    have z103 := x.size
    replace E := E.trans x
    replace NV := NV.ext x
    replace NU := NU.ext x
    replace NU2 := NU2.ext x
    replace NP := NP.ext x
    replace NQ := NQ.ext x
    replace NS := NS.ext x
    replace LB25 := LB25.ext x
    replace NT := NT.ext x
    replace LB27 := LB27.ext x
    replace SR := SR.ext x
    replace SQ := SQ.ext x
    clear x
    clear hHeld
    have hHeld := And.intro LB25 (LB27)
    refine hK.out _ _ hHeld (fun _ => ?_)
    clear hK K
    try simp only [Act.put, List.setIfInBounds_toArray, List.set_cons_zero, List.set_cons_succ]
    refine wpAnyH_take (i := 9) (oi := { dst := some 106, op := Go.Op.pick (Go.Operand.tmp 100) (Go.Operand.tmp 105) (Go.Operand.const (Go.Value.bool false)), type := 4, pos := "law.go:87", after := #[{ on := 3, ground := Go.Ground.data }, { on := 8, ground := Go.Ground.data }], guard := none }) (v := ?v104) rfl (by kernel_rfl) (by kernel_rfl) (by kernel_rfl) (fun _ _ _ h => h) (Or.inl ⟨by rfl, ?hy104⟩) hHeld ?rest104
    case hy104 => (intro w hSw; (try dsimp only at hSw); go_simp; (first | done | with_reducible rfl))
    try simp only [Act.put, List.setIfInBounds_toArray, List.set_cons_zero, List.set_cons_succ]
    refine wpAnyH_take (i := 10) (oi := { dst := some 107, op := Go.Op.move (Go.Operand.tmp 106), type := 4, pos := "law.go:87", after := #[{ on := 9, ground := Go.Ground.data }, { on := 8, ground := Go.Ground.chain }], guard := none }) (v := ?v105) rfl (by kernel_rfl) (by kernel_rfl) (by kernel_rfl) (fun _ _ _ h => h) (Or.inl ⟨by rfl, ?hy105⟩) hHeld ?rest105
    case hy105 => (intro w hSw; (try dsimp only at hSw); go_simp; (first | done | with_reducible rfl))
    try simp only [Act.put, List.setIfInBounds_toArray, List.set_cons_zero, List.set_cons_succ]
    refine wpAnyH_ready (rs := [11]) (by kernel_rfl) (by simp) ?_
    refine AllReadyH.cons (o := { dst := some 108, op := Go.Op.call { callee := Go.Callee.value (Go.Operand.func 46), args := #[], argTypes := #[] }, type := 4, pos := "law.go:87", after := #[{ on := 10, ground := Go.Ground.chain }, { on := 10, ground := Go.Ground.guard }], guard := some (10, true) }) rfl (fun K hK => ?_) (AllReadyH.nil)
    go_simp
    refine (rawake_any _).mono ?_
    rintro e w108 ⟨rfl, x⟩
    have z106 := x.size
    replace E := E.trans x
    replace NV := NV.ext x
    replace NU := NU.ext x
    replace NU2 := NU2.ext x
    replace NP := NP.ext x
    replace NQ := NQ.ext x
    replace NS := NS.ext x
    replace LB25 := LB25.ext x
    replace NT := NT.ext x
    replace LB27 := LB27.ext x
    replace SR := SR.ext x
    replace SQ := SQ.ext x
    clear x
    clear hHeld
    have hHeld := And.intro LB25 (LB27)
    refine hK.out _ _ hHeld (fun _ => ?_)
    clear hK K
    try simp only [Act.put, List.setIfInBounds_toArray, List.set_cons_zero, List.set_cons_succ]
    refine wpAnyH_take (i := 12) (oi := { dst := some 109, op := Go.Op.pick (Go.Operand.tmp 107) (Go.Operand.tmp 108) (Go.Operand.const (Go.Value.bool false)), type := 4, pos := "law.go:87", after := #[{ on := 10, ground := Go.Ground.data }, { on := 11, ground := Go.Ground.data }], guard := none }) (v := ?v107) rfl (by kernel_rfl) (by kernel_rfl) (by kernel_rfl) (fun _ _ _ h => h) (Or.inl ⟨by rfl, ?hy107⟩) hHeld ?rest107
    case hy107 => (intro w hSw; (try dsimp only at hSw); go_simp; (first | done | with_reducible rfl))
    try simp only [Act.put, List.setIfInBounds_toArray, List.set_cons_zero, List.set_cons_succ]
    refine wpAnyH_take (i := 13) (oi := { dst := some 10, op := Go.Op.assign (Go.Operand.tmp 109), type := 4, pos := "law.go:87", after := #[{ on := 12, ground := Go.Ground.data }, { on := 11, ground := Go.Ground.chain }, { on := 0, ground := Go.Ground.phase }, { on := 1, ground := Go.Ground.phase }, { on := 2, ground := Go.Ground.phase }, { on := 3, ground := Go.Ground.phase }, { on := 4, ground := Go.Ground.phase }, { on := 5, ground := Go.Ground.phase }, { on := 6, ground := Go.Ground.phase }, { on := 7, ground := Go.Ground.phase }, { on := 8, ground := Go.Ground.phase }, { on := 9, ground := Go.Ground.phase }, { on := 10, ground := Go.Ground.phase }, { on := 11, ground := Go.Ground.phase }, { on := 12, ground := Go.Ground.phase }], guard := none }) (v := ?v108) rfl (by kernel_rfl) (by kernel_rfl) (by kernel_rfl) (fun _ _ _ h => h) (Or.inl ⟨by rfl, ?hy108⟩) hHeld ?rest108
    case hy108 => (intro w hSw; (try dsimp only at hSw); go_simp; (first | done | with_reducible rfl))
    try simp only [Act.put, List.setIfInBounds_toArray, List.set_cons_zero, List.set_cons_succ]
    refine wpAnyH_done (by kernel_rfl) ?_ _
    go_wp2_with fail
    go_ret
    exact ⟨rfl, E⟩
theorem relateStores_10 (hn : n = a.length) (hm : m = b.length) (hwa : ∀ x ∈ a, x < 18446744073709551616) (hwb : ∀ x ∈ b, x < 18446744073709551616) (h3 : n ≤ 300) (h4 : m ≤ 300) (hs : Sl w 1 A n (f64s a)) (hs' : Sl w 1 B m (f64s b)) (hfa : allF a = true) (hfb : allF b = true) (hj : fitsL (dnL a) j = true) (hk : fitsL (dnL b) k = false) : Calls Try.prog 11 #[.int .i64 f, .slice A n c, .slice B m c', .int .i64 j, .int .i64 k] w fun e w' => e = .returned (.bool true) ∧ Ext w w' := by
  have cka := fun w hs => numbers_yes A a n hn hwa hfa c w (by omega) hs
  have ckb := fun w hs => numbers_yes B b m hm hwb hfb c' w (by omega) hs
  have la : n = (dnL a).length := by rw [dnL_length]; exact hn
  have lb : m = (dnL b).length := by rw [dnL_length]; exact hm
  have HS := Lib.hid hs
  have HS' := Lib.hid hs'
  obtain ⟨j', rfl⟩ : ∃ j' : Nat, j = j' := by
    have := of_decide_eq_true hj
    have := leastL_ge (dnL a)
    exact ⟨j.toNat, by omega⟩
  have cij := fun v w h => into_yes v (leastL (dnL a)) (dnL a) j' hj w h
  have cik := fun v w h => into_no v (leastL (dnL b)) (dnL b) k hk w h
  clear hs hs' hn hm hwa hwb hfa hfb hj hk
  generalize dnL a = X at *
  generalize dnL b = Y at *
  generalize leastL X = K1 at *
  generalize leastL Y = K2 at *
  have cap := fun v u K J w hv hu => rapply_num f v u K J X Y (by omega) (by omega) w hv hu
  obtain ⟨m0, hm0⟩ : ∃ m0, m0 = (relLL f X Y).length := ⟨_, rfl⟩
  have hm00 : m0 ≤ 1048576 := by
    rw [hm0]
    by_cases hE : relE f X.length Y.length = 0
    · unfold relLL; rw [if_pos hE, relL_length]
      have : lenV (X.length : Int) (Y.length : Int) ≤ 300 := by unfold lenV; rw [← la, ← lb]; repeat (first | split | omega)
      omega
    · unfold relLL; rw [if_neg hE]; simp
  have cpk : ∀ p w, IsVec w p (relD f X Y) → Calls Try.prog 36 #[p] w fun e w' => ∃ q, e = .returned (.tuple #[q, .bool (relE f X.length Y.length == 0)]) ∧ (∀ S, VecS w p (relD f X Y) S → BitS w' q (relLL f X Y) S) ∧ Ext w w' := fun p w h => by
    have := packed_u p _ (relD_cases f X Y) w h
    unfold PackedU at this
    rwa [relD_kind, relD_bits] at this
  have cu0 := fun p w h => unpack_sl p (relLL f X Y) m0 hm0 w h
  have cb0 := fun P Q c c' w h h' => bools_same P Q (relLL f X Y) m0 m0 c c' hm0 hm0 w hm00 h h'
  clear hm0 hm00 la lb
  generalize relD f X Y = D at *
  generalize relLL f X Y = AL at *
  generalize (relE f X.length Y.length == 0) = eb at *
  generalize relE f X.length Y.length = er at *
  have E := Ext.refl w
  go_enter Try.func11, Try.ntmps11
  go_wp2_with fail
  refine (cka _ (HS.out.ext E)).mono ?_
  rintro e w40 ⟨v, rfl, hq, x⟩
  have NV := hq.now
  have Fv := NV.is.flat
  clear hq
  have z1 := x.size
  replace E := E.trans x
  clear x
  have TB11 : True := trivial
  have TG3 : True := trivial
  go_wp2_with (first | (clear TB11; refine allocsV rfl rfl ?_; intro B11 w11 bB11 cB11 XB11 LB11 RB11; have z2 := XB11.size; replace E := E.trans XB11; replace NV := NV.ext XB11) | (clear TG3; have hRl := (RB11).lt (Nat.zero_lt_succ _); refine storesV (B := B11) rfl rfl rfl (v := v) rfl RB11 Fv ?_; clear LB11; intro s3 G3 LB11 RQ; have z4 := G3.size; replace E := grown_ext E G3 (by omega); replace NV := NV.grown G3 (by first | omega | (dsimp only [New]; omega)); clear RB11; have RB11 := RQ; clear RQ hRl; clear RB11))
  refine (ckb _ (HS'.out.ext E)).mono ?_
  rintro e w45 ⟨u, rfl, hq, x⟩
  have NU := hq.now
  have Fu := NU.is.flat
  clear hq
  have z5 := x.size
  replace E := E.trans x
  replace NV := NV.ext x
  replace LB11 := LB11.ext x
  clear x
  have TB13 : True := trivial
  have TG7 : True := trivial
  go_wp2_with (first | (clear TB13; refine allocsV rfl rfl ?_; intro B13 w13 bB13 cB13 XB13 LB13 RB13; have z6 := XB13.size; replace E := E.trans XB13; replace NV := NV.ext XB13; replace LB11 := LB11.ext XB13; replace NU := NU.ext XB13) | (clear TG7; have hRl := (RB13).lt (Nat.zero_lt_succ _); refine storesV (B := B13) rfl rfl rfl (v := u) rfl RB13 Fu ?_; clear LB13; intro s7 G7 LB13 RQ; have z8 := G7.size; replace E := grown_ext E G7 (by omega); replace NV := NV.grown G7 (by first | omega | (dsimp only [New]; omega)); replace LB11 := LB11.grown G7 (by omega); replace NU := NU.grown G7 (by first | omega | (dsimp only [New]; omega)); clear RB13; have RB13 := RQ; clear RQ hRl; clear RB13))
  try simp only [Act.put, List.setIfInBounds_toArray, List.set_cons_zero, List.set_cons_succ]
  have hq9 : s7.heap.size ≤ s7.drew.heap.size := Nat.le_refl _
  have z10 := (Ext.refl s7).drew.size
  replace E := E.trans (Ext.refl s7).drew
  replace NV := NV.ext (Ext.refl s7).drew
  replace LB11 := LB11.ext (Ext.refl s7).drew
  replace NU := NU.ext (Ext.refl s7).drew
  replace LB13 := LB13.ext (Ext.refl s7).drew
  refine wp_region_held_drew (S := (fun w' => Lay 8 w' B11 v ∧ Lay 8 w' B13 u)) (by kernel_rfl) ⟨LB11, LB13⟩ (fun hHeld => ?_)
  refine wpAnyH_take (i := 0) (oi := { dst := some 55, op := Go.Op.load 34 (Go.Operand.tmp 11), type := 34, pos := "law.go:76", after := #[], guard := none }) (v := v) rfl (by kernel_rfl) (by kernel_rfl) (by kernel_rfl) (fun _ _ _ h => h) (yieldV (by rfl) rfl rfl fun w' hx => hx.1) hHeld ?_
  try simp only [Act.put, List.setIfInBounds_toArray, List.set_cons_zero, List.set_cons_succ]
  refine wpAnyH_take (i := 1) (oi := { dst := some 56, op := Go.Op.load 34 (Go.Operand.tmp 13), type := 34, pos := "law.go:76", after := #[{ on := 4, ground := Go.Ground.gcOnly Go.Departure.lateStores }], guard := none }) (v := u) rfl (by kernel_rfl) (by kernel_rfl) (by kernel_rfl) (fun _ _ _ h => h) (yieldV (by rfl) rfl rfl fun w' hx => hx.2) hHeld ?_
  try simp only [Act.put, List.setIfInBounds_toArray, List.set_cons_zero, List.set_cons_succ]
  refine wpAnyH_ready (rs := [2, 3]) (by kernel_rfl) (by simp) ?_
  refine AllReadyH.cons (o := { dst := some 15, op := Go.Op.alloc 34, type := 0, pos := "law.go:76", after := #[], guard := none }) rfl (fun K hK => ?_) (AllReadyH.cons (o := { dst := some 16, op := Go.Op.alloc 34, type := 0, pos := "law.go:76", after := #[], guard := none }) rfl (fun K hK => ?_) (AllReadyH.nil))
  · rw [if_pos (by rfl)]
    refine allocV rfl ?_
    intro B15 w15 bB15 cB15 XB15 LB15 RB15
    have z13 := XB15.size
    replace E := E.trans XB15
    replace NV := NV.ext XB15
    replace LB11 := LB11.ext XB15
    replace NU := NU.ext XB15
    replace LB13 := LB13.ext XB15
    clear hHeld
    have hHeld := And.intro LB11 (LB13)
    refine hK.out _ _ hHeld (fun _ => ?_)
    clear hK K
    try simp only [Act.put, List.setIfInBounds_toArray, List.set_cons_zero, List.set_cons_succ]
    refine wpAnyH_ready (rs := [3]) (by kernel_rfl) (by simp) ?_
    refine AllReadyH.cons (o := { dst := some 16, op := Go.Op.alloc 34, type := 0, pos := "law.go:76", after := #[], guard := none }) rfl (fun K hK => ?_) (AllReadyH.nil)
    rw [if_pos (by rfl)]
    refine allocV rfl ?_
    intro B16 w16 bB16 cB16 XB16 LB16 RB16
    have z14 := XB16.size
    replace E := E.trans XB16
    replace NV := NV.ext XB16
    replace LB11 := LB11.ext XB16
    replace NU := NU.ext XB16
    replace LB13 := LB13.ext XB16
    replace LB15 := LB15.ext XB16
    replace RB15 := RB15.ext XB16
    clear hHeld
    have hHeld := And.intro LB11 (LB13)
    refine hK.out _ _ hHeld (fun _ => ?_)
    clear hK K
    try simp only [Act.put, List.setIfInBounds_toArray, List.set_cons_zero, List.set_cons_succ]
    refine wpAnyH_ready (rs := [4]) (by kernel_rfl) (by simp) ?_
    refine AllReadyH.cons (o := { dst := none, op := Go.Op.store 34 (Go.Operand.tmp 15) (Go.Operand.tmp 55), type := 0, pos := "law.go:76", after := #[{ on := 2, ground := Go.Ground.data }, { on := 0, ground := Go.Ground.data }, { on := 0, ground := Go.Ground.phase }, { on := 1, ground := Go.Ground.textOnly Go.Departure.lateStores }, { on := 2, ground := Go.Ground.phase }, { on := 3, ground := Go.Ground.phase }], guard := none }) rfl (fun K hK => ?_) (AllReadyH.nil)
    rw [if_pos (by rfl)]
    have hRl := (RB15).lt (Nat.zero_lt_succ _)
    refine storeV (by rfl) (by rfl) (v := v) (by rfl) RB15 Fv ?_
    clear LB15
    intro s15 G15 LB15 RQ
    have z16 := G15.size
    replace E := grown_ext E G15 (by omega)
    replace NV := NV.grown G15 (by first | omega | (dsimp only [New]; omega))
    replace LB11 := LB11.grown G15 (by omega)
    replace NU := NU.grown G15 (by first | omega | (dsimp only [New]; omega))
    replace LB13 := LB13.grown G15 (by omega)
    replace LB16 := LB16.grown G15 (by omega)
    replace RB16 := RB16.grown G15 (by omega)
    clear RB15
    have RB15 := RQ
    clear RQ hRl G15
    clear hHeld
    have hHeld := And.intro LB11 (LB13)
    refine hK.out _ _ hHeld (fun _ => ?_)
    clear hK K
    try simp only [Act.put]
    refine wpAnyH_ready (rs := [5]) (by kernel_rfl) (by simp) ?_
    refine AllReadyH.cons (o := { dst := none, op := Go.Op.store 34 (Go.Operand.tmp 16) (Go.Operand.tmp 56), type := 0, pos := "law.go:76", after := #[{ on := 3, ground := Go.Ground.data }, { on := 1, ground := Go.Ground.data }, { on := 4, ground := Go.Ground.chain }, { on := 0, ground := Go.Ground.phase }, { on := 1, ground := Go.Ground.phase }, { on := 2, ground := Go.Ground.phase }, { on := 3, ground := Go.Ground.phase }, { on := 4, ground := Go.Ground.phase }], guard := none }) rfl (fun K hK => ?_) (AllReadyH.nil)
    rw [if_pos (by rfl)]
    have hRl := (RB16).lt (Nat.zero_lt_succ _)
    refine storeV (by rfl) (by rfl) (v := u) (by rfl) RB16 Fu ?_
    clear LB16
    intro s17 G17 LB16 RQ
    have z18 := G17.size
    replace E := grown_ext E G17 (by omega)
    replace NV := NV.grown G17 (by first | omega | (dsimp only [New]; omega))
    replace LB11 := LB11.grown G17 (by omega)
    replace NU := NU.grown G17 (by first | omega | (dsimp only [New]; omega))
    replace LB13 := LB13.grown G17 (by omega)
    replace LB15 := LB15.grown G17 (by omega)
    replace RB15 := RB15.grown G17 (by omega)
    clear RB16
    have RB16 := RQ
    clear RQ hRl G17
    clear hHeld
    have hHeld := And.intro LB11 (LB13)
    refine hK.out _ _ hHeld (fun _ => ?_)
    clear hK K
    try simp only [Act.put]
    refine wpAnyH_done (by kernel_rfl) ?_ _
    go_wp2_with (refine loadsV (B := B11) (by rfl) rfl rfl LB11 ?_)
    clear RB16
    refine (cij v _ NV.is).mono ?_
    rintro e w60 ⟨v2, rfl, hq, x⟩
    have NV2 := (hq _ NV).now
    have Fv2 := NV2.is.flat
    clear hq
    have z19 := x.size
    replace E := E.trans x
    replace NV := NV.ext x
    replace LB11 := LB11.ext x
    replace NU := NU.ext x
    replace LB13 := LB13.ext x
    replace LB15 := LB15.ext x
    replace RB15 := RB15.ext x
    replace LB16 := LB16.ext x
    clear x
    have TB17 : True := trivial
    have TG21 : True := trivial
    have TG23 : True := trivial
    go_wp2_with (first | (clear TB17; refine allocsV rfl rfl ?_; intro B17 w17 bB17 cB17 XB17 LB17 RB17; have z20 := XB17.size; replace E := E.trans XB17; replace NV := NV.ext XB17; replace LB11 := LB11.ext XB17; replace NU := NU.ext XB17; replace LB13 := LB13.ext XB17; replace LB15 := LB15.ext XB17; replace RB15 := RB15.ext XB17; replace LB16 := LB16.ext XB17; replace NV2 := NV2.ext XB17) | (clear TG21; have hRl := (RB17).lt (Nat.zero_lt_succ _); refine storesV (B := B17) rfl rfl rfl (v := v2) rfl RB17 Fv2 ?_; clear LB17; intro s21 G21 LB17 RQ; have z22 := G21.size; replace E := grown_ext E G21 (by omega); replace NV := NV.grown G21 (by first | omega | (dsimp only [New]; omega)); replace LB11 := LB11.grown G21 (by omega); replace NU := NU.grown G21 (by first | omega | (dsimp only [New]; omega)); replace LB13 := LB13.grown G21 (by omega); replace LB15 := LB15.grown G21 (by omega); replace RB15 := RB15.grown G21 (by omega); replace LB16 := LB16.grown G21 (by omega); replace NV2 := NV2.grown G21 (by first | omega | (dsimp only [New]; omega)); clear RB17; have RB17 := RQ; clear RQ hRl; clear RB17) | (refine loadsV (B := B17) (by rfl) rfl rfl LB17 ?_) | (clear TG23; have hRl := (RB15).lt (Nat.zero_lt_succ _); refine storesV (B := B15) rfl rfl rfl (v := v2) rfl RB15 Fv2 ?_; clear LB15; intro s23 G23 LB15 RQ; have z24 := G23.size; replace E := grown_ext E G23 (by omega); replace NV := NV.grown G23 (by first | omega | (dsimp only [New]; omega)); replace LB11 := LB11.grown G23 (by omega); replace NU := NU.grown G23 (by first | omega | (dsimp only [New]; omega)); replace LB13 := LB13.grown G23 (by omega); replace LB16 := LB16.grown G23 (by omega); replace NV2 := NV2.grown G23 (by first | omega | (dsimp only [New]; omega)); replace LB17 := LB17.grown G23 (by omega); clear RB15; have RB15 := RQ; clear RQ hRl; clear RB15) | (refine loadsV (B := B13) (by rfl) rfl rfl LB13 ?_))
    clear LB17
    refine (cik u _ NU.is).mono ?_
    rintro e w68 ⟨rfl, x⟩
    have z25 := x.size
    replace E := E.trans x
    replace NV := NV.ext x
    replace LB11 := LB11.ext x
    replace NU := NU.ext x
    replace LB13 := LB13.ext x
    replace LB15 := LB15.ext x
    replace LB16 := LB16.ext x
    replace NV2 := NV2.ext x
    clear x
    have TB19 : True := trivial
    have TG27 : True := trivial
    go_wp2_with (first | (clear TB19; refine allocsV rfl rfl ?_; intro B19 w19 bB19 cB19 XB19 LB19 RB19; have z26 := XB19.size; replace E := E.trans XB19; replace NV := NV.ext XB19; replace LB11 := LB11.ext XB19; replace NU := NU.ext XB19; replace LB13 := LB13.ext XB19; replace LB15 := LB15.ext XB19; replace LB16 := LB16.ext XB19; replace NV2 := NV2.ext XB19; clear LB19) | (clear TG27; have hRl := (RB19).lt (Nat.zero_lt_succ _); refine storesV (B := B19) rfl rfl rfl (v := zeroVec) rfl RB19 zeroVec_flat ?_; intro s27 G27 LB19 RQ; have z28 := G27.size; replace E := grown_ext E G27 (by omega); replace NV := NV.grown G27 (by first | omega | (dsimp only [New]; omega)); replace LB11 := LB11.grown G27 (by omega); replace NU := NU.grown G27 (by first | omega | (dsimp only [New]; omega)); replace LB13 := LB13.grown G27 (by omega); replace LB15 := LB15.grown G27 (by omega); replace LB16 := LB16.grown G27 (by omega); replace NV2 := NV2.grown G27 (by first | omega | (dsimp only [New]; omega)); clear RB19; have RB19 := RQ; clear RQ hRl; clear LB19 RB19) | (refine loadsV (B := B11) (by rfl) rfl rfl LB11 ?_) | (refine loadsV (B := B13) (by rfl) rfl rfl LB13 ?_))
    clear LB11 LB13
    refine (cap v u _ _ _ NV.is NU.is).mono ?_
    rintro e w77 ⟨p, rfl, hq, x⟩
    have NP := hq.now
    have Fp := NP.is.flat
    clear hq
    have z29 := x.size
    replace E := E.trans x
    replace NV := NV.ext x
    replace NU := NU.ext x
    replace LB15 := LB15.ext x
    replace LB16 := LB16.ext x
    replace NV2 := NV2.ext x
    clear x
    have TB21 : True := trivial
    have TG31 : True := trivial
    go_wp2_with (first | (clear TB21; refine allocsV rfl rfl ?_; intro B21 w21 bB21 cB21 XB21 LB21 RB21; have z30 := XB21.size; replace E := E.trans XB21; replace NV := NV.ext XB21; replace NU := NU.ext XB21; replace LB15 := LB15.ext XB21; replace LB16 := LB16.ext XB21; replace NV2 := NV2.ext XB21; replace NP := NP.ext XB21) | (clear TG31; have hRl := (RB21).lt (Nat.zero_lt_succ _); refine storesV (B := B21) rfl rfl rfl (v := p) rfl RB21 Fp ?_; clear LB21; intro s31 G31 LB21 RQ; have z32 := G31.size; replace E := grown_ext E G31 (by omega); replace NV := NV.grown G31 (by first | omega | (dsimp only [New]; omega)); replace NU := NU.grown G31 (by first | omega | (dsimp only [New]; omega)); replace LB15 := LB15.grown G31 (by omega); replace LB16 := LB16.grown G31 (by omega); replace NV2 := NV2.grown G31 (by first | omega | (dsimp only [New]; omega)); replace NP := NP.grown G31 (by first | omega | (dsimp only [New]; omega)); clear RB21; have RB21 := RQ; clear RQ hRl; clear RB21) | (refine loadsV (B := B15) (by rfl) rfl rfl LB15 ?_) | (refine loadsV (B := B16) (by rfl) rfl rfl LB16 ?_))
    clear LB15 LB16
    refine (cap v2 u _ _ _ NV2.is NU.is).mono ?_
    rintro e w84 ⟨q, rfl, hq, x⟩
    have NQ := hq.now
    have Fq := NQ.is.flat
    clear hq
    have z33 := x.size
    replace E := E.trans x
    replace NV := NV.ext x
    replace NU := NU.ext x
    replace NV2 := NV2.ext x
    replace NP := NP.ext x
    replace LB21 := LB21.ext x
    clear x
    have TB23 : True := trivial
    have TG35 : True := trivial
    go_wp2_with (first | (clear TB23; refine allocsV rfl rfl ?_; intro B23 w23 bB23 cB23 XB23 LB23 RB23; have z34 := XB23.size; replace E := E.trans XB23; replace NV := NV.ext XB23; replace NU := NU.ext XB23; replace NV2 := NV2.ext XB23; replace NP := NP.ext XB23; replace LB21 := LB21.ext XB23; replace NQ := NQ.ext XB23) | (clear TG35; have hRl := (RB23).lt (Nat.zero_lt_succ _); refine storesV (B := B23) rfl rfl rfl (v := q) rfl RB23 Fq ?_; clear LB23; intro s35 G35 LB23 RQ; have z36 := G35.size; replace E := grown_ext E G35 (by omega); replace NV := NV.grown G35 (by first | omega | (dsimp only [New]; omega)); replace NU := NU.grown G35 (by first | omega | (dsimp only [New]; omega)); replace NV2 := NV2.grown G35 (by first | omega | (dsimp only [New]; omega)); replace NP := NP.grown G35 (by first | omega | (dsimp only [New]; omega)); replace LB21 := LB21.grown G35 (by omega); replace NQ := NQ.grown G35 (by first | omega | (dsimp only [New]; omega)); clear RB23; have RB23 := RQ; clear RQ hRl; clear RB23) | (refine loadsV (B := B21) (by rfl) rfl rfl LB21 ?_))
    clear LB21
    refine (cpk p _ NP.is).mono ?_
    rintro e w89 ⟨s, rfl, hq, x⟩
    have NS := hq _ NP
    have Fs := NS.is.flat
    clear hq
    have z37 := x.size
    replace E := E.trans x
    replace NV := NV.ext x
    replace NU := NU.ext x
    replace NV2 := NV2.ext x
    replace NP := NP.ext x
    replace NQ := NQ.ext x
    replace LB23 := LB23.ext x
    clear x
    have TB25 : True := trivial
    have TG39 : True := trivial
    go_wp2_with (first | (clear TB25; refine allocsB rfl rfl ?_; intro B25 w25 bB25 cB25 XB25 LB25 RB25; have z38 := XB25.size; replace E := E.trans XB25; replace NV := NV.ext XB25; replace NU := NU.ext XB25; replace NV2 := NV2.ext XB25; replace NP := NP.ext XB25; replace NQ := NQ.ext XB25; replace LB23 := LB23.ext XB25; replace NS := NS.ext XB25) | (clear TG39; have hRl := (RB25).lt (Nat.zero_lt_succ _); refine storesB (B := B25) rfl rfl rfl (v := s) rfl RB25 Fs ?_; clear LB25; intro s39 G39 LB25 RQ; have z40 := G39.size; replace E := grown_ext E G39 (by omega); replace NV := NV.grown G39 (by first | omega | (dsimp only [New]; omega)); replace NU := NU.grown G39 (by first | omega | (dsimp only [New]; omega)); replace NV2 := NV2.grown G39 (by first | omega | (dsimp only [New]; omega)); replace NP := NP.grown G39 (by first | omega | (dsimp only [New]; omega)); replace NQ := NQ.grown G39 (by first | omega | (dsimp only [New]; omega)); replace LB23 := LB23.grown G39 (by omega); replace NS := NS.grown G39 (by first | omega | (dsimp only [New]; omega)); clear RB25; have RB25 := RQ; clear RQ hRl; clear RB25) | (refine loadsV (B := B23) (by rfl) rfl rfl LB23 ?_))
    clear LB23
    refine (cpk q _ NQ.is).mono ?_
    rintro e w94 ⟨t, rfl, hq, x⟩
    have NT := hq _ NQ
    have Ft := NT.is.flat
    clear hq
    have z41 := x.size
    replace E := E.trans x
    replace NV := NV.ext x
    replace NU := NU.ext x
    replace NV2 := NV2.ext x
    replace NP := NP.ext x
    replace NQ := NQ.ext x
    replace NS := NS.ext x
    replace LB25 := LB25.ext x
    clear x
    have TB27 : True := trivial
    have TG43 : True := trivial
    go_wp2_with (first | (clear TB27; refine allocsB rfl rfl ?_; intro B27 w27 bB27 cB27 XB27 LB27 RB27; have z42 := XB27.size; replace E := E.trans XB27; replace NV := NV.ext XB27; replace NU := NU.ext XB27; replace NV2 := NV2.ext XB27; replace NP := NP.ext XB27; replace NQ := NQ.ext XB27; replace NS := NS.ext XB27; replace LB25 := LB25.ext XB27; replace NT := NT.ext XB27) | (clear TG43; have hRl := (RB27).lt (Nat.zero_lt_succ _); refine storesB (B := B27) rfl rfl rfl (v := t) rfl RB27 Ft ?_; clear LB27; intro s43 G43 LB27 RQ; have z44 := G43.size; replace E := grown_ext E G43 (by omega); replace NV := NV.grown G43 (by first | omega | (dsimp only [New]; omega)); replace NU := NU.grown G43 (by first | omega | (dsimp only [New]; omega)); replace NV2 := NV2.grown G43 (by first | omega | (dsimp only [New]; omega)); replace NP := NP.grown G43 (by first | omega | (dsimp only [New]; omega)); replace NQ := NQ.grown G43 (by first | omega | (dsimp only [New]; omega)); replace NS := NS.grown G43 (by first | omega | (dsimp only [New]; omega)); replace LB25 := LB25.grown G43 (by omega); replace NT := NT.grown G43 (by first | omega | (dsimp only [New]; omega)); clear RB27; have RB27 := RQ; clear RQ hRl; clear RB27))
    try simp only [Act.put, List.setIfInBounds_toArray, List.set_cons_zero, List.set_cons_succ]
    have hq45 : s43.heap.size ≤ s43.drew.heap.size := Nat.le_refl _
    have z46 := (Ext.refl s43).drew.size
    replace E := E.trans (Ext.refl s43).drew
    replace NV := NV.ext (Ext.refl s43).drew
    replace NU := NU.ext (Ext.refl s43).drew
    replace NV2 := NV2.ext (Ext.refl s43).drew
    replace NP := NP.ext (Ext.refl s43).drew
    replace NQ := NQ.ext (Ext.refl s43).drew
    replace NS := NS.ext (Ext.refl s43).drew
    replace LB25 := LB25.ext (Ext.refl s43).drew
    replace NT := NT.ext (Ext.refl s43).drew
    replace LB27 := LB27.ext (Ext.refl s43).drew
    refine wp_region_held_drew (S := (fun w' => Lay 2 w' B25 s ∧ Lay 2 w' B27 t)) (by kernel_rfl) ⟨LB25, LB27⟩ (fun hHeld => ?_)
    refine wpAnyH_take (i := 0) (oi := { dst := some 97, op := Go.Op.move (Go.Operand.tmp 22), type := 59, pos := "law.go:87", after := #[], guard := none }) (v := ?v47) rfl (by kernel_rfl) (by kernel_rfl) (by kernel_rfl) (fun _ _ _ h => h) (Or.inl ⟨by rfl, ?hy47⟩) hHeld ?rest47
    case hy47 => (intro w hSw; (try dsimp only at hSw); go_simp; (first | done | with_reducible rfl))
    try simp only [Act.put, List.setIfInBounds_toArray, List.set_cons_zero, List.set_cons_succ]
    refine wpAnyH_take (i := 1) (oi := { dst := some 98, op := Go.Op.move (Go.Operand.tmp 24), type := 59, pos := "law.go:87", after := #[], guard := none }) (v := ?v48) rfl (by kernel_rfl) (by kernel_rfl) (by kernel_rfl) (fun _ _ _ h => h) (Or.inl ⟨by rfl, ?hy48⟩) hHeld ?rest48
    case hy48 => (intro w hSw; (try dsimp only at hSw); go_simp; (first | done | with_reducible rfl))
    try simp only [Act.put, List.setIfInBounds_toArray, List.set_cons_zero, List.set_cons_succ]
    refine wpAnyH_take (i := 2) (oi := { dst := some 99, op := Go.Op.binOp Go.BinOp.eql 59 (Go.Operand.tmp 97) (Go.Operand.tmp 98) 59, type := 4, pos := "law.go:87", after := #[{ on := 0, ground := Go.Ground.data }, { on := 1, ground := Go.Ground.data }], guard := none }) (v := ?v49) rfl (by kernel_rfl) (by kernel_rfl) (by kernel_rfl) (fun _ _ _ h => h) (Or.inl ⟨by rfl, ?hy49⟩) hHeld ?rest49
    case hy49 => (intro w hSw; (try dsimp only at hSw); go_simp; (first | done | with_reducible rfl))
    try simp only [Act.put, List.setIfInBounds_toArray, List.set_cons_zero, List.set_cons_succ]
    refine wpAnyH_take (i := 3) (oi := { dst := some 100, op := Go.Op.move (Go.Operand.tmp 99), type := 4, pos := "law.go:87", after := #[{ on := 2, ground := Go.Ground.data }], guard := none }) (v := ?v50) rfl (by kernel_rfl) (by kernel_rfl) (by kernel_rfl) (fun _ _ _ h => h) (Or.inl ⟨by rfl, ?hy50⟩) hHeld ?rest50
    case hy50 => (intro w hSw; (try dsimp only at hSw); go_simp; (first | done | with_reducible rfl))
    try simp only [Act.put, List.setIfInBounds_toArray, List.set_cons_zero, List.set_cons_succ]
    refine wpAnyH_take (i := 4) (oi := { dst := some 101, op := Go.Op.load 28 (Go.Operand.tmp 25), type := 28, pos := "law.go:87", after := #[{ on := 3, ground := Go.Ground.guard }], guard := some (3, true) }) (v := s) rfl (by kernel_rfl) (by kernel_rfl) (by kernel_rfl) (fun _ _ _ h => h) (yieldB (by rfl) rfl rfl fun w' hx => hx.1) hHeld ?_
    try simp only [Act.put, List.setIfInBounds_toArray, List.set_cons_zero, List.set_cons_succ]
    refine wpAnyH_take (i := 6) (oi := { dst := some 103, op := Go.Op.load 28 (Go.Operand.tmp 27), type := 28, pos := "law.go:87", after := #[{ on := 3, ground := Go.Ground.guard }], guard := some (3, true) }) (v := t) rfl (by kernel_rfl) (by kernel_rfl) (by kernel_rfl) (fun _ _ _ h => h) (yieldB (by rfl) rfl rfl fun w' hx => hx.2) hHeld ?_
    try simp only [Act.put, List.setIfInBounds_toArray, List.set_cons_zero, List.set_cons_succ]
    refine wpAnyH_ready (rs := [5]) (by kernel_rfl) (by simp) ?_
    refine AllReadyH.cons (o := { dst := some 102, op := Go.Op.call { callee := Go.Callee.value (Go.Operand.func 40), args := #[Go.Operand.tmp 101], argTypes := #[28] }, type := 62, pos := "law.go:87", after := #[{ on := 4, ground := Go.Ground.data }, { on := 3, ground := Go.Ground.chain }, { on := 3, ground := Go.Ground.guard }], guard := some (3, true) }) rfl (fun K hK => ?_) (AllReadyH.nil)
    go_simp
    refine (cu0 s _ NS.is).mono ?_
    rintro e w102 ⟨R, cR, rfl, hq, x⟩
    have SR := SlS.all hq
    clear hq
    have z53 := x.size
    replace E := E.trans x
    replace NV := NV.ext x
    replace NU := NU.ext x
    replace NV2 := NV2.ext x
    replace NP := NP.ext x
    replace NQ := NQ.ext x
    replace NS := NS.ext x
    replace LB25 := LB25.ext x
    replace NT := NT.ext x
    replace LB27 := LB27.ext x
    clear x
    clear hHeld
    have hHeld := And.intro LB25 (LB27)
    refine hK.out _ _ hHeld (fun _ => ?_)
    clear hK K
    try simp only [Act.put, List.setIfInBounds_toArray, List.set_cons_zero, List.set_cons_succ]
    refine wpAnyH_ready (rs := [7]) (by kernel_rfl) (by simp) ?_
    refine AllReadyH.cons (o := { dst := some 104, op := Go.Op.call { callee := Go.Callee.value (Go.Operand.func 40), args := #[Go.Operand.tmp 103], argTypes := #[28] }, type := 62, pos := "law.go:87", after := #[{ on := 6, ground := Go.Ground.data }, { on := 5, ground := Go.Ground.chain }, { on := 3, ground := Go.Ground.guard }], guard := some (3, true) }) rfl (fun K hK => ?_) (AllReadyH.nil)
    go_simp
    refine (cu0 t _ NT.is).mono ?_
    rintro e w104 ⟨Q, cQ, rfl, hq, x⟩
    have SQ := SlS.all hq
    clear hq
    have z54 := x.size
    replace E := E.trans x
    replace NV := NV.ext x
    replace NU := NU.ext x
    replace NV2 := NV2.ext x
    replace NP := NP.ext x
    replace NQ := NQ.ext x
    replace NS := NS.ext x
    replace LB25 := LB25.ext x
    replace NT := NT.ext x
    replace LB27 := LB27.ext x
    replace SR := SR.ext x
    clear x
    clear hHeld
    have hHeld := And.intro LB25 (LB27)
    refine hK.out _ _ hHeld (fun _ => ?_)
    clear hK K
    try simp only [Act.put, List.setIfInBounds_toArray, List.set_cons_zero, List.set_cons_succ]
    refine wpAnyH_ready (rs := [8]) (by kernel_rfl) (by simp) ?_
    refine AllReadyH.cons (o := { dst := some 105, op := Go.Op.call { callee := Go.Callee.value (Go.Operand.func 39), args := #[Go.Operand.tmp 102, Go.Operand.tmp 104], argTypes := #[62, 62] }, type := 4, pos := "law.go:87", after := #[{ on := 5, ground := Go.Ground.data }, { on := 7, ground := Go.Ground.data }, { on := 7, ground := Go.Ground.chain }, { on := 3, ground := Go.Ground.guard }], guard := some (3, true) }) rfl (fun K hK => ?_) (AllReadyH.nil)
    go_simp
    refine (cb0 R Q cR cQ _ SR.is SQ.is).mono ?_
    rintro e w105 ⟨rfl, x⟩
    have z55 := x.size
    replace E := E.trans x
    replace NV := NV.ext x
    replace NU := NU.ext x
    replace NV2 := NV2.ext x
    replace NP := NP.ext x
    replace NQ := NQ.ext x
    replace NS := NS.ext x
    replace LB25 := LB25.ext x
    replace NT := NT.ext x
    replace LB27 := LB27.ext x
    replace SR := SR.ext x
    replace SQ := SQ.ext x
    clear x
    clear hHeld
    have hHeld := And.intro LB25 (LB27)
    refine hK.out _ _ hHeld (fun _ => ?_)
    clear hK K
    try simp only [Act.put, List.setIfInBounds_toArray, List.set_cons_zero, List.set_cons_succ]
    refine wpAnyH_take (i := 9) (oi := { dst := some 106, op := Go.Op.pick (Go.Operand.tmp 100) (Go.Operand.tmp 105) (Go.Operand.const (Go.Value.bool false)), type := 4, pos := "law.go:87", after := #[{ on := 3, ground := Go.Ground.data }, { on := 8, ground := Go.Ground.data }], guard := none }) (v := ?v56) rfl (by kernel_rfl) (by kernel_rfl) (by kernel_rfl) (fun _ _ _ h => h) (Or.inl ⟨by rfl, ?hy56⟩) hHeld ?rest56
    case hy56 => (intro w hSw; (try dsimp only at hSw); go_simp; (first | done | with_reducible rfl))
    try simp only [Act.put, List.setIfInBounds_toArray, List.set_cons_zero, List.set_cons_succ]
    refine wpAnyH_take (i := 10) (oi := { dst := some 107, op := Go.Op.move (Go.Operand.tmp 106), type := 4, pos := "law.go:87", after := #[{ on := 9, ground := Go.Ground.data }, { on := 8, ground := Go.Ground.chain }], guard := none }) (v := ?v57) rfl (by kernel_rfl) (by kernel_rfl) (by kernel_rfl) (fun _ _ _ h => h) (Or.inl ⟨by rfl, ?hy57⟩) hHeld ?rest57
    case hy57 => (intro w hSw; (try dsimp only at hSw); go_simp; (first | done | with_reducible rfl))
    try simp only [Act.put, List.setIfInBounds_toArray, List.set_cons_zero, List.set_cons_succ]
    refine wpAnyH_ready (rs := [11]) (by kernel_rfl) (by simp) ?_
    refine AllReadyH.cons (o := { dst := some 108, op := Go.Op.call { callee := Go.Callee.value (Go.Operand.func 46), args := #[], argTypes := #[] }, type := 4, pos := "law.go:87", after := #[{ on := 10, ground := Go.Ground.chain }, { on := 10, ground := Go.Ground.guard }], guard := some (10, true) }) rfl (fun K hK => ?_) (AllReadyH.nil)
    go_simp
    refine (rawake_any _).mono ?_
    rintro e w108 ⟨rfl, x⟩
    have z58 := x.size
    replace E := E.trans x
    replace NV := NV.ext x
    replace NU := NU.ext x
    replace NV2 := NV2.ext x
    replace NP := NP.ext x
    replace NQ := NQ.ext x
    replace NS := NS.ext x
    replace LB25 := LB25.ext x
    replace NT := NT.ext x
    replace LB27 := LB27.ext x
    replace SR := SR.ext x
    replace SQ := SQ.ext x
    clear x
    clear hHeld
    have hHeld := And.intro LB25 (LB27)
    refine hK.out _ _ hHeld (fun _ => ?_)
    clear hK K
    try simp only [Act.put, List.setIfInBounds_toArray, List.set_cons_zero, List.set_cons_succ]
    refine wpAnyH_take (i := 12) (oi := { dst := some 109, op := Go.Op.pick (Go.Operand.tmp 107) (Go.Operand.tmp 108) (Go.Operand.const (Go.Value.bool false)), type := 4, pos := "law.go:87", after := #[{ on := 10, ground := Go.Ground.data }, { on := 11, ground := Go.Ground.data }], guard := none }) (v := ?v59) rfl (by kernel_rfl) (by kernel_rfl) (by kernel_rfl) (fun _ _ _ h => h) (Or.inl ⟨by rfl, ?hy59⟩) hHeld ?rest59
    case hy59 => (intro w hSw; (try dsimp only at hSw); go_simp; (first | done | with_reducible rfl))
    try simp only [Act.put, List.setIfInBounds_toArray, List.set_cons_zero, List.set_cons_succ]
    refine wpAnyH_take (i := 13) (oi := { dst := some 10, op := Go.Op.assign (Go.Operand.tmp 109), type := 4, pos := "law.go:87", after := #[{ on := 12, ground := Go.Ground.data }, { on := 11, ground := Go.Ground.chain }, { on := 0, ground := Go.Ground.phase }, { on := 1, ground := Go.Ground.phase }, { on := 2, ground := Go.Ground.phase }, { on := 3, ground := Go.Ground.phase }, { on := 4, ground := Go.Ground.phase }, { on := 5, ground := Go.Ground.phase }, { on := 6, ground := Go.Ground.phase }, { on := 7, ground := Go.Ground.phase }, { on := 8, ground := Go.Ground.phase }, { on := 9, ground := Go.Ground.phase }, { on := 10, ground := Go.Ground.phase }, { on := 11, ground := Go.Ground.phase }, { on := 12, ground := Go.Ground.phase }], guard := none }) (v := ?v60) rfl (by kernel_rfl) (by kernel_rfl) (by kernel_rfl) (fun _ _ _ h => h) (Or.inl ⟨by rfl, ?hy60⟩) hHeld ?rest60
    case hy60 => (intro w hSw; (try dsimp only at hSw); go_simp; (first | done | with_reducible rfl))
    try simp only [Act.put, List.setIfInBounds_toArray, List.set_cons_zero, List.set_cons_succ]
    refine wpAnyH_done (by kernel_rfl) ?_ _
    go_wp2_with fail
    go_ret
    exact ⟨rfl, E⟩
  · rw [if_pos (by rfl)]
    refine allocV rfl ?_
    intro B16 w16 bB16 cB16 XB16 LB16 RB16
    have z61 := XB16.size
    replace E := E.trans XB16
    replace NV := NV.ext XB16
    replace LB11 := LB11.ext XB16
    replace NU := NU.ext XB16
    replace LB13 := LB13.ext XB16
    clear hHeld
    have hHeld := And.intro LB11 (LB13)
    refine hK.out _ _ hHeld (fun _ => ?_)
    clear hK K
    try simp only [Act.put, List.setIfInBounds_toArray, List.set_cons_zero, List.set_cons_succ]
    refine wpAnyH_ready (rs := [2]) (by kernel_rfl) (by simp) ?_
    refine AllReadyH.cons (o := { dst := some 15, op := Go.Op.alloc 34, type := 0, pos := "law.go:76", after := #[], guard := none }) rfl (fun K hK => ?_) (AllReadyH.nil)
    rw [if_pos (by rfl)]
    refine allocV rfl ?_
    intro B15 w15 bB15 cB15 XB15 LB15 RB15
    have z62 := XB15.size
    replace E := E.trans XB15
    replace NV := NV.ext XB15
    replace LB11 := LB11.ext XB15
    replace NU := NU.ext XB15
    replace LB13 := LB13.ext XB15
    replace LB16 := LB16.ext XB15
    replace RB16 := RB16.ext XB15
    clear hHeld
    have hHeld := And.intro LB11 (LB13)
    refine hK.out _ _ hHeld (fun _ => ?_)
    clear hK K
    try simp only [Act.put, List.setIfInBounds_toArray, List.set_cons_zero, List.set_cons_succ]
    refine wpAnyH_ready (rs := [4]) (by kernel_rfl) (by simp) ?_
    refine AllReadyH.cons (o := { dst := none, op := Go.Op.store 34 (Go.Operand.tmp 15) (Go.Operand.tmp 55), type := 0, pos := "law.go:76", after := #[{ on := 2, ground := Go.Ground.data }, { on := 0, ground := Go.Ground.data }, { on := 0, ground := Go.Ground.phase }, { on := 1, ground := Go.Ground.textOnly Go.Departure.lateStores }, { on := 2, ground := Go.Ground.phase }, { on := 3, ground := Go.Ground.phase }], guard := none }) rfl (fun K hK => ?_) (AllReadyH.nil)
    rw [if_pos (by rfl)]
    have hRl := (RB15).lt (Nat.zero_lt_succ _)
    refine storeV (by rfl) (by rfl) (v := v) (by rfl) RB15 Fv ?_
    clear LB15
    intro s63 G63 LB15 RQ
    have z64 := G63.size
    replace E := grown_ext E G63 (by omega)
    replace NV := NV.grown G63 (by first | omega | (dsimp only [New]; omega))
    replace LB11 := LB11.grown G63 (by omega)
    replace NU := NU.grown G63 (by first | omega | (dsimp only [New]; omega))
    replace LB13 := LB13.grown G63 (by omega)
    replace LB16 := LB16.grown G63 (by omega)
    replace RB16 := RB16.grown G63 (by omega)
    clear RB15
    have RB15 := RQ
    clear RQ hRl G63
    clear hHeld
    have hHeld := And.intro LB11 (LB13)
    refine hK.out _ _ hHeld (fun _ => ?_)
    clear hK K
    try simp only [Act.put]
    refine wpAnyH_ready (rs := [5]) (by kernel_rfl) (by simp) ?_
    refine AllReadyH.cons (o := { dst := none, op := Go.Op.store 34 (Go.Operand.tmp 16) (Go.Operand.tmp 56), type := 0, pos := "law.go:76", after := #[{ on := 3, ground := Go.Ground.data }, { on := 1, ground := Go.Ground.data }, { on := 4, ground := Go.Ground.chain }, { on := 0, ground := Go.Ground.phase }, { on := 1, ground := Go.Ground.phase }, { on := 2, ground := Go.Ground.phase }, { on := 3, ground := Go.Ground.phase }, { on := 4, ground := Go.Ground.phase }], guard := none }) rfl (fun K hK => ?_) (AllReadyH.nil)
    rw [if_pos (by rfl)]
    have hRl := (RB16).lt (Nat.zero_lt_succ _)
    refine storeV (by rfl) (by rfl) (v := u) (by rfl) RB16 Fu ?_
    clear LB16
    intro s65 G65 LB16 RQ
    have z66 := G65.size
    replace E := grown_ext E G65 (by omega)
    replace NV := NV.grown G65 (by first | omega | (dsimp only [New]; omega))
    replace LB11 := LB11.grown G65 (by omega)
    replace NU := NU.grown G65 (by first | omega | (dsimp only [New]; omega))
    replace LB13 := LB13.grown G65 (by omega)
    replace LB15 := LB15.grown G65 (by omega)
    replace RB15 := RB15.grown G65 (by omega)
    clear RB16
    have RB16 := RQ
    clear RQ hRl G65
    clear hHeld
    have hHeld := And.intro LB11 (LB13)
    refine hK.out _ _ hHeld (fun _ => ?_)
    clear hK K
    try simp only [Act.put]
    refine wpAnyH_done (by kernel_rfl) ?_ _
    go_wp2_with (refine loadsV (B := B11) (by rfl) rfl rfl LB11 ?_)
    clear RB16
    refine (cij v _ NV.is).mono ?_
    rintro e w60 ⟨v2, rfl, hq, x⟩
    have NV2 := (hq _ NV).now
    have Fv2 := NV2.is.flat
    clear hq
    have z67 := x.size
    replace E := E.trans x
    replace NV := NV.ext x
    replace LB11 := LB11.ext x
    replace NU := NU.ext x
    replace LB13 := LB13.ext x
    replace LB16 := LB16.ext x
    replace LB15 := LB15.ext x
    replace RB15 := RB15.ext x
    clear x
    have TB17 : True := trivial
    have TG69 : True := trivial
    have TG71 : True := trivial
    go_wp2_with (first | (clear TB17; refine allocsV rfl rfl ?_; intro B17 w17 bB17 cB17 XB17 LB17 RB17; have z68 := XB17.size; replace E := E.trans XB17; replace NV := NV.ext XB17; replace LB11 := LB11.ext XB17; replace NU := NU.ext XB17; replace LB13 := LB13.ext XB17; replace LB16 := LB16.ext XB17; replace LB15 := LB15.ext XB17; replace RB15 := RB15.ext XB17; replace NV2 := NV2.ext XB17) | (clear TG69; have hRl := (RB17).lt (Nat.zero_lt_succ _); refine storesV (B := B17) rfl rfl rfl (v := v2) rfl RB17 Fv2 ?_; clear LB17; intro s69 G69 LB17 RQ; have z70 := G69.size; replace E := grown_ext E G69 (by omega); replace NV := NV.grown G69 (by first | omega | (dsimp only [New]; omega)); replace LB11 := LB11.grown G69 (by omega); replace NU := NU.grown G69 (by first | omega | (dsimp only [New]; omega)); replace LB13 := LB13.grown G69 (by omega); replace LB16 := LB16.grown G69 (by omega); replace LB15 := LB15.grown G69 (by omega); replace RB15 := RB15.grown G69 (by omega); replace NV2 := NV2.grown G69 (by first | omega | (dsimp only [New]; omega)); clear RB17; have RB17 := RQ; clear RQ hRl; clear RB17) | (refine loadsV (B := B17) (by rfl) rfl rfl LB17 ?_) | (clear TG71; have hRl := (RB15).lt (Nat.zero_lt_succ _); refine storesV (B := B15) rfl rfl rfl (v := v2) rfl RB15 Fv2 ?_; clear LB15; intro s71 G71 LB15 RQ; have z72 := G71.size; replace E := grown_ext E G71 (by omega); replace NV := NV.grown G71 (by first | omega | (dsimp only [New]; omega)); replace LB11 := LB11.grown G71 (by omega); replace NU := NU.grown G71 (by first | omega | (dsimp only [New]; omega)); replace LB13 := LB13.grown G71 (by omega); replace LB16 := LB16.grown G71 (by omega); replace NV2 := NV2.grown G71 (by first | omega | (dsimp only [New]; omega)); replace LB17 := LB17.grown G71 (by omega); clear RB15; have RB15 := RQ; clear RQ hRl; clear RB15) | (refine loadsV (B := B13) (by rfl) rfl rfl LB13 ?_))
    clear LB17
    refine (cik u _ NU.is).mono ?_
    rintro e w68 ⟨rfl, x⟩
    have z73 := x.size
    replace E := E.trans x
    replace NV := NV.ext x
    replace LB11 := LB11.ext x
    replace NU := NU.ext x
    replace LB13 := LB13.ext x
    replace LB16 := LB16.ext x
    replace LB15 := LB15.ext x
    replace NV2 := NV2.ext x
    clear x
    have TB19 : True := trivial
    have TG75 : True := trivial
    go_wp2_with (first | (clear TB19; refine allocsV rfl rfl ?_; intro B19 w19 bB19 cB19 XB19 LB19 RB19; have z74 := XB19.size; replace E := E.trans XB19; replace NV := NV.ext XB19; replace LB11 := LB11.ext XB19; replace NU := NU.ext XB19; replace LB13 := LB13.ext XB19; replace LB16 := LB16.ext XB19; replace LB15 := LB15.ext XB19; replace NV2 := NV2.ext XB19; clear LB19) | (clear TG75; have hRl := (RB19).lt (Nat.zero_lt_succ _); refine storesV (B := B19) rfl rfl rfl (v := zeroVec) rfl RB19 zeroVec_flat ?_; intro s75 G75 LB19 RQ; have z76 := G75.size; replace E := grown_ext E G75 (by omega); replace NV := NV.grown G75 (by first | omega | (dsimp only [New]; omega)); replace LB11 := LB11.grown G75 (by omega); replace NU := NU.grown G75 (by first | omega | (dsimp only [New]; omega)); replace LB13 := LB13.grown G75 (by omega); replace LB16 := LB16.grown G75 (by omega); replace LB15 := LB15.grown G75 (by omega); replace NV2 := NV2.grown G75 (by first | omega | (dsimp only [New]; omega)); clear RB19; have RB19 := RQ; clear RQ hRl; clear LB19 RB19) | (refine loadsV (B := B11) (by rfl) rfl rfl LB11 ?_) | (refine loadsV (B := B13) (by rfl) rfl rfl LB13 ?_))
    clear LB11 LB13
    refine (cap v u _ _ _ NV.is NU.is).mono ?_
    rintro e w77 ⟨p, rfl, hq, x⟩
    have NP := hq.now
    have Fp := NP.is.flat
    clear hq
    have z77 := x.size
    replace E := E.trans x
    replace NV := NV.ext x
    replace NU := NU.ext x
    replace LB16 := LB16.ext x
    replace LB15 := LB15.ext x
    replace NV2 := NV2.ext x
    clear x
    have TB21 : True := trivial
    have TG79 : True := trivial
    go_wp2_with (first | (clear TB21; refine allocsV rfl rfl ?_; intro B21 w21 bB21 cB21 XB21 LB21 RB21; have z78 := XB21.size; replace E := E.trans XB21; replace NV := NV.ext XB21; replace NU := NU.ext XB21; replace LB16 := LB16.ext XB21; replace LB15 := LB15.ext XB21; replace NV2 := NV2.ext XB21; replace NP := NP.ext XB21) | (clear TG79; have hRl := (RB21).lt (Nat.zero_lt_succ _); refine storesV (B := B21) rfl rfl rfl (v := p) rfl RB21 Fp ?_; clear LB21; intro s79 G79 LB21 RQ; have z80 := G79.size; replace E := grown_ext E G79 (by omega); replace NV := NV.grown G79 (by first | omega | (dsimp only [New]; omega)); replace NU := NU.grown G79 (by first | omega | (dsimp only [New]; omega)); replace LB16 := LB16.grown G79 (by omega); replace LB15 := LB15.grown G79 (by omega); replace NV2 := NV2.grown G79 (by first | omega | (dsimp only [New]; omega)); replace NP := NP.grown G79 (by first | omega | (dsimp only [New]; omega)); clear RB21; have RB21 := RQ; clear RQ hRl; clear RB21) | (refine loadsV (B := B15) (by rfl) rfl rfl LB15 ?_) | (refine loadsV (B := B16) (by rfl) rfl rfl LB16 ?_))
    clear LB16 LB15
    refine (cap v2 u _ _ _ NV2.is NU.is).mono ?_
    rintro e w84 ⟨q, rfl, hq, x⟩
    have NQ := hq.now
    have Fq := NQ.is.flat
    clear hq
    have z81 := x.size
    replace E := E.trans x
    replace NV := NV.ext x
    replace NU := NU.ext x
    replace NV2 := NV2.ext x
    replace NP := NP.ext x
    replace LB21 := LB21.ext x
    clear x
    have TB23 : True := trivial
    have TG83 : True := trivial
    go_wp2_with (first | (clear TB23; refine allocsV rfl rfl ?_; intro B23 w23 bB23 cB23 XB23 LB23 RB23; have z82 := XB23.size; replace E := E.trans XB23; replace NV := NV.ext XB23; replace NU := NU.ext XB23; replace NV2 := NV2.ext XB23; replace NP := NP.ext XB23; replace LB21 := LB21.ext XB23; replace NQ := NQ.ext XB23) | (clear TG83; have hRl := (RB23).lt (Nat.zero_lt_succ _); refine storesV (B := B23) rfl rfl rfl (v := q) rfl RB23 Fq ?_; clear LB23; intro s83 G83 LB23 RQ; have z84 := G83.size; replace E := grown_ext E G83 (by omega); replace NV := NV.grown G83 (by first | omega | (dsimp only [New]; omega)); replace NU := NU.grown G83 (by first | omega | (dsimp only [New]; omega)); replace NV2 := NV2.grown G83 (by first | omega | (dsimp only [New]; omega)); replace NP := NP.grown G83 (by first | omega | (dsimp only [New]; omega)); replace LB21 := LB21.grown G83 (by omega); replace NQ := NQ.grown G83 (by first | omega | (dsimp only [New]; omega)); clear RB23; have RB23 := RQ; clear RQ hRl; clear RB23) | (refine loadsV (B := B21) (by rfl) rfl rfl LB21 ?_))
    clear LB21
    refine (cpk p _ NP.is).mono ?_
    rintro e w89 ⟨s, rfl, hq, x⟩
    have NS := hq _ NP
    have Fs := NS.is.flat
    clear hq
    have z85 := x.size
    replace E := E.trans x
    replace NV := NV.ext x
    replace NU := NU.ext x
    replace NV2 := NV2.ext x
    replace NP := NP.ext x
    replace NQ := NQ.ext x
    replace LB23 := LB23.ext x
    clear x
    have TB25 : True := trivial
    have TG87 : True := trivial
    go_wp2_with (first | (clear TB25; refine allocsB rfl rfl ?_; intro B25 w25 bB25 cB25 XB25 LB25 RB25; have z86 := XB25.size; replace E := E.trans XB25; replace NV := NV.ext XB25; replace NU := NU.ext XB25; replace NV2 := NV2.ext XB25; replace NP := NP.ext XB25; replace NQ := NQ.ext XB25; replace LB23 := LB23.ext XB25; replace NS := NS.ext XB25) | (clear TG87; have hRl := (RB25).lt (Nat.zero_lt_succ _); refine storesB (B := B25) rfl rfl rfl (v := s) rfl RB25 Fs ?_; clear LB25; intro s87 G87 LB25 RQ; have z88 := G87.size; replace E := grown_ext E G87 (by omega); replace NV := NV.grown G87 (by first | omega | (dsimp only [New]; omega)); replace NU := NU.grown G87 (by first | omega | (dsimp only [New]; omega)); replace NV2 := NV2.grown G87 (by first | omega | (dsimp only [New]; omega)); replace NP := NP.grown G87 (by first | omega | (dsimp only [New]; omega)); replace NQ := NQ.grown G87 (by first | omega | (dsimp only [New]; omega)); replace LB23 := LB23.grown G87 (by omega); replace NS := NS.grown G87 (by first | omega | (dsimp only [New]; omega)); clear RB25; have RB25 := RQ; clear RQ hRl; clear RB25) | (refine loadsV (B := B23) (by rfl) rfl rfl LB23 ?_))
    clear LB23
    refine (cpk q _ NQ.is).mono ?_
    rintro e w94 ⟨t, rfl, hq, x⟩
    have NT := hq _ NQ
    have Ft := NT.is.flat
    clear hq
    have z89 := x.size
    replace E := E.trans x
    replace NV := NV.ext x
    replace NU := NU.ext x
    replace NV2 := NV2.ext x
    replace NP := NP.ext x
    replace NQ := NQ.ext x
    replace NS := NS.ext x
    replace LB25 := LB25.ext x
    clear x
    have TB27 : True := trivial
    have TG91 : True := trivial
    go_wp2_with (first | (clear TB27; refine allocsB rfl rfl ?_; intro B27 w27 bB27 cB27 XB27 LB27 RB27; have z90 := XB27.size; replace E := E.trans XB27; replace NV := NV.ext XB27; replace NU := NU.ext XB27; replace NV2 := NV2.ext XB27; replace NP := NP.ext XB27; replace NQ := NQ.ext XB27; replace NS := NS.ext XB27; replace LB25 := LB25.ext XB27; replace NT := NT.ext XB27) | (clear TG91; have hRl := (RB27).lt (Nat.zero_lt_succ _); refine storesB (B := B27) rfl rfl rfl (v := t) rfl RB27 Ft ?_; clear LB27; intro s91 G91 LB27 RQ; have z92 := G91.size; replace E := grown_ext E G91 (by omega); replace NV := NV.grown G91 (by first | omega | (dsimp only [New]; omega)); replace NU := NU.grown G91 (by first | omega | (dsimp only [New]; omega)); replace NV2 := NV2.grown G91 (by first | omega | (dsimp only [New]; omega)); replace NP := NP.grown G91 (by first | omega | (dsimp only [New]; omega)); replace NQ := NQ.grown G91 (by first | omega | (dsimp only [New]; omega)); replace NS := NS.grown G91 (by first | omega | (dsimp only [New]; omega)); replace LB25 := LB25.grown G91 (by omega); replace NT := NT.grown G91 (by first | omega | (dsimp only [New]; omega)); clear RB27; have RB27 := RQ; clear RQ hRl; clear RB27))
    try simp only [Act.put, List.setIfInBounds_toArray, List.set_cons_zero, List.set_cons_succ]
    have hq93 : s91.heap.size ≤ s91.drew.heap.size := Nat.le_refl _
    have z94 := (Ext.refl s91).drew.size
    replace E := E.trans (Ext.refl s91).drew
    replace NV := NV.ext (Ext.refl s91).drew
    replace NU := NU.ext (Ext.refl s91).drew
    replace NV2 := NV2.ext (Ext.refl s91).drew
    replace NP := NP.ext (Ext.refl s91).drew
    replace NQ := NQ.ext (Ext.refl s91).drew
    replace NS := NS.ext (Ext.refl s91).drew
    replace LB25 := LB25.ext (Ext.refl s91).drew
    replace NT := NT.ext (Ext.refl s91).drew
    replace LB27 := LB27.ext (Ext.refl s91).drew
    refine wp_region_held_drew (S := (fun w' => Lay 2 w' B25 s ∧ Lay 2 w' B27 t)) (by kernel_rfl) ⟨LB25, LB27⟩ (fun hHeld => ?_)
    refine wpAnyH_take (i := 0) (oi := { dst := some 97, op := Go.Op.move (Go.Operand.tmp 22), type := 59, pos := "law.go:87", after := #[], guard := none }) (v := ?v95) rfl (by kernel_rfl) (by kernel_rfl) (by kernel_rfl) (fun _ _ _ h => h) (Or.inl ⟨by rfl, ?hy95⟩) hHeld ?rest95
    case hy95 => (intro w hSw; (try dsimp only at hSw); go_simp; (first | done | with_reducible rfl))
    try simp only [Act.put, List.setIfInBounds_toArray, List.set_cons_zero, List.set_cons_succ]
    refine wpAnyH_take (i := 1) (oi := { dst := some 98, op := Go.Op.move (Go.Operand.tmp 24), type := 59, pos := "law.go:87", after := #[], guard := none }) (v := ?v96) rfl (by kernel_rfl) (by kernel_rfl) (by kernel_rfl) (fun _ _ _ h => h) (Or.inl ⟨by rfl, ?hy96⟩) hHeld ?rest96
    case hy96 => (intro w hSw; (try dsimp only at hSw); go_simp; (first | done | with_reducible rfl))
    try simp only [Act.put, List.setIfInBounds_toArray, List.set_cons_zero, List.set_cons_succ]
    refine wpAnyH_take (i := 2) (oi := { dst := some 99, op := Go.Op.binOp Go.BinOp.eql 59 (Go.Operand.tmp 97) (Go.Operand.tmp 98) 59, type := 4, pos := "law.go:87", after := #[{ on := 0, ground := Go.Ground.data }, { on := 1, ground := Go.Ground.data }], guard := none }) (v := ?v97) rfl (by kernel_rfl) (by kernel_rfl) (by kernel_rfl) (fun _ _ _ h => h) (Or.inl ⟨by rfl, ?hy97⟩) hHeld ?rest97
    case hy97 => (intro w hSw; (try dsimp only at hSw); go_simp; (first | done | with_reducible rfl))
    try simp only [Act.put, List.setIfInBounds_toArray, List.set_cons_zero, List.set_cons_succ]
    refine wpAnyH_take (i := 3) (oi := { dst := some 100, op := Go.Op.move (Go.Operand.tmp 99), type := 4, pos := "law.go:87", after := #[{ on := 2, ground := Go.Ground.data }], guard := none }) (v := ?v98) rfl (by kernel_rfl) (by kernel_rfl) (by kernel_rfl) (fun _ _ _ h => h) (Or.inl ⟨by rfl, ?hy98⟩) hHeld ?rest98
    case hy98 => (intro w hSw; (try dsimp only at hSw); go_simp; (first | done | with_reducible rfl))
    try simp only [Act.put, List.setIfInBounds_toArray, List.set_cons_zero, List.set_cons_succ]
    refine wpAnyH_take (i := 4) (oi := { dst := some 101, op := Go.Op.load 28 (Go.Operand.tmp 25), type := 28, pos := "law.go:87", after := #[{ on := 3, ground := Go.Ground.guard }], guard := some (3, true) }) (v := s) rfl (by kernel_rfl) (by kernel_rfl) (by kernel_rfl) (fun _ _ _ h => h) (yieldB (by rfl) rfl rfl fun w' hx => hx.1) hHeld ?_
    try simp only [Act.put, List.setIfInBounds_toArray, List.set_cons_zero, List.set_cons_succ]
    refine wpAnyH_take (i := 6) (oi := { dst := some 103, op := Go.Op.load 28 (Go.Operand.tmp 27), type := 28, pos := "law.go:87", after := #[{ on := 3, ground := Go.Ground.guard }], guard := some (3, true) }) (v := t) rfl (by kernel_rfl) (by kernel_rfl) (by kernel_rfl) (fun _ _ _ h => h) (yieldB (by rfl) rfl rfl fun w' hx => hx.2) hHeld ?_
    try simp only [Act.put, List.setIfInBounds_toArray, List.set_cons_zero, List.set_cons_succ]
    refine wpAnyH_ready (rs := [5]) (by kernel_rfl) (by simp) ?_
    refine AllReadyH.cons (o := { dst := some 102, op := Go.Op.call { callee := Go.Callee.value (Go.Operand.func 40), args := #[Go.Operand.tmp 101], argTypes := #[28] }, type := 62, pos := "law.go:87", after := #[{ on := 4, ground := Go.Ground.data }, { on := 3, ground := Go.Ground.chain }, { on := 3, ground := Go.Ground.guard }], guard := some (3, true) }) rfl (fun K hK => ?_) (AllReadyH.nil)
    go_simp
    refine (cu0 s _ NS.is).mono ?_
    rintro e w102 ⟨R, cR, rfl, hq, x⟩
    have SR := SlS.all hq
    clear hq
    have z101 := x.size
    replace E := E.trans x
    replace NV := NV.ext x
    replace NU := NU.ext x
    replace NV2 := NV2.ext x
    replace NP := NP.ext x
    replace NQ := NQ.ext x
    replace NS := NS.ext x
    replace LB25 := LB25.ext x
    replace NT := NT.ext x
    replace LB27 := LB27.ext x
    clear x
    clear hHeld
    have hHeld := And.intro LB25 (LB27)
    refine hK.out _ _ hHeld (fun _ => ?_)
    clear hK K
    try simp only [Act.put, List.setIfInBounds_toArray, List.set_cons_zero, List.set_cons_succ]
    refine wpAnyH_ready (rs := [7]) (by kernel_rfl) (by simp) ?_
    refine AllReadyH.cons (o := { dst := some 104, op := Go.Op.call { callee := Go.Callee.value (Go.Operand.func 40), args := #[Go.Operand.tmp 103], argTypes := #[28] }, type := 62, pos := "law.go:87", after := #[{ on := 6, ground := Go.Ground.data }, { on := 5, ground := Go.Ground.chain }, { on := 3, ground := Go.Ground.guard }], guard := some (3, true) }) rfl (fun K hK => ?_) (AllReadyH.nil)
    go_simp
    refine (cu0 t _ NT.is).mono ?_
    rintro e w104 ⟨Q, cQ, rfl, hq, x⟩
    have SQ := SlS.all hq
    clear hq
    have z102 := x.size
    replace E := E.trans x
    replace NV := NV.ext x
    replace NU := NU.ext x
    replace NV2 := NV2.ext x
    replace NP := NP.ext x
    replace NQ := NQ.ext x
    replace NS := NS.ext x
    replace LB25 := LB25.ext x
    replace NT := NT.ext x
    replace LB27 := LB27.ext x
    replace SR := SR.ext x
    clear x
    clear hHeld
    have hHeld := And.intro LB25 (LB27)
    refine hK.out _ _ hHeld (fun _ => ?_)
    clear hK K
    try simp only [Act.put, List.setIfInBounds_toArray, List.set_cons_zero, List.set_cons_succ]
    refine wpAnyH_ready (rs := [8]) (by kernel_rfl) (by simp) ?_
    refine AllReadyH.cons (o := { dst := some 105, op := Go.Op.call { callee := Go.Callee.value (Go.Operand.func 39), args := #[Go.Operand.tmp 102, Go.Operand.tmp 104], argTypes := #[62, 62] }, type := 4, pos := "law.go:87", after := #[{ on := 5, ground := Go.Ground.data }, { on := 7, ground := Go.Ground.data }, { on := 7, ground := Go.Ground.chain }, { on := 3, ground := Go.Ground.guard }], guard := some (3, true) }) rfl (fun K hK => ?_) (AllReadyH.nil)
    go_simp
    refine (cb0 R Q cR cQ _ SR.is SQ.is).mono ?_
    rintro e w105 ⟨rfl, x⟩
    have z103 := x.size
    replace E := E.trans x
    replace NV := NV.ext x
    replace NU := NU.ext x
    replace NV2 := NV2.ext x
    replace NP := NP.ext x
    replace NQ := NQ.ext x
    replace NS := NS.ext x
    replace LB25 := LB25.ext x
    replace NT := NT.ext x
    replace LB27 := LB27.ext x
    replace SR := SR.ext x
    replace SQ := SQ.ext x
    clear x
    clear hHeld
    have hHeld := And.intro LB25 (LB27)
    refine hK.out _ _ hHeld (fun _ => ?_)
    clear hK K
    try simp only [Act.put, List.setIfInBounds_toArray, List.set_cons_zero, List.set_cons_succ]
    refine wpAnyH_take (i := 9) (oi := { dst := some 106, op := Go.Op.pick (Go.Operand.tmp 100) (Go.Operand.tmp 105) (Go.Operand.const (Go.Value.bool false)), type := 4, pos := "law.go:87", after := #[{ on := 3, ground := Go.Ground.data }, { on := 8, ground := Go.Ground.data }], guard := none }) (v := ?v104) rfl (by kernel_rfl) (by kernel_rfl) (by kernel_rfl) (fun _ _ _ h => h) (Or.inl ⟨by rfl, ?hy104⟩) hHeld ?rest104
    case hy104 => (intro w hSw; (try dsimp only at hSw); go_simp; (first | done | with_reducible rfl))
    try simp only [Act.put, List.setIfInBounds_toArray, List.set_cons_zero, List.set_cons_succ]
    refine wpAnyH_take (i := 10) (oi := { dst := some 107, op := Go.Op.move (Go.Operand.tmp 106), type := 4, pos := "law.go:87", after := #[{ on := 9, ground := Go.Ground.data }, { on := 8, ground := Go.Ground.chain }], guard := none }) (v := ?v105) rfl (by kernel_rfl) (by kernel_rfl) (by kernel_rfl) (fun _ _ _ h => h) (Or.inl ⟨by rfl, ?hy105⟩) hHeld ?rest105
    case hy105 => (intro w hSw; (try dsimp only at hSw); go_simp; (first | done | with_reducible rfl))
    try simp only [Act.put, List.setIfInBounds_toArray, List.set_cons_zero, List.set_cons_succ]
    refine wpAnyH_ready (rs := [11]) (by kernel_rfl) (by simp) ?_
    refine AllReadyH.cons (o := { dst := some 108, op := Go.Op.call { callee := Go.Callee.value (Go.Operand.func 46), args := #[], argTypes := #[] }, type := 4, pos := "law.go:87", after := #[{ on := 10, ground := Go.Ground.chain }, { on := 10, ground := Go.Ground.guard }], guard := some (10, true) }) rfl (fun K hK => ?_) (AllReadyH.nil)
    go_simp
    refine (rawake_any _).mono ?_
    rintro e w108 ⟨rfl, x⟩
    have z106 := x.size
    replace E := E.trans x
    replace NV := NV.ext x
    replace NU := NU.ext x
    replace NV2 := NV2.ext x
    replace NP := NP.ext x
    replace NQ := NQ.ext x
    replace NS := NS.ext x
    replace LB25 := LB25.ext x
    replace NT := NT.ext x
    replace LB27 := LB27.ext x
    replace SR := SR.ext x
    replace SQ := SQ.ext x
    clear x
    clear hHeld
    have hHeld := And.intro LB25 (LB27)
    refine hK.out _ _ hHeld (fun _ => ?_)
    clear hK K
    try simp only [Act.put, List.setIfInBounds_toArray, List.set_cons_zero, List.set_cons_succ]
    refine wpAnyH_take (i := 12) (oi := { dst := some 109, op := Go.Op.pick (Go.Operand.tmp 107) (Go.Operand.tmp 108) (Go.Operand.const (Go.Value.bool false)), type := 4, pos := "law.go:87", after := #[{ on := 10, ground := Go.Ground.data }, { on := 11, ground := Go.Ground.data }], guard := none }) (v := ?v107) rfl (by kernel_rfl) (by kernel_rfl) (by kernel_rfl) (fun _ _ _ h => h) (Or.inl ⟨by rfl, ?hy107⟩) hHeld ?rest107
    case hy107 => (intro w hSw; (try dsimp only at hSw); go_simp; (first | done | with_reducible rfl))
    try simp only [Act.put, List.setIfInBounds_toArray, List.set_cons_zero, List.set_cons_succ]
    refine wpAnyH_take (i := 13) (oi := { dst := some 10, op := Go.Op.assign (Go.Operand.tmp 109), type := 4, pos := "law.go:87", after := #[{ on := 12, ground := Go.Ground.data }, { on := 11, ground := Go.Ground.chain }, { on := 0, ground := Go.Ground.phase }, { on := 1, ground := Go.Ground.phase }, { on := 2, ground := Go.Ground.phase }, { on := 3, ground := Go.Ground.phase }, { on := 4, ground := Go.Ground.phase }, { on := 5, ground := Go.Ground.phase }, { on := 6, ground := Go.Ground.phase }, { on := 7, ground := Go.Ground.phase }, { on := 8, ground := Go.Ground.phase }, { on := 9, ground := Go.Ground.phase }, { on := 10, ground := Go.Ground.phase }, { on := 11, ground := Go.Ground.phase }, { on := 12, ground := Go.Ground.phase }], guard := none }) (v := ?v108) rfl (by kernel_rfl) (by kernel_rfl) (by kernel_rfl) (fun _ _ _ h => h) (Or.inl ⟨by rfl, ?hy108⟩) hHeld ?rest108
    case hy108 => (intro w hSw; (try dsimp only at hSw); go_simp; (first | done | with_reducible rfl))
    try simp only [Act.put, List.setIfInBounds_toArray, List.set_cons_zero, List.set_cons_succ]
    refine wpAnyH_done (by kernel_rfl) ?_ _
    go_wp2_with fail
    go_ret
    exact ⟨rfl, E⟩
theorem relateStores_11 (hn : n = a.length) (hm : m = b.length) (hwa : ∀ x ∈ a, x < 18446744073709551616) (hwb : ∀ x ∈ b, x < 18446744073709551616) (h3 : n ≤ 300) (h4 : m ≤ 300) (hs : Sl w 1 A n (f64s a)) (hs' : Sl w 1 B m (f64s b)) (hfa : allF a = true) (hfb : allF b = true) (hj : fitsL (dnL a) j = true) (hk : fitsL (dnL b) k = true) : Calls Try.prog 11 #[.int .i64 f, .slice A n c, .slice B m c', .int .i64 j, .int .i64 k] w fun e w' => e = .returned (.bool true) ∧ Ext w w' := by
  have cka := fun w hs => numbers_yes A a n hn hwa hfa c w (by omega) hs
  have ckb := fun w hs => numbers_yes B b m hm hwb hfb c' w (by omega) hs
  have la : n = (dnL a).length := by rw [dnL_length]; exact hn
  have lb : m = (dnL b).length := by rw [dnL_length]; exact hm
  have HS := Lib.hid hs
  have HS' := Lib.hid hs'
  obtain ⟨j', rfl⟩ : ∃ j' : Nat, j = j' := by
    have := of_decide_eq_true hj
    have := leastL_ge (dnL a)
    exact ⟨j.toNat, by omega⟩
  have cij := fun v w h => into_yes v (leastL (dnL a)) (dnL a) j' hj w h
  obtain ⟨k', rfl⟩ : ∃ k' : Nat, k = k' := by
    have := of_decide_eq_true hk
    have := leastL_ge (dnL b)
    exact ⟨k.toNat, by omega⟩
  have cik := fun v w h => into_yes v (leastL (dnL b)) (dnL b) k' hk w h
  clear hs hs' hn hm hwa hwb hfa hfb hj hk
  generalize dnL a = X at *
  generalize dnL b = Y at *
  generalize leastL X = K1 at *
  generalize leastL Y = K2 at *
  have cap := fun v u K J w hv hu => rapply_num f v u K J X Y (by omega) (by omega) w hv hu
  obtain ⟨m0, hm0⟩ : ∃ m0, m0 = (relLL f X Y).length := ⟨_, rfl⟩
  have hm00 : m0 ≤ 1048576 := by
    rw [hm0]
    by_cases hE : relE f X.length Y.length = 0
    · unfold relLL; rw [if_pos hE, relL_length]
      have : lenV (X.length : Int) (Y.length : Int) ≤ 300 := by unfold lenV; rw [← la, ← lb]; repeat (first | split | omega)
      omega
    · unfold relLL; rw [if_neg hE]; simp
  have cpk : ∀ p w, IsVec w p (relD f X Y) → Calls Try.prog 36 #[p] w fun e w' => ∃ q, e = .returned (.tuple #[q, .bool (relE f X.length Y.length == 0)]) ∧ (∀ S, VecS w p (relD f X Y) S → BitS w' q (relLL f X Y) S) ∧ Ext w w' := fun p w h => by
    have := packed_u p _ (relD_cases f X Y) w h
    unfold PackedU at this
    rwa [relD_kind, relD_bits] at this
  have cu0 := fun p w h => unpack_sl p (relLL f X Y) m0 hm0 w h
  have cb0 := fun P Q c c' w h h' => bools_same P Q (relLL f X Y) m0 m0 c c' hm0 hm0 w hm00 h h'
  clear hm0 hm00 la lb
  generalize relD f X Y = D at *
  generalize relLL f X Y = AL at *
  generalize (relE f X.length Y.length == 0) = eb at *
  generalize relE f X.length Y.length = er at *
  have E := Ext.refl w
  go_enter Try.func11, Try.ntmps11
  go_wp2_with fail
  refine (cka _ (HS.out.ext E)).mono ?_
  rintro e w40 ⟨v, rfl, hq, x⟩
  have NV := hq.now
  have Fv := NV.is.flat
  clear hq
  have z1 := x.size
  replace E := E.trans x
  clear x
  have TB11 : True := trivial
  have TG3 : True := trivial
  go_wp2_with (first | (clear TB11; refine allocsV rfl rfl ?_; intro B11 w11 bB11 cB11 XB11 LB11 RB11; have z2 := XB11.size; replace E := E.trans XB11; replace NV := NV.ext XB11) | (clear TG3; have hRl := (RB11).lt (Nat.zero_lt_succ _); refine storesV (B := B11) rfl rfl rfl (v := v) rfl RB11 Fv ?_; clear LB11; intro s3 G3 LB11 RQ; have z4 := G3.size; replace E := grown_ext E G3 (by omega); replace NV := NV.grown G3 (by first | omega | (dsimp only [New]; omega)); clear RB11; have RB11 := RQ; clear RQ hRl; clear RB11))
  refine (ckb _ (HS'.out.ext E)).mono ?_
  rintro e w45 ⟨u, rfl, hq, x⟩
  have NU := hq.now
  have Fu := NU.is.flat
  clear hq
  have z5 := x.size
  replace E := E.trans x
  replace NV := NV.ext x
  replace LB11 := LB11.ext x
  clear x
  have TB13 : True := trivial
  have TG7 : True := trivial
  go_wp2_with (first | (clear TB13; refine allocsV rfl rfl ?_; intro B13 w13 bB13 cB13 XB13 LB13 RB13; have z6 := XB13.size; replace E := E.trans XB13; replace NV := NV.ext XB13; replace LB11 := LB11.ext XB13; replace NU := NU.ext XB13) | (clear TG7; have hRl := (RB13).lt (Nat.zero_lt_succ _); refine storesV (B := B13) rfl rfl rfl (v := u) rfl RB13 Fu ?_; clear LB13; intro s7 G7 LB13 RQ; have z8 := G7.size; replace E := grown_ext E G7 (by omega); replace NV := NV.grown G7 (by first | omega | (dsimp only [New]; omega)); replace LB11 := LB11.grown G7 (by omega); replace NU := NU.grown G7 (by first | omega | (dsimp only [New]; omega)); clear RB13; have RB13 := RQ; clear RQ hRl; clear RB13))
  try simp only [Act.put, List.setIfInBounds_toArray, List.set_cons_zero, List.set_cons_succ]
  have hq9 : s7.heap.size ≤ s7.drew.heap.size := Nat.le_refl _
  have z10 := (Ext.refl s7).drew.size
  replace E := E.trans (Ext.refl s7).drew
  replace NV := NV.ext (Ext.refl s7).drew
  replace LB11 := LB11.ext (Ext.refl s7).drew
  replace NU := NU.ext (Ext.refl s7).drew
  replace LB13 := LB13.ext (Ext.refl s7).drew
  refine wp_region_held_drew (S := (fun w' => Lay 8 w' B11 v ∧ Lay 8 w' B13 u)) (by kernel_rfl) ⟨LB11, LB13⟩ (fun hHeld => ?_)
  refine wpAnyH_take (i := 0) (oi := { dst := some 55, op := Go.Op.load 34 (Go.Operand.tmp 11), type := 34, pos := "law.go:76", after := #[], guard := none }) (v := v) rfl (by kernel_rfl) (by kernel_rfl) (by kernel_rfl) (fun _ _ _ h => h) (yieldV (by rfl) rfl rfl fun w' hx => hx.1) hHeld ?_
  try simp only [Act.put, List.setIfInBounds_toArray, List.set_cons_zero, List.set_cons_succ]
  refine wpAnyH_take (i := 1) (oi := { dst := some 56, op := Go.Op.load 34 (Go.Operand.tmp 13), type := 34, pos := "law.go:76", after := #[{ on := 4, ground := Go.Ground.gcOnly Go.Departure.lateStores }], guard := none }) (v := u) rfl (by kernel_rfl) (by kernel_rfl) (by kernel_rfl) (fun _ _ _ h => h) (yieldV (by rfl) rfl rfl fun w' hx => hx.2) hHeld ?_
  try simp only [Act.put, List.setIfInBounds_toArray, List.set_cons_zero, List.set_cons_succ]
  refine wpAnyH_ready (rs := [2, 3]) (by kernel_rfl) (by simp) ?_
  refine AllReadyH.cons (o := { dst := some 15, op := Go.Op.alloc 34, type := 0, pos := "law.go:76", after := #[], guard := none }) rfl (fun K hK => ?_) (AllReadyH.cons (o := { dst := some 16, op := Go.Op.alloc 34, type := 0, pos := "law.go:76", after := #[], guard := none }) rfl (fun K hK => ?_) (AllReadyH.nil))
  · rw [if_pos (by rfl)]
    refine allocV rfl ?_
    intro B15 w15 bB15 cB15 XB15 LB15 RB15
    have z13 := XB15.size
    replace E := E.trans XB15
    replace NV := NV.ext XB15
    replace LB11 := LB11.ext XB15
    replace NU := NU.ext XB15
    replace LB13 := LB13.ext XB15
    clear hHeld
    have hHeld := And.intro LB11 (LB13)
    refine hK.out _ _ hHeld (fun _ => ?_)
    clear hK K
    try simp only [Act.put, List.setIfInBounds_toArray, List.set_cons_zero, List.set_cons_succ]
    refine wpAnyH_ready (rs := [3]) (by kernel_rfl) (by simp) ?_
    refine AllReadyH.cons (o := { dst := some 16, op := Go.Op.alloc 34, type := 0, pos := "law.go:76", after := #[], guard := none }) rfl (fun K hK => ?_) (AllReadyH.nil)
    rw [if_pos (by rfl)]
    refine allocV rfl ?_
    intro B16 w16 bB16 cB16 XB16 LB16 RB16
    have z14 := XB16.size
    replace E := E.trans XB16
    replace NV := NV.ext XB16
    replace LB11 := LB11.ext XB16
    replace NU := NU.ext XB16
    replace LB13 := LB13.ext XB16
    replace LB15 := LB15.ext XB16
    replace RB15 := RB15.ext XB16
    clear hHeld
    have hHeld := And.intro LB11 (LB13)
    refine hK.out _ _ hHeld (fun _ => ?_)
    clear hK K
    try simp only [Act.put, List.setIfInBounds_toArray, List.set_cons_zero, List.set_cons_succ]
    refine wpAnyH_ready (rs := [4]) (by kernel_rfl) (by simp) ?_
    refine AllReadyH.cons (o := { dst := none, op := Go.Op.store 34 (Go.Operand.tmp 15) (Go.Operand.tmp 55), type := 0, pos := "law.go:76", after := #[{ on := 2, ground := Go.Ground.data }, { on := 0, ground := Go.Ground.data }, { on := 0, ground := Go.Ground.phase }, { on := 1, ground := Go.Ground.textOnly Go.Departure.lateStores }, { on := 2, ground := Go.Ground.phase }, { on := 3, ground := Go.Ground.phase }], guard := none }) rfl (fun K hK => ?_) (AllReadyH.nil)
    rw [if_pos (by rfl)]
    have hRl := (RB15).lt (Nat.zero_lt_succ _)
    refine storeV (by rfl) (by rfl) (v := v) (by rfl) RB15 Fv ?_
    clear LB15
    intro s15 G15 LB15 RQ
    have z16 := G15.size
    replace E := grown_ext E G15 (by omega)
    replace NV := NV.grown G15 (by first | omega | (dsimp only [New]; omega))
    replace LB11 := LB11.grown G15 (by omega)
    replace NU := NU.grown G15 (by first | omega | (dsimp only [New]; omega))
    replace LB13 := LB13.grown G15 (by omega)
    replace LB16 := LB16.grown G15 (by omega)
    replace RB16 := RB16.grown G15 (by omega)
    clear RB15
    have RB15 := RQ
    clear RQ hRl G15
    clear hHeld
    have hHeld := And.intro LB11 (LB13)
    refine hK.out _ _ hHeld (fun _ => ?_)
    clear hK K
    try simp only [Act.put]
    refine wpAnyH_ready (rs := [5]) (by kernel_rfl) (by simp) ?_
    refine AllReadyH.cons (o := { dst := none, op := Go.Op.store 34 (Go.Operand.tmp 16) (Go.Operand.tmp 56), type := 0, pos := "law.go:76", after := #[{ on := 3, ground := Go.Ground.data }, { on := 1, ground := Go.Ground.data }, { on := 4, ground := Go.Ground.chain }, { on := 0, ground := Go.Ground.phase }, { on := 1, ground := Go.Ground.phase }, { on := 2, ground := Go.Ground.phase }, { on := 3, ground := Go.Ground.phase }, { on := 4, ground := Go.Ground.phase }], guard := none }) rfl (fun K hK => ?_) (AllReadyH.nil)
    rw [if_pos (by rfl)]
    have hRl := (RB16).lt (Nat.zero_lt_succ _)
    refine storeV (by rfl) (by rfl) (v := u) (by rfl) RB16 Fu ?_
    clear LB16
    intro s17 G17 LB16 RQ
    have z18 := G17.size
    replace E := grown_ext E G17 (by omega)
    replace NV := NV.grown G17 (by first | omega | (dsimp only [New]; omega))
    replace LB11 := LB11.grown G17 (by omega)
    replace NU := NU.grown G17 (by first | omega | (dsimp only [New]; omega))
    replace LB13 := LB13.grown G17 (by omega)
    replace LB15 := LB15.grown G17 (by omega)
    replace RB15 := RB15.grown G17 (by omega)
    clear RB16
    have RB16 := RQ
    clear RQ hRl G17
    clear hHeld
    have hHeld := And.intro LB11 (LB13)
    refine hK.out _ _ hHeld (fun _ => ?_)
    clear hK K
    try simp only [Act.put]
    refine wpAnyH_done (by kernel_rfl) ?_ _
    go_wp2_with (refine loadsV (B := B11) (by rfl) rfl rfl LB11 ?_)
    refine (cij v _ NV.is).mono ?_
    rintro e w60 ⟨v2, rfl, hq, x⟩
    have NV2 := (hq _ NV).now
    have Fv2 := NV2.is.flat
    clear hq
    have z19 := x.size
    replace E := E.trans x
    replace NV := NV.ext x
    replace LB11 := LB11.ext x
    replace NU := NU.ext x
    replace LB13 := LB13.ext x
    replace LB15 := LB15.ext x
    replace RB15 := RB15.ext x
    replace LB16 := LB16.ext x
    replace RB16 := RB16.ext x
    clear x
    have TB17 : True := trivial
    have TG21 : True := trivial
    have TG23 : True := trivial
    go_wp2_with (first | (clear TB17; refine allocsV rfl rfl ?_; intro B17 w17 bB17 cB17 XB17 LB17 RB17; have z20 := XB17.size; replace E := E.trans XB17; replace NV := NV.ext XB17; replace LB11 := LB11.ext XB17; replace NU := NU.ext XB17; replace LB13 := LB13.ext XB17; replace LB15 := LB15.ext XB17; replace RB15 := RB15.ext XB17; replace LB16 := LB16.ext XB17; replace RB16 := RB16.ext XB17; replace NV2 := NV2.ext XB17) | (clear TG21; have hRl := (RB17).lt (Nat.zero_lt_succ _); refine storesV (B := B17) rfl rfl rfl (v := v2) rfl RB17 Fv2 ?_; clear LB17; intro s21 G21 LB17 RQ; have z22 := G21.size; replace E := grown_ext E G21 (by omega); replace NV := NV.grown G21 (by first | omega | (dsimp only [New]; omega)); replace LB11 := LB11.grown G21 (by omega); replace NU := NU.grown G21 (by first | omega | (dsimp only [New]; omega)); replace LB13 := LB13.grown G21 (by omega); replace LB15 := LB15.grown G21 (by omega); replace RB15 := RB15.grown G21 (by omega); replace LB16 := LB16.grown G21 (by omega); replace RB16 := RB16.grown G21 (by omega); replace NV2 := NV2.grown G21 (by first | omega | (dsimp only [New]; omega)); clear RB17; have RB17 := RQ; clear RQ hRl; clear RB17) | (refine loadsV (B := B17) (by rfl) rfl rfl LB17 ?_) | (clear TG23; have hRl := (RB15).lt (Nat.zero_lt_succ _); refine storesV (B := B15) rfl rfl rfl (v := v2) rfl RB15 Fv2 ?_; clear LB15; intro s23 G23 LB15 RQ; have z24 := G23.size; replace E := grown_ext E G23 (by omega); replace NV := NV.grown G23 (by first | omega | (dsimp only [New]; omega)); replace LB11 := LB11.grown G23 (by omega); replace NU := NU.grown G23 (by first | omega | (dsimp only [New]; omega)); replace LB13 := LB13.grown G23 (by omega); replace LB16 := LB16.grown G23 (by omega); replace RB16 := RB16.grown G23 (by omega); replace NV2 := NV2.grown G23 (by first | omega | (dsimp only [New]; omega)); replace LB17 := LB17.grown G23 (by omega); clear RB15; have RB15 := RQ; clear RQ hRl; clear RB15) | (refine loadsV (B := B13) (by rfl) rfl rfl LB13 ?_))
    clear LB17
    refine (cik u _ NU.is).mono ?_
    rintro e w68 ⟨u2, rfl, hq, x⟩
    have NU2 := (hq _ NU).now
    have Fu2 := NU2.is.flat
    clear hq
    have z25 := x.size
    replace E := E.trans x
    replace NV := NV.ext x
    replace LB11 := LB11.ext x
    replace NU := NU.ext x
    replace LB13 := LB13.ext x
    replace LB15 := LB15.ext x
    replace LB16 := LB16.ext x
    replace RB16 := RB16.ext x
    replace NV2 := NV2.ext x
    clear x
    have TB19 : True := trivial
    have TG27 : True := trivial
    have TG29 : True := trivial
    go_wp2_with (first | (clear TB19; refine allocsV rfl rfl ?_; intro B19 w19 bB19 cB19 XB19 LB19 RB19; have z26 := XB19.size; replace E := E.trans XB19; replace NV := NV.ext XB19; replace LB11 := LB11.ext XB19; replace NU := NU.ext XB19; replace LB13 := LB13.ext XB19; replace LB15 := LB15.ext XB19; replace LB16 := LB16.ext XB19; replace RB16 := RB16.ext XB19; replace NV2 := NV2.ext XB19; replace NU2 := NU2.ext XB19) | (clear TG27; have hRl := (RB19).lt (Nat.zero_lt_succ _); refine storesV (B := B19) rfl rfl rfl (v := u2) rfl RB19 Fu2 ?_; clear LB19; intro s27 G27 LB19 RQ; have z28 := G27.size; replace E := grown_ext E G27 (by omega); replace NV := NV.grown G27 (by first | omega | (dsimp only [New]; omega)); replace LB11 := LB11.grown G27 (by omega); replace NU := NU.grown G27 (by first | omega | (dsimp only [New]; omega)); replace LB13 := LB13.grown G27 (by omega); replace LB15 := LB15.grown G27 (by omega); replace LB16 := LB16.grown G27 (by omega); replace RB16 := RB16.grown G27 (by omega); replace NV2 := NV2.grown G27 (by first | omega | (dsimp only [New]; omega)); replace NU2 := NU2.grown G27 (by first | omega | (dsimp only [New]; omega)); clear RB19; have RB19 := RQ; clear RQ hRl; clear RB19) | (refine loadsV (B := B19) (by rfl) rfl rfl LB19 ?_) | (clear TG29; have hRl := (RB16).lt (Nat.zero_lt_succ _); refine storesV (B := B16) rfl rfl rfl (v := u2) rfl RB16 Fu2 ?_; clear LB16; intro s29 G29 LB16 RQ; have z30 := G29.size; replace E := grown_ext E G29 (by omega); replace NV := NV.grown G29 (by first | omega | (dsimp only [New]; omega)); replace LB11 := LB11.grown G29 (by omega); replace NU := NU.grown G29 (by first | omega | (dsimp only [New]; omega)); replace LB13 := LB13.grown G29 (by omega); replace LB15 := LB15.grown G29 (by omega); replace NV2 := NV2.grown G29 (by first | omega | (dsimp only [New]; omega)); replace NU2 := NU2.grown G29 (by first | omega | (dsimp only [New]; omega)); replace LB19 := LB19.grown G29 (by omega); clear RB16; have RB16 := RQ; clear RQ hRl; clear RB16) | (refine loadsV (B := B11) (by rfl) rfl rfl LB11 ?_) | (refine loadsV (B := B13) (by rfl) rfl rfl LB13 ?_))
    clear LB11 LB13 LB19
    refine (cap v u _ _ _ NV.is NU.is).mono ?_
    rintro e w77 ⟨p, rfl, hq, x⟩
    have NP := hq.now
    have Fp := NP.is.flat
    clear hq
    have z31 := x.size
    replace E := E.trans x
    replace NV := NV.ext x
    replace NU := NU.ext x
    replace LB15 := LB15.ext x
    replace LB16 := LB16.ext x
    replace NV2 := NV2.ext x
    replace NU2 := NU2.ext x
    clear x
    have TB21 : True := trivial
    have TG33 : True := trivial
    go_wp2_with (first | (clear TB21; refine allocsV rfl rfl ?_; intro B21 w21 bB21 cB21 XB21 LB21 RB21; have z32 := XB21.size; replace E := E.trans XB21; replace NV := NV.ext XB21; replace NU := NU.ext XB21; replace LB15 := LB15.ext XB21; replace LB16 := LB16.ext XB21; replace NV2 := NV2.ext XB21; replace NU2 := NU2.ext XB21; replace NP := NP.ext XB21) | (clear TG33; have hRl := (RB21).lt (Nat.zero_lt_succ _); refine storesV (B := B21) rfl rfl rfl (v := p) rfl RB21 Fp ?_; clear LB21; intro s33 G33 LB21 RQ; have z34 := G33.size; replace E := grown_ext E G33 (by omega); replace NV := NV.grown G33 (by first | omega | (dsimp only [New]; omega)); replace NU := NU.grown G33 (by first | omega | (dsimp only [New]; omega)); replace LB15 := LB15.grown G33 (by omega); replace LB16 := LB16.grown G33 (by omega); replace NV2 := NV2.grown G33 (by first | omega | (dsimp only [New]; omega)); replace NU2 := NU2.grown G33 (by first | omega | (dsimp only [New]; omega)); replace NP := NP.grown G33 (by first | omega | (dsimp only [New]; omega)); clear RB21; have RB21 := RQ; clear RQ hRl; clear RB21) | (refine loadsV (B := B15) (by rfl) rfl rfl LB15 ?_) | (refine loadsV (B := B16) (by rfl) rfl rfl LB16 ?_))
    clear LB15 LB16
    refine (cap v2 u2 _ _ _ NV2.is NU2.is).mono ?_
    rintro e w84 ⟨q, rfl, hq, x⟩
    have NQ := hq.now
    have Fq := NQ.is.flat
    clear hq
    have z35 := x.size
    replace E := E.trans x
    replace NV := NV.ext x
    replace NU := NU.ext x
    replace NV2 := NV2.ext x
    replace NU2 := NU2.ext x
    replace NP := NP.ext x
    replace LB21 := LB21.ext x
    clear x
    have TB23 : True := trivial
    have TG37 : True := trivial
    go_wp2_with (first | (clear TB23; refine allocsV rfl rfl ?_; intro B23 w23 bB23 cB23 XB23 LB23 RB23; have z36 := XB23.size; replace E := E.trans XB23; replace NV := NV.ext XB23; replace NU := NU.ext XB23; replace NV2 := NV2.ext XB23; replace NU2 := NU2.ext XB23; replace NP := NP.ext XB23; replace LB21 := LB21.ext XB23; replace NQ := NQ.ext XB23) | (clear TG37; have hRl := (RB23).lt (Nat.zero_lt_succ _); refine storesV (B := B23) rfl rfl rfl (v := q) rfl RB23 Fq ?_; clear LB23; intro s37 G37 LB23 RQ; have z38 := G37.size; replace E := grown_ext E G37 (by omega); replace NV := NV.grown G37 (by first | omega | (dsimp only [New]; omega)); replace NU := NU.grown G37 (by first | omega | (dsimp only [New]; omega)); replace NV2 := NV2.grown G37 (by first | omega | (dsimp only [New]; omega)); replace NU2 := NU2.grown G37 (by first | omega | (dsimp only [New]; omega)); replace NP := NP.grown G37 (by first | omega | (dsimp only [New]; omega)); replace LB21 := LB21.grown G37 (by omega); replace NQ := NQ.grown G37 (by first | omega | (dsimp only [New]; omega)); clear RB23; have RB23 := RQ; clear RQ hRl; clear RB23) | (refine loadsV (B := B21) (by rfl) rfl rfl LB21 ?_))
    clear LB21
    refine (cpk p _ NP.is).mono ?_
    rintro e w89 ⟨s, rfl, hq, x⟩
    have NS := hq _ NP
    have Fs := NS.is.flat
    clear hq
    have z39 := x.size
    replace E := E.trans x
    replace NV := NV.ext x
    replace NU := NU.ext x
    replace NV2 := NV2.ext x
    replace NU2 := NU2.ext x
    replace NP := NP.ext x
    replace NQ := NQ.ext x
    replace LB23 := LB23.ext x
    clear x
    have TB25 : True := trivial
    have TG41 : True := trivial
    go_wp2_with (first | (clear TB25; refine allocsB rfl rfl ?_; intro B25 w25 bB25 cB25 XB25 LB25 RB25; have z40 := XB25.size; replace E := E.trans XB25; replace NV := NV.ext XB25; replace NU := NU.ext XB25; replace NV2 := NV2.ext XB25; replace NU2 := NU2.ext XB25; replace NP := NP.ext XB25; replace NQ := NQ.ext XB25; replace LB23 := LB23.ext XB25; replace NS := NS.ext XB25) | (clear TG41; have hRl := (RB25).lt (Nat.zero_lt_succ _); refine storesB (B := B25) rfl rfl rfl (v := s) rfl RB25 Fs ?_; clear LB25; intro s41 G41 LB25 RQ; have z42 := G41.size; replace E := grown_ext E G41 (by omega); replace NV := NV.grown G41 (by first | omega | (dsimp only [New]; omega)); replace NU := NU.grown G41 (by first | omega | (dsimp only [New]; omega)); replace NV2 := NV2.grown G41 (by first | omega | (dsimp only [New]; omega)); replace NU2 := NU2.grown G41 (by first | omega | (dsimp only [New]; omega)); replace NP := NP.grown G41 (by first | omega | (dsimp only [New]; omega)); replace NQ := NQ.grown G41 (by first | omega | (dsimp only [New]; omega)); replace LB23 := LB23.grown G41 (by omega); replace NS := NS.grown G41 (by first | omega | (dsimp only [New]; omega)); clear RB25; have RB25 := RQ; clear RQ hRl; clear RB25) | (refine loadsV (B := B23) (by rfl) rfl rfl LB23 ?_))
    clear LB23
    refine (cpk q _ NQ.is).mono ?_
    rintro e w94 ⟨t, rfl, hq, x⟩
    have NT := hq _ NQ
    have Ft := NT.is.flat
    clear hq
    have z43 := x.size
    replace E := E.trans x
    replace NV := NV.ext x
    replace NU := NU.ext x
    replace NV2 := NV2.ext x
    replace NU2 := NU2.ext x
    replace NP := NP.ext x
    replace NQ := NQ.ext x
    replace NS := NS.ext x
    replace LB25 := LB25.ext x
    clear x
    have TB27 : True := trivial
    have TG45 : True := trivial
    go_wp2_with (first | (clear TB27; refine allocsB rfl rfl ?_; intro B27 w27 bB27 cB27 XB27 LB27 RB27; have z44 := XB27.size; replace E := E.trans XB27; replace NV := NV.ext XB27; replace NU := NU.ext XB27; replace NV2 := NV2.ext XB27; replace NU2 := NU2.ext XB27; replace NP := NP.ext XB27; replace NQ := NQ.ext XB27; replace NS := NS.ext XB27; replace LB25 := LB25.ext XB27; replace NT := NT.ext XB27) | (clear TG45; have hRl := (RB27).lt (Nat.zero_lt_succ _); refine storesB (B := B27) rfl rfl rfl (v := t) rfl RB27 Ft ?_; clear LB27; intro s45 G45 LB27 RQ; have z46 := G45.size; replace E := grown_ext E G45 (by omega); replace NV := NV.grown G45 (by first | omega | (dsimp only [New]; omega)); replace NU := NU.grown G45 (by first | omega | (dsimp only [New]; omega)); replace NV2 := NV2.grown G45 (by first | omega | (dsimp only [New]; omega)); replace NU2 := NU2.grown G45 (by first | omega | (dsimp only [New]; omega)); replace NP := NP.grown G45 (by first | omega | (dsimp only [New]; omega)); replace NQ := NQ.grown G45 (by first | omega | (dsimp only [New]; omega)); replace NS := NS.grown G45 (by first | omega | (dsimp only [New]; omega)); replace LB25 := LB25.grown G45 (by omega); replace NT := NT.grown G45 (by first | omega | (dsimp only [New]; omega)); clear RB27; have RB27 := RQ; clear RQ hRl; clear RB27))
    try simp only [Act.put, List.setIfInBounds_toArray, List.set_cons_zero, List.set_cons_succ]
    have hq47 : s45.heap.size ≤ s45.drew.heap.size := Nat.le_refl _
    have z48 := (Ext.refl s45).drew.size
    replace E := E.trans (Ext.refl s45).drew
    replace NV := NV.ext (Ext.refl s45).drew
    replace NU := NU.ext (Ext.refl s45).drew
    replace NV2 := NV2.ext (Ext.refl s45).drew
    replace NU2 := NU2.ext (Ext.refl s45).drew
    replace NP := NP.ext (Ext.refl s45).drew
    replace NQ := NQ.ext (Ext.refl s45).drew
    replace NS := NS.ext (Ext.refl s45).drew
    replace LB25 := LB25.ext (Ext.refl s45).drew
    replace NT := NT.ext (Ext.refl s45).drew
    replace LB27 := LB27.ext (Ext.refl s45).drew
    refine wp_region_held_drew (S := (fun w' => Lay 2 w' B25 s ∧ Lay 2 w' B27 t)) (by kernel_rfl) ⟨LB25, LB27⟩ (fun hHeld => ?_)
    refine wpAnyH_take (i := 0) (oi := { dst := some 97, op := Go.Op.move (Go.Operand.tmp 22), type := 59, pos := "law.go:87", after := #[], guard := none }) (v := ?v49) rfl (by kernel_rfl) (by kernel_rfl) (by kernel_rfl) (fun _ _ _ h => h) (Or.inl ⟨by rfl, ?hy49⟩) hHeld ?rest49
    case hy49 => (intro w hSw; (try dsimp only at hSw); go_simp; (first | done | with_reducible rfl))
    try simp only [Act.put, List.setIfInBounds_toArray, List.set_cons_zero, List.set_cons_succ]
    refine wpAnyH_take (i := 1) (oi := { dst := some 98, op := Go.Op.move (Go.Operand.tmp 24), type := 59, pos := "law.go:87", after := #[], guard := none }) (v := ?v50) rfl (by kernel_rfl) (by kernel_rfl) (by kernel_rfl) (fun _ _ _ h => h) (Or.inl ⟨by rfl, ?hy50⟩) hHeld ?rest50
    case hy50 => (intro w hSw; (try dsimp only at hSw); go_simp; (first | done | with_reducible rfl))
    try simp only [Act.put, List.setIfInBounds_toArray, List.set_cons_zero, List.set_cons_succ]
    refine wpAnyH_take (i := 2) (oi := { dst := some 99, op := Go.Op.binOp Go.BinOp.eql 59 (Go.Operand.tmp 97) (Go.Operand.tmp 98) 59, type := 4, pos := "law.go:87", after := #[{ on := 0, ground := Go.Ground.data }, { on := 1, ground := Go.Ground.data }], guard := none }) (v := ?v51) rfl (by kernel_rfl) (by kernel_rfl) (by kernel_rfl) (fun _ _ _ h => h) (Or.inl ⟨by rfl, ?hy51⟩) hHeld ?rest51
    case hy51 => (intro w hSw; (try dsimp only at hSw); go_simp; (first | done | with_reducible rfl))
    try simp only [Act.put, List.setIfInBounds_toArray, List.set_cons_zero, List.set_cons_succ]
    refine wpAnyH_take (i := 3) (oi := { dst := some 100, op := Go.Op.move (Go.Operand.tmp 99), type := 4, pos := "law.go:87", after := #[{ on := 2, ground := Go.Ground.data }], guard := none }) (v := ?v52) rfl (by kernel_rfl) (by kernel_rfl) (by kernel_rfl) (fun _ _ _ h => h) (Or.inl ⟨by rfl, ?hy52⟩) hHeld ?rest52
    case hy52 => (intro w hSw; (try dsimp only at hSw); go_simp; (first | done | with_reducible rfl))
    try simp only [Act.put, List.setIfInBounds_toArray, List.set_cons_zero, List.set_cons_succ]
    refine wpAnyH_take (i := 4) (oi := { dst := some 101, op := Go.Op.load 28 (Go.Operand.tmp 25), type := 28, pos := "law.go:87", after := #[{ on := 3, ground := Go.Ground.guard }], guard := some (3, true) }) (v := s) rfl (by kernel_rfl) (by kernel_rfl) (by kernel_rfl) (fun _ _ _ h => h) (yieldB (by rfl) rfl rfl fun w' hx => hx.1) hHeld ?_
    try simp only [Act.put, List.setIfInBounds_toArray, List.set_cons_zero, List.set_cons_succ]
    refine wpAnyH_take (i := 6) (oi := { dst := some 103, op := Go.Op.load 28 (Go.Operand.tmp 27), type := 28, pos := "law.go:87", after := #[{ on := 3, ground := Go.Ground.guard }], guard := some (3, true) }) (v := t) rfl (by kernel_rfl) (by kernel_rfl) (by kernel_rfl) (fun _ _ _ h => h) (yieldB (by rfl) rfl rfl fun w' hx => hx.2) hHeld ?_
    try simp only [Act.put, List.setIfInBounds_toArray, List.set_cons_zero, List.set_cons_succ]
    refine wpAnyH_ready (rs := [5]) (by kernel_rfl) (by simp) ?_
    refine AllReadyH.cons (o := { dst := some 102, op := Go.Op.call { callee := Go.Callee.value (Go.Operand.func 40), args := #[Go.Operand.tmp 101], argTypes := #[28] }, type := 62, pos := "law.go:87", after := #[{ on := 4, ground := Go.Ground.data }, { on := 3, ground := Go.Ground.chain }, { on := 3, ground := Go.Ground.guard }], guard := some (3, true) }) rfl (fun K hK => ?_) (AllReadyH.nil)
    go_simp
    refine (cu0 s _ NS.is).mono ?_
    rintro e w102 ⟨R, cR, rfl, hq, x⟩
    have SR := SlS.all hq
    clear hq
    have z55 := x.size
    replace E := E.trans x
    replace NV := NV.ext x
    replace NU := NU.ext x
    replace NV2 := NV2.ext x
    replace NU2 := NU2.ext x
    replace NP := NP.ext x
    replace NQ := NQ.ext x
    replace NS := NS.ext x
    replace LB25 := LB25.ext x
    replace NT := NT.ext x
    replace LB27 := LB27.ext x
    clear x
    clear hHeld
    have hHeld := And.intro LB25 (LB27)
    refine hK.out _ _ hHeld (fun _ => ?_)
    clear hK K
    try simp only [Act.put, List.setIfInBounds_toArray, List.set_cons_zero, List.set_cons_succ]
    refine wpAnyH_ready (rs := [7]) (by kernel_rfl) (by simp) ?_
    refine AllReadyH.cons (o := { dst := some 104, op := Go.Op.call { callee := Go.Callee.value (Go.Operand.func 40), args := #[Go.Operand.tmp 103], argTypes := #[28] }, type := 62, pos := "law.go:87", after := #[{ on := 6, ground := Go.Ground.data }, { on := 5, ground := Go.Ground.chain }, { on := 3, ground := Go.Ground.guard }], guard := some (3, true) }) rfl (fun K hK => ?_) (AllReadyH.nil)
    go_simp
    refine (cu0 t _ NT.is).mono ?_
    rintro e w104 ⟨Q, cQ, rfl, hq, x⟩
    have SQ := SlS.all hq
    clear hq
    have z56 := x.size
    replace E := E.trans x
    replace NV := NV.ext x
    replace NU := NU.ext x
    replace NV2 := NV2.ext x
    replace NU2 := NU2.ext x
    replace NP := NP.ext x
    replace NQ := NQ.ext x
    replace NS := NS.ext x
    replace LB25 := LB25.ext x
    replace NT := NT.ext x
    replace LB27 := LB27.ext x
    replace SR := SR.ext x
    clear x
    clear hHeld
    have hHeld := And.intro LB25 (LB27)
    refine hK.out _ _ hHeld (fun _ => ?_)
    clear hK K
    try simp only [Act.put, List.setIfInBounds_toArray, List.set_cons_zero, List.set_cons_succ]
    refine wpAnyH_ready (rs := [8]) (by kernel_rfl) (by simp) ?_
    refine AllReadyH.cons (o := { dst := some 105, op := Go.Op.call { callee := Go.Callee.value (Go.Operand.func 39), args := #[Go.Operand.tmp 102, Go.Operand.tmp 104], argTypes := #[62, 62] }, type := 4, pos := "law.go:87", after := #[{ on := 5, ground := Go.Ground.data }, { on := 7, ground := Go.Ground.data }, { on := 7, ground := Go.Ground.chain }, { on := 3, ground := Go.Ground.guard }], guard := some (3, true) }) rfl (fun K hK => ?_) (AllReadyH.nil)
    go_simp
    refine (cb0 R Q cR cQ _ SR.is SQ.is).mono ?_
    rintro e w105 ⟨rfl, x⟩
    have z57 := x.size
    replace E := E.trans x
    replace NV := NV.ext x
    replace NU := NU.ext x
    replace NV2 := NV2.ext x
    replace NU2 := NU2.ext x
    replace NP := NP.ext x
    replace NQ := NQ.ext x
    replace NS := NS.ext x
    replace LB25 := LB25.ext x
    replace NT := NT.ext x
    replace LB27 := LB27.ext x
    replace SR := SR.ext x
    replace SQ := SQ.ext x
    clear x
    clear hHeld
    have hHeld := And.intro LB25 (LB27)
    refine hK.out _ _ hHeld (fun _ => ?_)
    clear hK K
    try simp only [Act.put, List.setIfInBounds_toArray, List.set_cons_zero, List.set_cons_succ]
    refine wpAnyH_take (i := 9) (oi := { dst := some 106, op := Go.Op.pick (Go.Operand.tmp 100) (Go.Operand.tmp 105) (Go.Operand.const (Go.Value.bool false)), type := 4, pos := "law.go:87", after := #[{ on := 3, ground := Go.Ground.data }, { on := 8, ground := Go.Ground.data }], guard := none }) (v := ?v58) rfl (by kernel_rfl) (by kernel_rfl) (by kernel_rfl) (fun _ _ _ h => h) (Or.inl ⟨by rfl, ?hy58⟩) hHeld ?rest58
    case hy58 => (intro w hSw; (try dsimp only at hSw); go_simp; (first | done | with_reducible rfl))
    try simp only [Act.put, List.setIfInBounds_toArray, List.set_cons_zero, List.set_cons_succ]
    refine wpAnyH_take (i := 10) (oi := { dst := some 107, op := Go.Op.move (Go.Operand.tmp 106), type := 4, pos := "law.go:87", after := #[{ on := 9, ground := Go.Ground.data }, { on := 8, ground := Go.Ground.chain }], guard := none }) (v := ?v59) rfl (by kernel_rfl) (by kernel_rfl) (by kernel_rfl) (fun _ _ _ h => h) (Or.inl ⟨by rfl, ?hy59⟩) hHeld ?rest59
    case hy59 => (intro w hSw; (try dsimp only at hSw); go_simp; (first | done | with_reducible rfl))
    try simp only [Act.put, List.setIfInBounds_toArray, List.set_cons_zero, List.set_cons_succ]
    refine wpAnyH_ready (rs := [11]) (by kernel_rfl) (by simp) ?_
    refine AllReadyH.cons (o := { dst := some 108, op := Go.Op.call { callee := Go.Callee.value (Go.Operand.func 46), args := #[], argTypes := #[] }, type := 4, pos := "law.go:87", after := #[{ on := 10, ground := Go.Ground.chain }, { on := 10, ground := Go.Ground.guard }], guard := some (10, true) }) rfl (fun K hK => ?_) (AllReadyH.nil)
    go_simp
    refine (rawake_any _).mono ?_
    rintro e w108 ⟨rfl, x⟩
    have z60 := x.size
    replace E := E.trans x
    replace NV := NV.ext x
    replace NU := NU.ext x
    replace NV2 := NV2.ext x
    replace NU2 := NU2.ext x
    replace NP := NP.ext x
    replace NQ := NQ.ext x
    replace NS := NS.ext x
    replace LB25 := LB25.ext x
    replace NT := NT.ext x
    replace LB27 := LB27.ext x
    replace SR := SR.ext x
    replace SQ := SQ.ext x
    clear x
    clear hHeld
    have hHeld := And.intro LB25 (LB27)
    refine hK.out _ _ hHeld (fun _ => ?_)
    clear hK K
    try simp only [Act.put, List.setIfInBounds_toArray, List.set_cons_zero, List.set_cons_succ]
    refine wpAnyH_take (i := 12) (oi := { dst := some 109, op := Go.Op.pick (Go.Operand.tmp 107) (Go.Operand.tmp 108) (Go.Operand.const (Go.Value.bool false)), type := 4, pos := "law.go:87", after := #[{ on := 10, ground := Go.Ground.data }, { on := 11, ground := Go.Ground.data }], guard := none }) (v := ?v61) rfl (by kernel_rfl) (by kernel_rfl) (by kernel_rfl) (fun _ _ _ h => h) (Or.inl ⟨by rfl, ?hy61⟩) hHeld ?rest61
    case hy61 => (intro w hSw; (try dsimp only at hSw); go_simp; (first | done | with_reducible rfl))
    try simp only [Act.put, List.setIfInBounds_toArray, List.set_cons_zero, List.set_cons_succ]
    refine wpAnyH_take (i := 13) (oi := { dst := some 10, op := Go.Op.assign (Go.Operand.tmp 109), type := 4, pos := "law.go:87", after := #[{ on := 12, ground := Go.Ground.data }, { on := 11, ground := Go.Ground.chain }, { on := 0, ground := Go.Ground.phase }, { on := 1, ground := Go.Ground.phase }, { on := 2, ground := Go.Ground.phase }, { on := 3, ground := Go.Ground.phase }, { on := 4, ground := Go.Ground.phase }, { on := 5, ground := Go.Ground.phase }, { on := 6, ground := Go.Ground.phase }, { on := 7, ground := Go.Ground.phase }, { on := 8, ground := Go.Ground.phase }, { on := 9, ground := Go.Ground.phase }, { on := 10, ground := Go.Ground.phase }, { on := 11, ground := Go.Ground.phase }, { on := 12, ground := Go.Ground.phase }], guard := none }) (v := ?v62) rfl (by kernel_rfl) (by kernel_rfl) (by kernel_rfl) (fun _ _ _ h => h) (Or.inl ⟨by rfl, ?hy62⟩) hHeld ?rest62
    case hy62 => (intro w hSw; (try dsimp only at hSw); go_simp; (first | done | with_reducible rfl))
    try simp only [Act.put, List.setIfInBounds_toArray, List.set_cons_zero, List.set_cons_succ]
    refine wpAnyH_done (by kernel_rfl) ?_ _
    go_wp2_with fail
    go_ret
    exact ⟨rfl, E⟩
  · rw [if_pos (by rfl)]
    refine allocV rfl ?_
    intro B16 w16 bB16 cB16 XB16 LB16 RB16
    have z63 := XB16.size
    replace E := E.trans XB16
    replace NV := NV.ext XB16
    replace LB11 := LB11.ext XB16
    replace NU := NU.ext XB16
    replace LB13 := LB13.ext XB16
    clear hHeld
    have hHeld := And.intro LB11 (LB13)
    refine hK.out _ _ hHeld (fun _ => ?_)
    clear hK K
    try simp only [Act.put, List.setIfInBounds_toArray, List.set_cons_zero, List.set_cons_succ]
    refine wpAnyH_ready (rs := [2]) (by kernel_rfl) (by simp) ?_
    refine AllReadyH.cons (o := { dst := some 15, op := Go.Op.alloc 34, type := 0, pos := "law.go:76", after := #[], guard := none }) rfl (fun K hK => ?_) (AllReadyH.nil)
    rw [if_pos (by rfl)]
    refine allocV rfl ?_
    intro B15 w15 bB15 cB15 XB15 LB15 RB15
    have z64 := XB15.size
    replace E := E.trans XB15
    replace NV := NV.ext XB15
    replace LB11 := LB11.ext XB15
    replace NU := NU.ext XB15
    replace LB13 := LB13.ext XB15
    replace LB16 := LB16.ext XB15
    replace RB16 := RB16.ext XB15
    clear hHeld
    have hHeld := And.intro LB11 (LB13)
    refine hK.out _ _ hHeld (fun _ => ?_)
    clear hK K
    try simp only [Act.put, List.setIfInBounds_toArray, List.set_cons_zero, List.set_cons_succ]
    refine wpAnyH_ready (rs := [4]) (by kernel_rfl) (by simp) ?_
    refine AllReadyH.cons (o := { dst := none, op := Go.Op.store 34 (Go.Operand.tmp 15) (Go.Operand.tmp 55), type := 0, pos := "law.go:76", after := #[{ on := 2, ground := Go.Ground.data }, { on := 0, ground := Go.Ground.data }, { on := 0, ground := Go.Ground.phase }, { on := 1, ground := Go.Ground.textOnly Go.Departure.lateStores }, { on := 2, ground := Go.Ground.phase }, { on := 3, ground := Go.Ground.phase }], guard := none }) rfl (fun K hK => ?_) (AllReadyH.nil)
    rw [if_pos (by rfl)]
    have hRl := (RB15).lt (Nat.zero_lt_succ _)
    refine storeV (by rfl) (by rfl) (v := v) (by rfl) RB15 Fv ?_
    clear LB15
    intro s65 G65 LB15 RQ
    have z66 := G65.size
    replace E := grown_ext E G65 (by omega)
    replace NV := NV.grown G65 (by first | omega | (dsimp only [New]; omega))
    replace LB11 := LB11.grown G65 (by omega)
    replace NU := NU.grown G65 (by first | omega | (dsimp only [New]; omega))
    replace LB13 := LB13.grown G65 (by omega)
    replace LB16 := LB16.grown G65 (by omega)
    replace RB16 := RB16.grown G65 (by omega)
    clear RB15
    have RB15 := RQ
    clear RQ hRl G65
    clear hHeld
    have hHeld := And.intro LB11 (LB13)
    refine hK.out _ _ hHeld (fun _ => ?_)
    clear hK K
    try simp only [Act.put]
    refine wpAnyH_ready (rs := [5]) (by kernel_rfl) (by simp) ?_
    refine AllReadyH.cons (o := { dst := none, op := Go.Op.store 34 (Go.Operand.tmp 16) (Go.Operand.tmp 56), type := 0, pos := "law.go:76", after := #[{ on := 3, ground := Go.Ground.data }, { on := 1, ground := Go.Ground.data }, { on := 4, ground := Go.Ground.chain }, { on := 0, ground := Go.Ground.phase }, { on := 1, ground := Go.Ground.phase }, { on := 2, ground := Go.Ground.phase }, { on := 3, ground := Go.Ground.phase }, { on := 4, ground := Go.Ground.phase }], guard := none }) rfl (fun K hK => ?_) (AllReadyH.nil)
    rw [if_pos (by rfl)]
    have hRl := (RB16).lt (Nat.zero_lt_succ _)
    refine storeV (by rfl) (by rfl) (v := u) (by rfl) RB16 Fu ?_
    clear LB16
    intro s67 G67 LB16 RQ
    have z68 := G67.size
    replace E := grown_ext E G67 (by omega)
    replace NV := NV.grown G67 (by first | omega | (dsimp only [New]; omega))
    replace LB11 := LB11.grown G67 (by omega)
    replace NU := NU.grown G67 (by first | omega | (dsimp only [New]; omega))
    replace LB13 := LB13.grown G67 (by omega)
    replace LB15 := LB15.grown G67 (by omega)
    replace RB15 := RB15.grown G67 (by omega)
    clear RB16
    have RB16 := RQ
    clear RQ hRl G67
    clear hHeld
    have hHeld := And.intro LB11 (LB13)
    refine hK.out _ _ hHeld (fun _ => ?_)
    clear hK K
    try simp only [Act.put]
    refine wpAnyH_done (by kernel_rfl) ?_ _
    go_wp2_with (refine loadsV (B := B11) (by rfl) rfl rfl LB11 ?_)
    refine (cij v _ NV.is).mono ?_
    rintro e w60 ⟨v2, rfl, hq, x⟩
    have NV2 := (hq _ NV).now
    have Fv2 := NV2.is.flat
    clear hq
    have z69 := x.size
    replace E := E.trans x
    replace NV := NV.ext x
    replace LB11 := LB11.ext x
    replace NU := NU.ext x
    replace LB13 := LB13.ext x
    replace LB16 := LB16.ext x
    replace RB16 := RB16.ext x
    replace LB15 := LB15.ext x
    replace RB15 := RB15.ext x
    clear x
    have TB17 : True := trivial
    have TG71 : True := trivial
    have TG73 : True := trivial
    go_wp2_with (first | (clear TB17; refine allocsV rfl rfl ?_; intro B17 w17 bB17 cB17 XB17 LB17 RB17; have z70 := XB17.size; replace E := E.trans XB17; replace NV := NV.ext XB17; replace LB11 := LB11.ext XB17; replace NU := NU.ext XB17; replace LB13 := LB13.ext XB17; replace LB16 := LB16.ext XB17; replace RB16 := RB16.ext XB17; replace LB15 := LB15.ext XB17; replace RB15 := RB15.ext XB17; replace NV2 := NV2.ext XB17) | (clear TG71; have hRl := (RB17).lt (Nat.zero_lt_succ _); refine storesV (B := B17) rfl rfl rfl (v := v2) rfl RB17 Fv2 ?_; clear LB17; intro s71 G71 LB17 RQ; have z72 := G71.size; replace E := grown_ext E G71 (by omega); replace NV := NV.grown G71 (by first | omega | (dsimp only [New]; omega)); replace LB11 := LB11.grown G71 (by omega); replace NU := NU.grown G71 (by first | omega | (dsimp only [New]; omega)); replace LB13 := LB13.grown G71 (by omega); replace LB16 := LB16.grown G71 (by omega); replace RB16 := RB16.grown G71 (by omega); replace LB15 := LB15.grown G71 (by omega); replace RB15 := RB15.grown G71 (by omega); replace NV2 := NV2.grown G71 (by first | omega | (dsimp only [New]; omega)); clear RB17; have RB17 := RQ; clear RQ hRl; clear RB17) | (refine loadsV (B := B17) (by rfl) rfl rfl LB17 ?_) | (clear TG73; have hRl := (RB15).lt (Nat.zero_lt_succ _); refine storesV (B := B15) rfl rfl rfl (v := v2) rfl RB15 Fv2 ?_; clear LB15; intro s73 G73 LB15 RQ; have z74 := G73.size; replace E := grown_ext E G73 (by omega); replace NV := NV.grown G73 (by first | omega | (dsimp only [New]; omega)); replace LB11 := LB11.grown G73 (by omega); replace NU := NU.grown G73 (by first | omega | (dsimp only [New]; omega)); replace LB13 := LB13.grown G73 (by omega); replace LB16 := LB16.grown G73 (by omega); replace RB16 := RB16.grown G73 (by omega); replace NV2 := NV2.grown G73 (by first | omega | (dsimp only [New]; omega)); replace LB17 := LB17.grown G73 (by omega); clear RB15; have RB15 := RQ; clear RQ hRl; clear RB15) | (refine loadsV (B := B13) (by rfl) rfl rfl LB13 ?_))
    clear LB17
    refine (cik u _ NU.is).mono ?_
    rintro e w68 ⟨u2, rfl, hq, x⟩
    have NU2 := (hq _ NU).now
    have Fu2 := NU2.is.flat
    clear hq
    have z75 := x.size
    replace E := E.trans x
    replace NV := NV.ext x
    replace LB11 := LB11.ext x
    replace NU := NU.ext x
    replace LB13 := LB13.ext x
    replace LB16 := LB16.ext x
    replace RB16 := RB16.ext x
    replace LB15 := LB15.ext x
    replace NV2 := NV2.ext x
    clear x
    have TB19 : True := trivial
    have TG77 : True := trivial
    have TG79 : True := trivial
    go_wp2_with (first | (clear TB19; refine allocsV rfl rfl ?_; intro B19 w19 bB19 cB19 XB19 LB19 RB19; have z76 := XB19.size; replace E := E.trans XB19; replace NV := NV.ext XB19; replace LB11 := LB11.ext XB19; replace NU := NU.ext XB19; replace LB13 := LB13.ext XB19; replace LB16 := LB16.ext XB19; replace RB16 := RB16.ext XB19; replace LB15 := LB15.ext XB19; replace NV2 := NV2.ext XB19; replace NU2 := NU2.ext XB19) | (clear TG77; have hRl := (RB19).lt (Nat.zero_lt_succ _); refine storesV (B := B19) rfl rfl rfl (v := u2) rfl RB19 Fu2 ?_; clear LB19; intro s77 G77 LB19 RQ; have z78 := G77.size; replace E := grown_ext E G77 (by omega); replace NV := NV.grown G77 (by first | omega | (dsimp only [New]; omega)); replace LB11 := LB11.grown G77 (by omega); replace NU := NU.grown G77 (by first | omega | (dsimp only [New]; omega)); replace LB13 := LB13.grown G77 (by omega); replace LB16 := LB16.grown G77 (by omega); replace RB16 := RB16.grown G77 (by omega); replace LB15 := LB15.grown G77 (by omega); replace NV2 := NV2.grown G77 (by first | omega | (dsimp only [New]; omega)); replace NU2 := NU2.grown G77 (by first | omega | (dsimp only [New]; omega)); clear RB19; have RB19 := RQ; clear RQ hRl; clear RB19) | (refine loadsV (B := B19) (by rfl) rfl rfl LB19 ?_) | (clear TG79; have hRl := (RB16).lt (Nat.zero_lt_succ _); refine storesV (B := B16) rfl rfl rfl (v := u2) rfl RB16 Fu2 ?_; clear LB16; intro s79 G79 LB16 RQ; have z80 := G79.size; replace E := grown_ext E G79 (by omega); replace NV := NV.grown G79 (by first | omega | (dsimp only [New]; omega)); replace LB11 := LB11.grown G79 (by omega); replace NU := NU.grown G79 (by first | omega | (dsimp only [New]; omega)); replace LB13 := LB13.grown G79 (by omega); replace LB15 := LB15.grown G79 (by omega); replace NV2 := NV2.grown G79 (by first | omega | (dsimp only [New]; omega)); replace NU2 := NU2.grown G79 (by first | omega | (dsimp only [New]; omega)); replace LB19 := LB19.grown G79 (by omega); clear RB16; have RB16 := RQ; clear RQ hRl; clear RB16) | (refine loadsV (B := B11) (by rfl) rfl rfl LB11 ?_) | (refine loadsV (B := B13) (by rfl) rfl rfl LB13 ?_))
    clear LB11 LB13 LB19
    refine (cap v u _ _ _ NV.is NU.is).mono ?_
    rintro e w77 ⟨p, rfl, hq, x⟩
    have NP := hq.now
    have Fp := NP.is.flat
    clear hq
    have z81 := x.size
    replace E := E.trans x
    replace NV := NV.ext x
    replace NU := NU.ext x
    replace LB16 := LB16.ext x
    replace LB15 := LB15.ext x
    replace NV2 := NV2.ext x
    replace NU2 := NU2.ext x
    clear x
    have TB21 : True := trivial
    have TG83 : True := trivial
    go_wp2_with (first | (clear TB21; refine allocsV rfl rfl ?_; intro B21 w21 bB21 cB21 XB21 LB21 RB21; have z82 := XB21.size; replace E := E.trans XB21; replace NV := NV.ext XB21; replace NU := NU.ext XB21; replace LB16 := LB16.ext XB21; replace LB15 := LB15.ext XB21; replace NV2 := NV2.ext XB21; replace NU2 := NU2.ext XB21; replace NP := NP.ext XB21) | (clear TG83; have hRl := (RB21).lt (Nat.zero_lt_succ _); refine storesV (B := B21) rfl rfl rfl (v := p) rfl RB21 Fp ?_; clear LB21; intro s83 G83 LB21 RQ; have z84 := G83.size; replace E := grown_ext E G83 (by omega); replace NV := NV.grown G83 (by first | omega | (dsimp only [New]; omega)); replace NU := NU.grown G83 (by first | omega | (dsimp only [New]; omega)); replace LB16 := LB16.grown G83 (by omega); replace LB15 := LB15.grown G83 (by omega); replace NV2 := NV2.grown G83 (by first | omega | (dsimp only [New]; omega)); replace NU2 := NU2.grown G83 (by first | omega | (dsimp only [New]; omega)); replace NP := NP.grown G83 (by first | omega | (dsimp only [New]; omega)); clear RB21; have RB21 := RQ; clear RQ hRl; clear RB21) | (refine loadsV (B := B15) (by rfl) rfl rfl LB15 ?_) | (refine loadsV (B := B16) (by rfl) rfl rfl LB16 ?_))
    clear LB16 LB15
    refine (cap v2 u2 _ _ _ NV2.is NU2.is).mono ?_
    rintro e w84 ⟨q, rfl, hq, x⟩
    have NQ := hq.now
    have Fq := NQ.is.flat
    clear hq
    have z85 := x.size
    replace E := E.trans x
    replace NV := NV.ext x
    replace NU := NU.ext x
    replace NV2 := NV2.ext x
    replace NU2 := NU2.ext x
    replace NP := NP.ext x
    replace LB21 := LB21.ext x
    clear x
    have TB23 : True := trivial
    have TG87 : True := trivial
    go_wp2_with (first | (clear TB23; refine allocsV rfl rfl ?_; intro B23 w23 bB23 cB23 XB23 LB23 RB23; have z86 := XB23.size; replace E := E.trans XB23; replace NV := NV.ext XB23; replace NU := NU.ext XB23; replace NV2 := NV2.ext XB23; replace NU2 := NU2.ext XB23; replace NP := NP.ext XB23; replace LB21 := LB21.ext XB23; replace NQ := NQ.ext XB23) | (clear TG87; have hRl := (RB23).lt (Nat.zero_lt_succ _); refine storesV (B := B23) rfl rfl rfl (v := q) rfl RB23 Fq ?_; clear LB23; intro s87 G87 LB23 RQ; have z88 := G87.size; replace E := grown_ext E G87 (by omega); replace NV := NV.grown G87 (by first | omega | (dsimp only [New]; omega)); replace NU := NU.grown G87 (by first | omega | (dsimp only [New]; omega)); replace NV2 := NV2.grown G87 (by first | omega | (dsimp only [New]; omega)); replace NU2 := NU2.grown G87 (by first | omega | (dsimp only [New]; omega)); replace NP := NP.grown G87 (by first | omega | (dsimp only [New]; omega)); replace LB21 := LB21.grown G87 (by omega); replace NQ := NQ.grown G87 (by first | omega | (dsimp only [New]; omega)); clear RB23; have RB23 := RQ; clear RQ hRl; clear RB23) | (refine loadsV (B := B21) (by rfl) rfl rfl LB21 ?_))
    clear LB21
    refine (cpk p _ NP.is).mono ?_
    rintro e w89 ⟨s, rfl, hq, x⟩
    have NS := hq _ NP
    have Fs := NS.is.flat
    clear hq
    have z89 := x.size
    replace E := E.trans x
    replace NV := NV.ext x
    replace NU := NU.ext x
    replace NV2 := NV2.ext x
    replace NU2 := NU2.ext x
    replace NP := NP.ext x
    replace NQ := NQ.ext x
    replace LB23 := LB23.ext x
    clear x
    have TB25 : True := trivial
    have TG91 : True := trivial
    go_wp2_with (first | (clear TB25; refine allocsB rfl rfl ?_; intro B25 w25 bB25 cB25 XB25 LB25 RB25; have z90 := XB25.size; replace E := E.trans XB25; replace NV := NV.ext XB25; replace NU := NU.ext XB25; replace NV2 := NV2.ext XB25; replace NU2 := NU2.ext XB25; replace NP := NP.ext XB25; replace NQ := NQ.ext XB25; replace LB23 := LB23.ext XB25; replace NS := NS.ext XB25) | (clear TG91; have hRl := (RB25).lt (Nat.zero_lt_succ _); refine storesB (B := B25) rfl rfl rfl (v := s) rfl RB25 Fs ?_; clear LB25; intro s91 G91 LB25 RQ; have z92 := G91.size; replace E := grown_ext E G91 (by omega); replace NV := NV.grown G91 (by first | omega | (dsimp only [New]; omega)); replace NU := NU.grown G91 (by first | omega | (dsimp only [New]; omega)); replace NV2 := NV2.grown G91 (by first | omega | (dsimp only [New]; omega)); replace NU2 := NU2.grown G91 (by first | omega | (dsimp only [New]; omega)); replace NP := NP.grown G91 (by first | omega | (dsimp only [New]; omega)); replace NQ := NQ.grown G91 (by first | omega | (dsimp only [New]; omega)); replace LB23 := LB23.grown G91 (by omega); replace NS := NS.grown G91 (by first | omega | (dsimp only [New]; omega)); clear RB25; have RB25 := RQ; clear RQ hRl; clear RB25) | (refine loadsV (B := B23) (by rfl) rfl rfl LB23 ?_))
    clear LB23
    refine (cpk q _ NQ.is).mono ?_
    rintro e w94 ⟨t, rfl, hq, x⟩
    have NT := hq _ NQ
    have Ft := NT.is.flat
    clear hq
    have z93 := x.size
    replace E := E.trans x
    replace NV := NV.ext x
    replace NU := NU.ext x
    replace NV2 := NV2.ext x
    replace NU2 := NU2.ext x
    replace NP := NP.ext x
    replace NQ := NQ.ext x
    replace NS := NS.ext x
    replace LB25 := LB25.ext x
    clear x
    have TB27 : True := trivial
    have TG95 : True := trivial
    go_wp2_with (first | (clear TB27; refine allocsB rfl rfl ?_; intro B27 w27 bB27 cB27 XB27 LB27 RB27; have z94 := XB27.size; replace E := E.trans XB27; replace NV := NV.ext XB27; replace NU := NU.ext XB27; replace NV2 := NV2.ext XB27; replace NU2 := NU2.ext XB27; replace NP := NP.ext XB27; replace NQ := NQ.ext XB27; replace NS := NS.ext XB27; replace LB25 := LB25.ext XB27; replace NT := NT.ext XB27) | (clear TG95; have hRl := (RB27).lt (Nat.zero_lt_succ _); refine storesB (B := B27) rfl rfl rfl (v := t) rfl RB27 Ft ?_; clear LB27; intro s95 G95 LB27 RQ; have z96 := G95.size; replace E := grown_ext E G95 (by omega); replace NV := NV.grown G95 (by first | omega | (dsimp only [New]; omega)); replace NU := NU.grown G95 (by first | omega | (dsimp only [New]; omega)); replace NV2 := NV2.grown G95 (by first | omega | (dsimp only [New]; omega)); replace NU2 := NU2.grown G95 (by first | omega | (dsimp only [New]; omega)); replace NP := NP.grown G95 (by first | omega | (dsimp only [New]; omega)); replace NQ := NQ.grown G95 (by first | omega | (dsimp only [New]; omega)); replace NS := NS.grown G95 (by first | omega | (dsimp only [New]; omega)); replace LB25 := LB25.grown G95 (by omega); replace NT := NT.grown G95 (by first | omega | (dsimp only [New]; omega)); clear RB27; have RB27 := RQ; clear RQ hRl; clear RB27))
    try simp only [Act.put, List.setIfInBounds_toArray, List.set_cons_zero, List.set_cons_succ]
    have hq97 : s95.heap.size ≤ s95.drew.heap.size := Nat.le_refl _
    have z98 := (Ext.refl s95).drew.size
    replace E := E.trans (Ext.refl s95).drew
    replace NV := NV.ext (Ext.refl s95).drew
    replace NU := NU.ext (Ext.refl s95).drew
    replace NV2 := NV2.ext (Ext.refl s95).drew
    replace NU2 := NU2.ext (Ext.refl s95).drew
    replace NP := NP.ext (Ext.refl s95).drew
    replace NQ := NQ.ext (Ext.refl s95).drew
    replace NS := NS.ext (Ext.refl s95).drew
    replace LB25 := LB25.ext (Ext.refl s95).drew
    replace NT := NT.ext (Ext.refl s95).drew
    replace LB27 := LB27.ext (Ext.refl s95).drew
    refine wp_region_held_drew (S := (fun w' => Lay 2 w' B25 s ∧ Lay 2 w' B27 t)) (by kernel_rfl) ⟨LB25, LB27⟩ (fun hHeld => ?_)
    refine wpAnyH_take (i := 0) (oi := { dst := some 97, op := Go.Op.move (Go.Operand.tmp 22), type := 59, pos := "law.go:87", after := #[], guard := none }) (v := ?v99) rfl (by kernel_rfl) (by kernel_rfl) (by kernel_rfl) (fun _ _ _ h => h) (Or.inl ⟨by rfl, ?hy99⟩) hHeld ?rest99
    case hy99 => (intro w hSw; (try dsimp only at hSw); go_simp; (first | done | with_reducible rfl))
    try simp only [Act.put, List.setIfInBounds_toArray, List.set_cons_zero, List.set_cons_succ]
    refine wpAnyH_take (i := 1) (oi := { dst := some 98, op := Go.Op.move (Go.Operand.tmp 24), type := 59, pos := "law.go:87", after := #[], guard := none }) (v := ?v100) rfl (by kernel_rfl) (by kernel_rfl) (by kernel_rfl) (fun _ _ _ h => h) (Or.inl ⟨by rfl, ?hy100⟩) hHeld ?rest100
    case hy100 => (intro w hSw; (try dsimp only at hSw); go_simp; (first | done | with_reducible rfl))
    try simp only [Act.put, List.setIfInBounds_toArray, List.set_cons_zero, List.set_cons_succ]
    refine wpAnyH_take (i := 2) (oi := { dst := some 99, op := Go.Op.binOp Go.BinOp.eql 59 (Go.Operand.tmp 97) (Go.Operand.tmp 98) 59, type := 4, pos := "law.go:87", after := #[{ on := 0, ground := Go.Ground.data }, { on := 1, ground := Go.Ground.data }], guard := none }) (v := ?v101) rfl (by kernel_rfl) (by kernel_rfl) (by kernel_rfl) (fun _ _ _ h => h) (Or.inl ⟨by rfl, ?hy101⟩) hHeld ?rest101
    case hy101 => (intro w hSw; (try dsimp only at hSw); go_simp; (first | done | with_reducible rfl))
    try simp only [Act.put, List.setIfInBounds_toArray, List.set_cons_zero, List.set_cons_succ]
    refine wpAnyH_take (i := 3) (oi := { dst := some 100, op := Go.Op.move (Go.Operand.tmp 99), type := 4, pos := "law.go:87", after := #[{ on := 2, ground := Go.Ground.data }], guard := none }) (v := ?v102) rfl (by kernel_rfl) (by kernel_rfl) (by kernel_rfl) (fun _ _ _ h => h) (Or.inl ⟨by rfl, ?hy102⟩) hHeld ?rest102
    case hy102 => (intro w hSw; (try dsimp only at hSw); go_simp; (first | done | with_reducible rfl))
    try simp only [Act.put, List.setIfInBounds_toArray, List.set_cons_zero, List.set_cons_succ]
    refine wpAnyH_take (i := 4) (oi := { dst := some 101, op := Go.Op.load 28 (Go.Operand.tmp 25), type := 28, pos := "law.go:87", after := #[{ on := 3, ground := Go.Ground.guard }], guard := some (3, true) }) (v := s) rfl (by kernel_rfl) (by kernel_rfl) (by kernel_rfl) (fun _ _ _ h => h) (yieldB (by rfl) rfl rfl fun w' hx => hx.1) hHeld ?_
    try simp only [Act.put, List.setIfInBounds_toArray, List.set_cons_zero, List.set_cons_succ]
    refine wpAnyH_take (i := 6) (oi := { dst := some 103, op := Go.Op.load 28 (Go.Operand.tmp 27), type := 28, pos := "law.go:87", after := #[{ on := 3, ground := Go.Ground.guard }], guard := some (3, true) }) (v := t) rfl (by kernel_rfl) (by kernel_rfl) (by kernel_rfl) (fun _ _ _ h => h) (yieldB (by rfl) rfl rfl fun w' hx => hx.2) hHeld ?_
    try simp only [Act.put, List.setIfInBounds_toArray, List.set_cons_zero, List.set_cons_succ]
    refine wpAnyH_ready (rs := [5]) (by kernel_rfl) (by simp) ?_
    refine AllReadyH.cons (o := { dst := some 102, op := Go.Op.call { callee := Go.Callee.value (Go.Operand.func 40), args := #[Go.Operand.tmp 101], argTypes := #[28] }, type := 62, pos := "law.go:87", after := #[{ on := 4, ground := Go.Ground.data }, { on := 3, ground := Go.Ground.chain }, { on := 3, ground := Go.Ground.guard }], guard := some (3, true) }) rfl (fun K hK => ?_) (AllReadyH.nil)
    go_simp
    refine (cu0 s _ NS.is).mono ?_
    rintro e w102 ⟨R, cR, rfl, hq, x⟩
    have SR := SlS.all hq
    clear hq
    have z105 := x.size
    replace E := E.trans x
    replace NV := NV.ext x
    replace NU := NU.ext x
    replace NV2 := NV2.ext x
    replace NU2 := NU2.ext x
    replace NP := NP.ext x
    replace NQ := NQ.ext x
    replace NS := NS.ext x
    replace LB25 := LB25.ext x
    replace NT := NT.ext x
    replace LB27 := LB27.ext x
    clear x
    clear hHeld
    have hHeld := And.intro LB25 (LB27)
    refine hK.out _ _ hHeld (fun _ => ?_)
    clear hK K
    try simp only [Act.put, List.setIfInBounds_toArray, List.set_cons_zero, List.set_cons_succ]
    refine wpAnyH_ready (rs := [7]) (by kernel_rfl) (by simp) ?_
    refine AllReadyH.cons (o := { dst := some 104, op := Go.Op.call { callee := Go.Callee.value (Go.Operand.func 40), args := #[Go.Operand.tmp 103], argTypes := #[28] }, type := 62, pos := "law.go:87", after := #[{ on := 6, ground := Go.Ground.data }, { on := 5, ground := Go.Ground.chain }, { on := 3, ground := Go.Ground.guard }], guard := some (3, true) }) rfl (fun K hK => ?_) (AllReadyH.nil)
    go_simp
    refine (cu0 t _ NT.is).mono ?_
    rintro e w104 ⟨Q, cQ, rfl, hq, x⟩
    have SQ := SlS.all hq
    clear hq
    have z106 := x.size
    replace E := E.trans x
    replace NV := NV.ext x
    replace NU := NU.ext x
    replace NV2 := NV2.ext x
    replace NU2 := NU2.ext x
    replace NP := NP.ext x
    replace NQ := NQ.ext x
    replace NS := NS.ext x
    replace LB25 := LB25.ext x
    replace NT := NT.ext x
    replace LB27 := LB27.ext x
    replace SR := SR.ext x
    clear x
    clear hHeld
    have hHeld := And.intro LB25 (LB27)
    refine hK.out _ _ hHeld (fun _ => ?_)
    clear hK K
    try simp only [Act.put, List.setIfInBounds_toArray, List.set_cons_zero, List.set_cons_succ]
    refine wpAnyH_ready (rs := [8]) (by kernel_rfl) (by simp) ?_
    refine AllReadyH.cons (o := { dst := some 105, op := Go.Op.call { callee := Go.Callee.value (Go.Operand.func 39), args := #[Go.Operand.tmp 102, Go.Operand.tmp 104], argTypes := #[62, 62] }, type := 4, pos := "law.go:87", after := #[{ on := 5, ground := Go.Ground.data }, { on := 7, ground := Go.Ground.data }, { on := 7, ground := Go.Ground.chain }, { on := 3, ground := Go.Ground.guard }], guard := some (3, true) }) rfl (fun K hK => ?_) (AllReadyH.nil)
    go_simp
    refine (cb0 R Q cR cQ _ SR.is SQ.is).mono ?_
    rintro e w105 ⟨rfl, x⟩
    have z107 := x.size
    replace E := E.trans x
    replace NV := NV.ext x
    replace NU := NU.ext x
    replace NV2 := NV2.ext x
    replace NU2 := NU2.ext x
    replace NP := NP.ext x
    replace NQ := NQ.ext x
    replace NS := NS.ext x
    replace LB25 := LB25.ext x
    replace NT := NT.ext x
    replace LB27 := LB27.ext x
    replace SR := SR.ext x
    replace SQ := SQ.ext x
    clear x
    clear hHeld
    have hHeld := And.intro LB25 (LB27)
    refine hK.out _ _ hHeld (fun _ => ?_)
    clear hK K
    try simp only [Act.put, List.setIfInBounds_toArray, List.set_cons_zero, List.set_cons_succ]
    refine wpAnyH_take (i := 9) (oi := { dst := some 106, op := Go.Op.pick (Go.Operand.tmp 100) (Go.Operand.tmp 105) (Go.Operand.const (Go.Value.bool false)), type := 4, pos := "law.go:87", after := #[{ on := 3, ground := Go.Ground.data }, { on := 8, ground := Go.Ground.data }], guard := none }) (v := ?v108) rfl (by kernel_rfl) (by kernel_rfl) (by kernel_rfl) (fun _ _ _ h => h) (Or.inl ⟨by rfl, ?hy108⟩) hHeld ?rest108
    case hy108 => (intro w hSw; (try dsimp only at hSw); go_simp; (first | done | with_reducible rfl))
    try simp only [Act.put, List.setIfInBounds_toArray, List.set_cons_zero, List.set_cons_succ]
    refine wpAnyH_take (i := 10) (oi := { dst := some 107, op := Go.Op.move (Go.Operand.tmp 106), type := 4, pos := "law.go:87", after := #[{ on := 9, ground := Go.Ground.data }, { on := 8, ground := Go.Ground.chain }], guard := none }) (v := ?v109) rfl (by kernel_rfl) (by kernel_rfl) (by kernel_rfl) (fun _ _ _ h => h) (Or.inl ⟨by rfl, ?hy109⟩) hHeld ?rest109
    case hy109 => (intro w hSw; (try dsimp only at hSw); go_simp; (first | done | with_reducible rfl))
    try simp only [Act.put, List.setIfInBounds_toArray, List.set_cons_zero, List.set_cons_succ]
    refine wpAnyH_ready (rs := [11]) (by kernel_rfl) (by simp) ?_
    refine AllReadyH.cons (o := { dst := some 108, op := Go.Op.call { callee := Go.Callee.value (Go.Operand.func 46), args := #[], argTypes := #[] }, type := 4, pos := "law.go:87", after := #[{ on := 10, ground := Go.Ground.chain }, { on := 10, ground := Go.Ground.guard }], guard := some (10, true) }) rfl (fun K hK => ?_) (AllReadyH.nil)
    go_simp
    refine (rawake_any _).mono ?_
    rintro e w108 ⟨rfl, x⟩
    have z110 := x.size
    replace E := E.trans x
    replace NV := NV.ext x
    replace NU := NU.ext x
    replace NV2 := NV2.ext x
    replace NU2 := NU2.ext x
    replace NP := NP.ext x
    replace NQ := NQ.ext x
    replace NS := NS.ext x
    replace LB25 := LB25.ext x
    replace NT := NT.ext x
    replace LB27 := LB27.ext x
    replace SR := SR.ext x
    replace SQ := SQ.ext x
    clear x
    clear hHeld
    have hHeld := And.intro LB25 (LB27)
    refine hK.out _ _ hHeld (fun _ => ?_)
    clear hK K
    try simp only [Act.put, List.setIfInBounds_toArray, List.set_cons_zero, List.set_cons_succ]
    refine wpAnyH_take (i := 12) (oi := { dst := some 109, op := Go.Op.pick (Go.Operand.tmp 107) (Go.Operand.tmp 108) (Go.Operand.const (Go.Value.bool false)), type := 4, pos := "law.go:87", after := #[{ on := 10, ground := Go.Ground.data }, { on := 11, ground := Go.Ground.data }], guard := none }) (v := ?v111) rfl (by kernel_rfl) (by kernel_rfl) (by kernel_rfl) (fun _ _ _ h => h) (Or.inl ⟨by rfl, ?hy111⟩) hHeld ?rest111
    case hy111 => (intro w hSw; (try dsimp only at hSw); go_simp; (first | done | with_reducible rfl))
    try simp only [Act.put, List.setIfInBounds_toArray, List.set_cons_zero, List.set_cons_succ]
    refine wpAnyH_take (i := 13) (oi := { dst := some 10, op := Go.Op.assign (Go.Operand.tmp 109), type := 4, pos := "law.go:87", after := #[{ on := 12, ground := Go.Ground.data }, { on := 11, ground := Go.Ground.chain }, { on := 0, ground := Go.Ground.phase }, { on := 1, ground := Go.Ground.phase }, { on := 2, ground := Go.Ground.phase }, { on := 3, ground := Go.Ground.phase }, { on := 4, ground := Go.Ground.phase }, { on := 5, ground := Go.Ground.phase }, { on := 6, ground := Go.Ground.phase }, { on := 7, ground := Go.Ground.phase }, { on := 8, ground := Go.Ground.phase }, { on := 9, ground := Go.Ground.phase }, { on := 10, ground := Go.Ground.phase }, { on := 11, ground := Go.Ground.phase }, { on := 12, ground := Go.Ground.phase }], guard := none }) (v := ?v112) rfl (by kernel_rfl) (by kernel_rfl) (by kernel_rfl) (fun _ _ _ h => h) (Or.inl ⟨by rfl, ?hy112⟩) hHeld ?rest112
    case hy112 => (intro w hSw; (try dsimp only at hSw); go_simp; (first | done | with_reducible rfl))
    try simp only [Act.put, List.setIfInBounds_toArray, List.set_cons_zero, List.set_cons_succ]
    refine wpAnyH_done (by kernel_rfl) ?_ _
    go_wp2_with fail
    go_ret
    exact ⟨rfl, E⟩
end
theorem relateStores_walk (w : World) (f : Int) (_ : (Lit.int .i64 f).wf = true) (A : Option Addr) (a : List Nat) (c : Nat) (_ : a.length ≤ c) (_ : c ≤ maxLen) (hs : Sl w 1 A a.length (a.map fun x => .float .f64 x)) (hw : ∀ x ∈ a, (Lit.float .f64 x).wf = true) (B : Option Addr) (b : List Nat) (c' : Nat) (_ : b.length ≤ c') (_ : c' ≤ maxLen) (hs' : Sl w 1 B b.length (b.map fun x => .float .f64 x)) (hw' : ∀ x ∈ b, (Lit.float .f64 x).wf = true) (j : Int) (_ : (Lit.int .i64 j).wf = true) (k : Int) (_ : (Lit.int .i64 k).wf = true) :
    Calls Try.prog 11 #[.int .i64 f, .slice A a.length c, .slice B b.length c', .int .i64 j, .int .i64 k] w fun e w' => e = .returned (.bool true) ∧ Ext w w' := by
  have hwa : ∀ x ∈ a, x < 18446744073709551616 := fun x hx => by have := hw x hx; simpa [Lit.wf] using this
  have hwb : ∀ x ∈ b, x < 18446744073709551616 := fun x hx => by have := hw' x hx; simpa [Lit.wf] using this
  by_cases h3 : a.length ≤ 300
  · by_cases h4 : b.length ≤ 300
    · cases hfa : allF a
      · exact relateStores_no1 w f A a a.length c B b b.length c' j k rfl rfl hwa hwb h3 h4 hs hs' hfa
      · cases hfb : allF b
        · exact relateStores_no2 w f A a a.length c B b b.length c' j k rfl rfl hwa hwb h3 h4 hs hs' hfa hfb
        · cases hj : fitsL (dnL a) j <;> cases hk : fitsL (dnL b) k
          · exact relateStores_00 w f A a a.length c B b b.length c' j k rfl rfl hwa hwb h3 h4 hs hs' hfa hfb hj hk
          · exact relateStores_01 w f A a a.length c B b b.length c' j k rfl rfl hwa hwb h3 h4 hs hs' hfa hfb hj hk
          · exact relateStores_10 w f A a a.length c B b b.length c' j k rfl rfl hwa hwb h3 h4 hs hs' hfa hfb hj hk
          · exact relateStores_11 w f A a a.length c B b b.length c' j k rfl rfl hwa hwb h3 h4 hs hs' hfa hfb hj hk
    · exact relateStores_long2 w f A a.length c B b.length c' j k h3 (by omega)
  · exact relateStores_long1 w f A a.length c B b.length c' j k (by omega)
end Go.Proofs.Ytdfhefnjoekgbaa
