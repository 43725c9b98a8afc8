/- relate.spread, numbers, chars. -/
import Derived.Test.YtdfhefnjoekgbaaRj
import Derived.Test.YtdfhefnjoekgbaaRf
import Derived.Test.YtdfhefnjoekgbaaRr
namespace Go.Proofs.Ytdfhefnjoekgbaa
open Go.ChangeShapes Go.WideShapes Go.RowKit Bv Fl
set_option maxHeartbeats 2000000
set_option maxRecDepth 100000
/-- truths, told as often as wanted -/
def SprY (v : Value) (x : List Bool) (N : Nat) (w : World) (e : Ending) (w' : World) : Prop := ∃ q, e = .returned (.tuple #[q, .bool true]) ∧ (∀ S, VecS w v (VD.bits x) S → BitS w' q (sprL x N) (fun i => S i ∨ New w.heap.size i)) ∧ Ext w w'
theorem spread_no (v : Value) (d : VD) (hk : d.kind ≠ 1) (N : Int) (w : World) (h : IsVec w v d) : Calls Try.prog 79 #[v, .int .i64 N] w fun e w' => e = .returned (.tuple #[zeroBits, .bool false]) ∧ Ext w w' := by
  have hF := h.flat
  have cp : ∀ w', Ext w w' → Calls Try.prog 36 #[v] w' fun e w2 => e = .returned (.tuple #[zeroBits, .bool false]) ∧ Ext w' w2 := fun w' hx => vpacked_none v d w' (h.ext hx) hk
  clear h hk
  have E := Ext.refl w
  go_enter Try.func79, Try.ntmps79
  have TB2 : True := trivial
  have TB4 : True := trivial
  go_wp2_with (first | (clear TB2; refine boxsV (v := v) rfl rfl rfl hF ?_; intro B2 w2 bB2 cB2 XB2 LB2 RB2; have z1 := XB2.size; replace E := E.trans XB2; clear RB2) | (clear TB4; refine allocsB rfl rfl ?_; intro B4 w4 bB4 cB4 XB4 LB4 RB4; have z2 := XB4.size; replace E := E.trans XB4; replace LB2 := LB2.ext XB4) | (refine loadsV (B := B2) (by rfl) rfl rfl LB2 ?_))
  clear LB2
  refine (cp _ E).mono ?_
  rintro e w10 ⟨rfl, x⟩
  have z3 := x.size
  replace E := E.trans x
  replace LB4 := LB4.ext x
  replace RB4 := RB4.ext x
  clear x
  have TB6 : True := trivial
  have TG5 : True := trivial
  have TG7 : True := trivial
  go_wp2_with (first | (clear TB6; refine allocsB rfl rfl ?_; intro B6 w6 bB6 cB6 XB6 LB6 RB6; have z4 := XB6.size; replace E := E.trans XB6; replace LB4 := LB4.ext XB6; replace RB4 := RB4.ext XB6) | (clear TG5; have hRl := (RB6).lt (Nat.zero_lt_succ _); refine storesB (B := B6) rfl rfl rfl (v := zeroBits) rfl RB6 zeroBits_flat ?_; clear LB6; intro s5 G5 LB6 RQ; have z6 := G5.size; replace E := grown_ext E G5 (by omega); replace LB4 := LB4.grown G5 (by omega); replace RB4 := RB4.grown G5 (by omega); clear RB6; have RB6 := RQ; clear RQ hRl; clear RB6) | (refine loadsB (B := B6) (by rfl) rfl rfl LB6 ?_) | (clear TG7; have hRl := (RB4).lt (Nat.zero_lt_succ _); refine storesB (B := B4) rfl rfl rfl (v := zeroBits) rfl RB4 zeroBits_flat ?_; clear LB4; intro s7 G7 LB4 RQ; have z8 := G7.size; replace E := grown_ext E G7 (by omega); replace LB6 := LB6.grown G7 (by omega); clear RB4; have RB4 := RQ; clear RQ hRl; clear RB4))
  refine bodyPost_ret (results_lay2 rfl rfl rfl (ldB LB4)) rfl ?_
  exact ⟨rfl, E⟩
/-- truths that read only what v read in w0, and blocks of T -/
def OnlyV (w0 : World) (v0 : Value) (d : VD) (w : World) (p : Value) (b : List Bool) (T : Nat → Prop) : Prop := ∀ S, VecS w0 v0 d S → BitS w p b (fun i => (S i ∧ i < w0.heap.size) ∨ T i)
section
variable {w0 w w' : World} {v0 p : Value} {d : VD} {b : List Bool} {T : Nat → Prop}
theorem OnlyV.ext (h : OnlyV w0 v0 d w p b T) (hx : Ext w w') : OnlyV w0 v0 d w' p b T := fun S hS => (h S hS).ext hx
theorem OnlyV.grown {g : Nat} (h : OnlyV w0 v0 d w p b T) (hg : w.grownBy w' (some g)) (hT : ¬ T g ∧ w0.heap.size ≤ g) : OnlyV w0 v0 d w' p b T := fun S hS => (h S hS).grown hg (fun h => h.elim (fun h => absurd h.2 (by omega)) hT.1)
theorem OnlyV.is (h : OnlyV w0 v0 d w p b T) (h0 : VecS w0 v0 d (fun i => i < w0.heap.size)) : IsB w p b := (h _ h0).is
theorem OnlyV.post (h : OnlyV w0 v0 d w p b T) (hT : ∀ i, i < w.heap.size → T i → w0.heap.size ≤ i) : ∀ S, VecS w0 v0 d S → BitS w p b (fun i => S i ∨ New w0.heap.size i) := fun S hS => (h S hS).mono fun i hi h => h.elim (fun h => .inl h.1) fun h => .inr (hT i hi h)
theorem OnlyV.mk {w1 : World} (h0 : Ext w0 w) (hq : ∀ S, VecS w v0 d S → BitS w1 p b S) : OnlyV w0 v0 d w1 p b (fun _ => False) := fun _ hS => (hq _ ((hS.now).ext h0)).mono fun _ _ h => .inl h
theorem OnlyV.new {w1 : World} (hq : OwnB w1 w.heap.size p b) : OnlyV w0 v0 d w1 p b (fun i => New w.heap.size i ∧ i < w1.heap.size) := fun _ _ => hq.bs.now.mono fun _ _ h => .inr h
end
theorem spread_ne (v : Value) (x : List Bool) (N : Nat) (hx : x.length ≠ 1 ∧ x.length = N) (w : World) (h : IsVec w v (VD.bits x)) : Calls Try.prog 79 #[v, .int .i64 (N : Int)] w (SprY v x N w) := by
  have hF := h.flat
  have cp := fun w h => VecS.packed v x w h
  have cl := fun p w h => blen_any p x w h
  have e1 : ((x.length : Int) == 1) = false := by simp; omega
  have hQ : sprL x N = x := if_pos hx.2
  have N0 := VecS.all h
  have HN0 := N0
  clear h hx
  unfold SprY
  rw [hQ]
  clear hQ
  generalize (N : Int) = M at *
  generalize (x.length : Int) = m at *
  have E := Ext.refl w
  go_enter Try.func79, Try.ntmps79
  have TB2 : True := trivial
  have TB4 : True := trivial
  go_wp2_with (first | (clear TB2; refine boxsV (v := v) rfl rfl rfl hF ?_; intro B2 w2 bB2 cB2 XB2 LB2 RB2; have z1 := XB2.size; replace E := E.trans XB2; replace N0 := N0.ext XB2; clear RB2) | (clear TB4; refine allocsB rfl rfl ?_; intro B4 w4 bB4 cB4 XB4 LB4 RB4; have z2 := XB4.size; replace E := E.trans XB4; replace N0 := N0.ext XB4; replace LB2 := LB2.ext XB4) | (refine loadsV (B := B2) (by rfl) rfl rfl LB2 ?_))
  clear LB2
  have E9 := E
  refine (cp _ N0.is).mono ?_
  rintro e w10 ⟨p, rfl, hq, x'⟩
  have BP := OnlyV.mk E9 hq
  have Fp := (BP.is HN0).flat
  clear hq E9
  have z3 := x'.size
  replace E := E.trans x'
  replace N0 := N0.ext x'
  replace LB4 := LB4.ext x'
  replace RB4 := RB4.ext x'
  clear x'
  have TB6 : True := trivial
  have TG5 : True := trivial
  go_wp2_with (first | (clear TB6; refine allocsB rfl rfl ?_; intro B6 w6 bB6 cB6 XB6 LB6 RB6; have z4 := XB6.size; replace E := E.trans XB6; replace N0 := N0.ext XB6; replace LB4 := LB4.ext XB6; replace RB4 := RB4.ext XB6; replace BP := BP.ext XB6) | (clear TG5; have hRl := (RB6).lt (Nat.zero_lt_succ _); refine storesB (B := B6) rfl rfl rfl (v := p) rfl RB6 Fp ?_; clear LB6; intro s5 G5 LB6 RQ; have z6 := G5.size; replace E := grown_ext E G5 (by omega); replace N0 := N0.grown G5 (by omega); replace LB4 := LB4.grown G5 (by omega); replace RB4 := RB4.grown G5 (by omega); replace BP := BP.grown G5 ⟨(by first | exact id | (dsimp only [New]; omega)), by omega⟩; clear RB6; have RB6 := RQ; clear RQ hRl; clear RB6) | (refine loadgB (B := B6) (by rfl) rfl rfl LB6 ?_))
  refine (cl p _ (BP.is HN0)).mono ?_
  rintro e w16 ⟨rfl, x'⟩
  have z7 := x'.size
  replace E := E.trans x'
  replace N0 := N0.ext x'
  replace LB4 := LB4.ext x'
  replace RB4 := RB4.ext x'
  replace BP := BP.ext x'
  replace LB6 := LB6.ext x'
  clear x'
  have TG8 : True := trivial
  go_wp2_with (first | (refine loadsB (B := B6) (by rfl) rfl rfl LB6 ?_) | (clear TG8; have hRl := (RB4).lt (Nat.zero_lt_succ _); refine storesB (B := B4) rfl rfl rfl (v := p) rfl RB4 Fp ?_; clear LB4; intro s8 G8 LB4 RQ; have z9 := G8.size; replace E := grown_ext E G8 (by omega); replace N0 := N0.grown G8 (by omega); replace BP := BP.grown G8 ⟨(by first | exact id | (dsimp only [New]; omega)), by omega⟩; replace LB6 := LB6.grown G8 (by omega); clear RB4; have RB4 := RQ; clear RQ hRl; clear RB4))
  refine bodyPost_ret (results_lay2 rfl rfl rfl (ldB LB4)) rfl ?_
  exact ⟨p, rfl, BP.post (fun i hi h => h.elim), E⟩
theorem spread_one (v : Value) (x : List Bool) (N : Nat) (hx : x.length = 1 ∧ N = 1) (w : World) (h : IsVec w v (VD.bits x)) : Calls Try.prog 79 #[v, .int .i64 (N : Int)] w (SprY v x N w) := by
  have hF := h.flat
  have cp := fun w h => VecS.packed v x w h
  have cl := fun p w h => blen_any p x w h
  have hQ : sprL x N = x := if_pos (by omega)
  rw [hx.1] at cl
  rw [hx.2]
  rw [hx.2] at hQ
  have N0 := VecS.all h
  have HN0 := N0
  clear h hx
  unfold SprY
  rw [hQ]
  clear hQ
  have E := Ext.refl w
  go_enter Try.func79, Try.ntmps79
  have TB2 : True := trivial
  have TB4 : True := trivial
  go_wp2_with (first | (clear TB2; refine boxsV (v := v) rfl rfl rfl hF ?_; intro B2 w2 bB2 cB2 XB2 LB2 RB2; have z1 := XB2.size; replace E := E.trans XB2; replace N0 := N0.ext XB2; clear RB2) | (clear TB4; refine allocsB rfl rfl ?_; intro B4 w4 bB4 cB4 XB4 LB4 RB4; have z2 := XB4.size; replace E := E.trans XB4; replace N0 := N0.ext XB4; replace LB2 := LB2.ext XB4) | (refine loadsV (B := B2) (by rfl) rfl rfl LB2 ?_))
  clear LB2
  have E9 := E
  refine (cp _ N0.is).mono ?_
  rintro e w10 ⟨p, rfl, hq, x'⟩
  have BP := OnlyV.mk E9 hq
  have Fp := (BP.is HN0).flat
  clear hq E9
  have z3 := x'.size
  replace E := E.trans x'
  replace N0 := N0.ext x'
  replace LB4 := LB4.ext x'
  replace RB4 := RB4.ext x'
  clear x'
  have TB6 : True := trivial
  have TG5 : True := trivial
  go_wp2_with (first | (clear TB6; refine allocsB rfl rfl ?_; intro B6 w6 bB6 cB6 XB6 LB6 RB6; have z4 := XB6.size; replace E := E.trans XB6; replace N0 := N0.ext XB6; replace LB4 := LB4.ext XB6; replace RB4 := RB4.ext XB6; replace BP := BP.ext XB6) | (clear TG5; have hRl := (RB6).lt (Nat.zero_lt_succ _); refine storesB (B := B6) rfl rfl rfl (v := p) rfl RB6 Fp ?_; clear LB6; intro s5 G5 LB6 RQ; have z6 := G5.size; replace E := grown_ext E G5 (by omega); replace N0 := N0.grown G5 (by omega); replace LB4 := LB4.grown G5 (by omega); replace RB4 := RB4.grown G5 (by omega); replace BP := BP.grown G5 ⟨(by first | exact id | (dsimp only [New]; omega)), by omega⟩; clear RB6; have RB6 := RQ; clear RQ hRl; clear RB6) | (refine loadgB (B := B6) (by rfl) rfl rfl LB6 ?_))
  refine (cl p _ (BP.is HN0)).mono ?_
  rintro e w16 ⟨rfl, x'⟩
  have z7 := x'.size
  replace E := E.trans x'
  replace N0 := N0.ext x'
  replace LB4 := LB4.ext x'
  replace RB4 := RB4.ext x'
  replace BP := BP.ext x'
  replace LB6 := LB6.ext x'
  clear x'
  have TG8 : True := trivial
  go_wp2_with (first | (refine loadsB (B := B6) (by rfl) rfl rfl LB6 ?_) | (clear TG8; have hRl := (RB4).lt (Nat.zero_lt_succ _); refine storesB (B := B4) rfl rfl rfl (v := p) rfl RB4 Fp ?_; clear LB4; intro s8 G8 LB4 RQ; have z9 := G8.size; replace E := grown_ext E G8 (by omega); replace N0 := N0.grown G8 (by omega); replace BP := BP.grown G8 ⟨(by first | exact id | (dsimp only [New]; omega)), by omega⟩; replace LB6 := LB6.grown G8 (by omega); clear RB4; have RB4 := RQ; clear RQ hRl; clear RB4))
  refine bodyPost_ret (results_lay2 rfl rfl rfl (ldB LB4)) rfl ?_
  exact ⟨p, rfl, BP.post (fun i hi h => h.elim), E⟩
theorem spread_wide (v : Value) (x : List Bool) (N : Nat) (hx : x.length = 1 ∧ N ≠ 1) (hN : N ≤ 1048576) (w : World) (h : IsVec w v (VD.bits x)) : Calls Try.prog 79 #[v, .int .i64 (N : Int)] w (SprY v x N w) := by
  have hF := h.flat
  have cp := fun w h => VecS.packed v x w h
  have cl := fun p w h => blen_any p x w h
  have e1 : ((N : Int) != 1) = true := by simp; omega
  have hQ : sprL x N = List.replicate N (bget x 0) := if_neg (by omega)
  rw [hx.1] at cl
  have ca := fun p w h => at_any p x 0 w h
  have cm := fun w => make_bool N (bget x 0) hN w
  unfold MakeP at cm
  rw [← hQ] at cm
  have N0 := VecS.all h
  have HN0 := N0
  clear h hx hN hQ
  unfold SprY
  generalize sprL x N = sx at *
  generalize bget x 0 = gx at *
  generalize (N : Int) = M at *
  have E := Ext.refl w
  go_enter Try.func79, Try.ntmps79
  have TB2 : True := trivial
  have TB4 : True := trivial
  go_wp2_with (first | (clear TB2; refine boxsV (v := v) rfl rfl rfl hF ?_; intro B2 w2 bB2 cB2 XB2 LB2 RB2; have z1 := XB2.size; replace E := E.trans XB2; replace N0 := N0.ext XB2; clear RB2) | (clear TB4; refine allocsB rfl rfl ?_; intro B4 w4 bB4 cB4 XB4 LB4 RB4; have z2 := XB4.size; replace E := E.trans XB4; replace N0 := N0.ext XB4; replace LB2 := LB2.ext XB4) | (refine loadsV (B := B2) (by rfl) rfl rfl LB2 ?_))
  clear LB2
  have E9 := E
  refine (cp _ N0.is).mono ?_
  rintro e w10 ⟨p, rfl, hq, x'⟩
  have BP := OnlyV.mk E9 hq
  have Fp := (BP.is HN0).flat
  clear hq E9
  have z3 := x'.size
  replace E := E.trans x'
  replace N0 := N0.ext x'
  replace LB4 := LB4.ext x'
  replace RB4 := RB4.ext x'
  clear x'
  have TB6 : True := trivial
  have TG5 : True := trivial
  go_wp2_with (first | (clear TB6; refine allocsB rfl rfl ?_; intro B6 w6 bB6 cB6 XB6 LB6 RB6; have z4 := XB6.size; replace E := E.trans XB6; replace N0 := N0.ext XB6; replace LB4 := LB4.ext XB6; replace RB4 := RB4.ext XB6; replace BP := BP.ext XB6) | (clear TG5; have hRl := (RB6).lt (Nat.zero_lt_succ _); refine storesB (B := B6) rfl rfl rfl (v := p) rfl RB6 Fp ?_; clear LB6; intro s5 G5 LB6 RQ; have z6 := G5.size; replace E := grown_ext E G5 (by omega); replace N0 := N0.grown G5 (by omega); replace LB4 := LB4.grown G5 (by omega); replace RB4 := RB4.grown G5 (by omega); replace BP := BP.grown G5 ⟨(by first | exact id | (dsimp only [New]; omega)), by omega⟩; clear RB6; have RB6 := RQ; clear RQ hRl; clear RB6) | (refine loadgB (B := B6) (by rfl) rfl rfl LB6 ?_))
  refine (cl p _ (BP.is HN0)).mono ?_
  rintro e w16 ⟨rfl, x'⟩
  have z7 := x'.size
  replace E := E.trans x'
  replace N0 := N0.ext x'
  replace LB4 := LB4.ext x'
  replace RB4 := RB4.ext x'
  replace BP := BP.ext x'
  replace LB6 := LB6.ext x'
  clear x'
  go_wp2_with (refine loadsB (B := B6) (by rfl) rfl rfl LB6 ?_)
  clear LB6
  refine (ca p _ (BP.is HN0)).mono ?_
  rintro e w25 ⟨rfl, x'⟩
  have z8 := x'.size
  replace E := E.trans x'
  replace N0 := N0.ext x'
  replace LB4 := LB4.ext x'
  replace RB4 := RB4.ext x'
  replace BP := BP.ext x'
  clear x'
  go_wp2_with fail
  refine (cm _).mono ?_
  rintro e w26 ⟨q, rfl, hq, x'⟩
  clear BP
  have BQ : OnlyV w v (VD.bits x) w26 q _ _ := OnlyV.new hq
  have Fq := (BQ.is HN0).flat
  clear hq
  have z9 := x'.size
  replace E := E.trans x'
  replace N0 := N0.ext x'
  replace LB4 := LB4.ext x'
  replace RB4 := RB4.ext x'
  clear x'
  have TG10 : True := trivial
  go_wp2_with (clear TG10; have hRl := (RB4).lt (Nat.zero_lt_succ _); refine storesB (B := B4) rfl rfl rfl (v := q) rfl RB4 Fq ?_; clear LB4; intro s10 G10 LB4 RQ; have z11 := G10.size; replace E := grown_ext E G10 (by omega); replace N0 := N0.grown G10 (by omega); replace BQ := BQ.grown G10 ⟨(by first | exact id | (dsimp only [New]; omega)), by omega⟩; clear RB4; have RB4 := RQ; clear RQ hRl; clear RB4)
  refine bodyPost_ret (results_lay2 rfl rfl rfl (ldB LB4)) rfl ?_
  exact ⟨q, rfl, BQ.post (fun i hi h => by dsimp only [New] at *; omega), E⟩
theorem spread_yes (v : Value) (x : List Bool) (N : Nat) (hx : x.length = N ∨ x.length = 1) (hN : N ≤ 1048576) (w : World) (h : IsVec w v (VD.bits x)) : Calls Try.prog 79 #[v, .int .i64 (N : Int)] w (SprY v x N w) := by
  by_cases h1 : x.length = 1
  · by_cases h2 : N = 1
    · exact spread_one v x N ⟨h1, h2⟩ w h
    · exact spread_wide v x N ⟨h1, h2⟩ hN w h
  · exact spread_ne v x N ⟨h1, by omega⟩ w h
def pkN (x : List Nat) (k : Nat) : Nat := x.getD (ixN x.length k) 0
/-- where a relation holds -/
def relL (f : Int) (x y : List Nat) (N : Nat) : List Bool := tabL N fun i => relB f (pkN x i) (pkN y i)
theorem relL_length (f : Int) (x y : List Nat) (N : Nat) : (relL f x y N).length = N := tabL_length _ _
theorem ixN_lt {n N k : Nat} (h : n = N ∨ n = 1) (hk : k < N) : ixN n k < n := by unfold ixN; split <;> omega
theorem numbers_r (f : Int) (v u : Value) (K J : Nat) (x y : List Nat) (N : Nat) (hN2 : N ≤ 1048576) (hx : x.length = N ∨ x.length = 1) (hy : y.length = N ∨ y.length = 1) (w : World) (hv : IsNum w v K x) (hu : IsNum w u J y) :
    Calls Try.prog 81 #[.int .i64 f, .int .i64 (N : Int), v, u] w fun e w' => ∃ p, e = .returned p ∧ VecS w' p (VD.bits (relL f x y N)) (New w.heap.size) ∧ Ext w w' := by
  have hF := hv.flat
  have hG := hu.flat
  have NV := NumS.all hv
  have NU := NumS.all hu
  have ca : ∀ k w, IsNum w v K x → Calls Try.prog 94 #[v, .int .i64 (k : Nat)] w fun e w' => e = .returned (.int .i64 (ixN x.length k : Int)) ∧ Ext w w' := fun k w h => by
    obtain ⟨d, hd, _, _, _, hl⟩ := h
    have := at_r v d k w hd
    rwa [show d.len = x.length by rw [← hl, VD.nums_length]] at this
  have cb : ∀ k w, IsNum w u J y → Calls Try.prog 94 #[u, .int .i64 (k : Nat)] w fun e w' => e = .returned (.int .i64 (ixN y.length k : Int)) ∧ Ext w w' := fun k w h => by
    obtain ⟨d, hd, _, _, _, hl⟩ := h
    have := at_r u d k w hd
    rwa [show d.len = y.length by rw [← hl, VD.nums_length]] at this
  have cn : ∀ k w, k < N → IsNum w v K x → Calls Try.prog 62 #[v, .int .i64 (ixN x.length k : Nat)] w fun e w' => e = .returned (.float .f64 (pkN x k)) ∧ Ext w w' := fun k w hk h => nnum_in v K x _ w h (ixN_lt hx hk)
  have cm : ∀ k w, k < N → IsNum w u J y → Calls Try.prog 62 #[u, .int .i64 (ixN y.length k : Nat)] w fun e w' => e = .returned (.float .f64 (pkN y k)) ∧ Ext w w' := fun k w hk h => nnum_in u J y _ w h (ixN_lt hy hk)
  have tx := hv.tidy
  have ty := hu.tidy
  have co : ∀ k w, k < N → Calls Try.prog 47 #[.int .i64 f, .float .f64 (pkN x k), .float .f64 (pkN y k)] w fun e w' => e = .returned (.tuple #[.bool (relB f (pkN x k) (pkN y k)), .int .i64 (if okR f then 0 else 1)]) ∧ Ext w w' := fun k w hk => (ro_any f _ _ (tx _ (getD_memN (ixN_lt hx hk))).1.nn (ty _ (getD_memN (ixN_lt hy hk))).1.nn w).mono fun e w2 h => ⟨h.1, h.2 ▸ Ext.refl _⟩
  obtain ⟨FN, hFN⟩ : ∃ FN : Nat → Value, (fun k => Value.bool (relB f (pkN x k) (pkN y k))) = FN := ⟨_, rfl⟩
  have HFN := Lib.hid fun k => congrFun hFN k
  have hR : bools (relL f x y N) = fillL FN (.bool false) N N := by rw [fillL_full, ← hFN]; simp [bools, relL, tabL]
  have cpk : ∀ g w, RowO 4 w g N (fillL FN (.bool false) N N) → Calls Try.prog 86 #[.slice (some ⟨g, 0, none⟩) N N] w fun e w' => ∃ p, e = .returned p ∧ OwnB w' w.heap.size p (relL f x y N) ∧ Ext w w' := fun g w h => by
    have h2 := h.sl
    rw [← hR] at h2
    have := pack_any (some ⟨g, 0, none⟩) N (relL f x y N) w (by rw [relL_length]; exact hN2) (by rw [relL_length]; exact Nat.le_refl _) (by rw [relL_length]; exact h2)
    rwa [relL_length] at this
  have cbo := fun p w h => VecS.bits_of p (relL f x y N) w h
  clear hv hu hx hy tx ty hFN hR
  generalize relL f x y N = RL at *
  generalize (if okR f then (0 : Int) else 1) = er at *
  have E := Ext.refl w
  go_enter Try.func81, Try.ntmps81
  have TB6 : True := trivial
  have TB7 : True := trivial
  have TB8 : True := trivial
  have TM12 : True := trivial
  go_wp2_with (first | (clear TB6; refine boxsV (v := v) rfl rfl rfl hF ?_; intro B6 w6 bB6 cB6 XB6 LB6 RB6; have z1 := XB6.size; replace E := E.trans XB6; replace NV := NV.ext XB6; replace NU := NU.ext XB6; clear RB6) | (clear TB7; refine boxsV (v := u) rfl rfl rfl hG ?_; intro B7 w7 bB7 cB7 XB7 LB7 RB7; have z2 := XB7.size; replace E := E.trans XB7; replace NV := NV.ext XB7; replace NU := NU.ext XB7; replace LB6 := LB6.ext XB7; clear RB7) | (clear TB8; refine allocsV rfl rfl ?_; intro B8 w8 bB8 cB8 XB8 LB8 RB8; have z3 := XB8.size; replace E := E.trans XB8; replace NV := NV.ext XB8; replace NU := NU.ext XB8; replace LB6 := LB6.ext XB8; replace LB7 := LB7.ext XB8) | (clear TM12; refine maker_bool rfl rfl (n := N) rfl hN2 ?_; intro g12 w12 bg12 cg12 X12 Og12; have z4 := X12.size; replace E := E.trans X12; replace NV := NV.ext X12; replace NU := NU.ext X12; replace LB6 := LB6.ext X12; replace LB7 := LB7.ext X12; replace LB8 := LB8.ext X12; replace RB8 := RB8.ext X12; clear X12))
  go_loopw [15] (fun i wr => ∃ k : Nat, k ≤ N ∧ i = .int .i64 k ∧ Grw w12 g12 wr ∧ RowO 4 wr g12 N (fillL FN (.bool false) N k)) (fun i _ => N - (intOf i).toNat)
  case atStart => exact ⟨0, Nat.zero_le _, rfl, Grw.refl _ _, by rw [fillL_zero]; exact Og12⟩
  case round =>
    obtain ⟨k, hk, rfl, HG, O2⟩ := hrel
    clear Og12
    have Og12 := O2
    clear O2
    have z5 := HG.out.size
    replace E := grown_ext E HG.out (by omega)
    replace NV := NV.grown HG.out (by omega)
    replace NU := NU.grown HG.out (by omega)
    replace LB6 := LB6.grown HG.out (by omega)
    replace LB7 := LB7.grown HG.out (by omega)
    replace LB8 := LB8.grown HG.out (by omega)
    replace RB8 := RB8.grown HG.out (by omega)
    by_cases hlt : k < N
    · have ca' := fun w => ca k w
      have cb' := fun w => cb k w
      have cn' := fun w => cn k w hlt
      have cm' := fun w => cm k w hlt
      have co' := fun w => co k w hlt
      have HFk := Lib.hid (HFN.out k)
      have HFK := Lib.hid (fillL_set FN (.bool false) hlt)
      clear ca cb cn cm co
      generalize pkN x k = xk at *
      generalize pkN y k = yk at *
      generalize relB f xk yk = rb at *
      generalize ixN x.length k = ik at *
      generalize ixN y.length k = jk at *
      go_wp2_with fail
      try simp only [Act.put, List.setIfInBounds_toArray, List.set_cons_zero, List.set_cons_succ]
      have hq6 : wr.heap.size ≤ wr.drew.heap.size := Nat.le_refl _
      have z7 := (Ext.refl wr).drew.size
      replace E := E.trans (Ext.refl wr).drew
      replace NV := NV.ext (Ext.refl wr).drew
      replace NU := NU.ext (Ext.refl wr).drew
      replace LB6 := LB6.ext (Ext.refl wr).drew
      replace LB7 := LB7.ext (Ext.refl wr).drew
      replace LB8 := LB8.ext (Ext.refl wr).drew
      replace RB8 := RB8.ext (Ext.refl wr).drew
      replace Og12 := Og12.ext (Ext.refl wr).drew
      replace HG := HG.ext (Ext.refl wr).drew
      refine wp_region_held_drew (S := (fun w' => Lay 8 w' B6 v ∧ Lay 8 w' B7 u)) (by kernel_rfl) ⟨LB6, LB7⟩ (fun hHeld => ?_)
      refine wpAnyH_take (i := 0) (oi := { dst := some 19, op := Go.Op.move (Go.Operand.tmp 9), type := 62, pos := "relate.go:88", after := #[], guard := none }) (v := ?v8) rfl (by kernel_rfl) (by kernel_rfl) (by kernel_rfl) (fun _ _ _ h => h) (Or.inl ⟨by rfl, ?hy8⟩) hHeld ?rest8
      case hy8 => (intro w hSw; (try dsimp only at hSw); go_simp; (first | done | with_reducible rfl))
      try simp only [Act.put, List.setIfInBounds_toArray, List.set_cons_zero, List.set_cons_succ]
      refine wpAnyH_take (i := 1) (oi := { dst := some 20, op := Go.Op.move (Go.Operand.tmp 10), type := 3, pos := "relate.go:88", after := #[], guard := none }) (v := ?v9) rfl (by kernel_rfl) (by kernel_rfl) (by kernel_rfl) (fun _ _ _ h => h) (Or.inl ⟨by rfl, ?hy9⟩) hHeld ?rest9
      case hy9 => (intro w hSw; (try dsimp only at hSw); go_simp; (first | done | with_reducible rfl))
      try simp only [Act.put, List.setIfInBounds_toArray, List.set_cons_zero, List.set_cons_succ]
      refine wpAnyH_take (i := 2) (oi := { dst := some 21, op := Go.Op.move (Go.Operand.tmp 0), type := 3, pos := "relate.go:88", after := #[], guard := none }) (v := ?v10) rfl (by kernel_rfl) (by kernel_rfl) (by kernel_rfl) (fun _ _ _ h => h) (Or.inl ⟨by rfl, ?hy10⟩) hHeld ?rest10
      case hy10 => (intro w hSw; (try dsimp only at hSw); go_simp; (first | done | with_reducible rfl))
      try simp only [Act.put, List.setIfInBounds_toArray, List.set_cons_zero, List.set_cons_succ]
      refine wpAnyH_take (i := 3) (oi := { dst := some 22, op := Go.Op.load 34 (Go.Operand.tmp 6), type := 34, pos := "relate.go:88", after := #[], guard := none }) (v := v) rfl (by kernel_rfl) (by kernel_rfl) (by kernel_rfl) (fun _ _ _ h => h) (yieldV (by rfl) rfl rfl fun w' hx => hx.1) hHeld ?_
      try simp only [Act.put, List.setIfInBounds_toArray, List.set_cons_zero, List.set_cons_succ]
      refine wpAnyH_take (i := 4) (oi := { dst := some 23, op := Go.Op.load 34 (Go.Operand.tmp 6), type := 34, pos := "relate.go:88", after := #[], guard := none }) (v := v) rfl (by kernel_rfl) (by kernel_rfl) (by kernel_rfl) (fun _ _ _ h => h) (yieldV (by rfl) rfl rfl fun w' hx => hx.1) hHeld ?_
      try simp only [Act.put, List.setIfInBounds_toArray, List.set_cons_zero, List.set_cons_succ]
      refine wpAnyH_take (i := 5) (oi := { dst := some 24, op := Go.Op.move (Go.Operand.tmp 10), type := 3, pos := "relate.go:88", after := #[], guard := none }) (v := ?v13) rfl (by kernel_rfl) (by kernel_rfl) (by kernel_rfl) (fun _ _ _ h => h) (Or.inl ⟨by rfl, ?hy13⟩) hHeld ?rest13
      case hy13 => (intro w hSw; (try dsimp only at hSw); go_simp; (first | done | with_reducible rfl))
      try simp only [Act.put, List.setIfInBounds_toArray, List.set_cons_zero, List.set_cons_succ]
      refine wpAnyH_take (i := 8) (oi := { dst := some 27, op := Go.Op.load 34 (Go.Operand.tmp 7), type := 34, pos := "relate.go:88", after := #[], guard := none }) (v := u) rfl (by kernel_rfl) (by kernel_rfl) (by kernel_rfl) (fun _ _ _ h => h) (yieldV (by rfl) rfl rfl fun w' hx => hx.2) hHeld ?_
      try simp only [Act.put, List.setIfInBounds_toArray, List.set_cons_zero, List.set_cons_succ]
      refine wpAnyH_take (i := 9) (oi := { dst := some 28, op := Go.Op.load 34 (Go.Operand.tmp 7), type := 34, pos := "relate.go:88", after := #[], guard := none }) (v := u) rfl (by kernel_rfl) (by kernel_rfl) (by kernel_rfl) (fun _ _ _ h => h) (yieldV (by rfl) rfl rfl fun w' hx => hx.2) hHeld ?_
      try simp only [Act.put, List.setIfInBounds_toArray, List.set_cons_zero, List.set_cons_succ]
      refine wpAnyH_take (i := 10) (oi := { dst := some 29, op := Go.Op.move (Go.Operand.tmp 10), type := 3, pos := "relate.go:88", after := #[], guard := none }) (v := ?v16) rfl (by kernel_rfl) (by kernel_rfl) (by kernel_rfl) (fun _ _ _ h => h) (Or.inl ⟨by rfl, ?hy16⟩) hHeld ?rest16
      case hy16 => (intro w hSw; (try dsimp only at hSw); go_simp; (first | done | with_reducible rfl))
      try simp only [Act.put, List.setIfInBounds_toArray, List.set_cons_zero, List.set_cons_succ]
      refine wpAnyH_ready (rs := [6]) (by kernel_rfl) (by simp) ?_
      refine AllReadyH.cons (o := { dst := some 25, op := Go.Op.call { callee := Go.Callee.value (Go.Operand.func 94), args := #[Go.Operand.tmp 23, Go.Operand.tmp 24], argTypes := #[34, 3] }, type := 3, pos := "relate.go:88", after := #[{ on := 4, ground := Go.Ground.data }, { on := 5, ground := Go.Ground.data }], guard := none }) rfl (fun K hK => ?_) (AllReadyH.nil)
      go_simp
      refine (ca' _ NV.is).mono ?_
      rintro e w25 ⟨rfl, x'⟩
      have z17 := x'.size
      replace E := E.trans x'
      replace NV := NV.ext x'
      replace NU := NU.ext x'
      replace LB6 := LB6.ext x'
      replace LB7 := LB7.ext x'
      replace LB8 := LB8.ext x'
      replace RB8 := RB8.ext x'
      replace Og12 := Og12.ext x'
      replace HG := HG.ext x'
      clear x'
      clear hHeld
      have hHeld := And.intro LB6 (LB7)
      refine hK.out _ _ hHeld (fun _ => ?_)
      clear hK K
      try simp only [Act.put, List.setIfInBounds_toArray, List.set_cons_zero, List.set_cons_succ]
      refine wpAnyH_ready (rs := [7]) (by kernel_rfl) (by simp) ?_
      refine AllReadyH.cons (o := { dst := some 26, op := Go.Op.call { callee := Go.Callee.value (Go.Operand.func 62), args := #[Go.Operand.tmp 22, Go.Operand.tmp 25], argTypes := #[34, 3] }, type := 81, pos := "relate.go:88", after := #[{ on := 3, ground := Go.Ground.data }, { on := 6, ground := Go.Ground.data }, { on := 6, ground := Go.Ground.chain }], guard := none }) rfl (fun K hK => ?_) (AllReadyH.nil)
      go_simp
      refine (cn' _ NV.is).mono ?_
      rintro e w26 ⟨rfl, x'⟩
      have z18 := x'.size
      replace E := E.trans x'
      replace NV := NV.ext x'
      replace NU := NU.ext x'
      replace LB6 := LB6.ext x'
      replace LB7 := LB7.ext x'
      replace LB8 := LB8.ext x'
      replace RB8 := RB8.ext x'
      replace Og12 := Og12.ext x'
      replace HG := HG.ext x'
      clear x'
      clear hHeld
      have hHeld := And.intro LB6 (LB7)
      refine hK.out _ _ hHeld (fun _ => ?_)
      clear hK K
      try simp only [Act.put, List.setIfInBounds_toArray, List.set_cons_zero, List.set_cons_succ]
      refine wpAnyH_ready (rs := [11]) (by kernel_rfl) (by simp) ?_
      refine AllReadyH.cons (o := { dst := some 30, op := Go.Op.call { callee := Go.Callee.value (Go.Operand.func 94), args := #[Go.Operand.tmp 28, Go.Operand.tmp 29], argTypes := #[34, 3] }, type := 3, pos := "relate.go:88", after := #[{ on := 9, ground := Go.Ground.data }, { on := 10, ground := Go.Ground.data }, { on := 7, ground := Go.Ground.chain }], guard := none }) rfl (fun K hK => ?_) (AllReadyH.nil)
      go_simp
      refine (cb' _ NU.is).mono ?_
      rintro e w30 ⟨rfl, x'⟩
      have z19 := x'.size
      replace E := E.trans x'
      replace NV := NV.ext x'
      replace NU := NU.ext x'
      replace LB6 := LB6.ext x'
      replace LB7 := LB7.ext x'
      replace LB8 := LB8.ext x'
      replace RB8 := RB8.ext x'
      replace Og12 := Og12.ext x'
      replace HG := HG.ext x'
      clear x'
      clear hHeld
      have hHeld := And.intro LB6 (LB7)
      refine hK.out _ _ hHeld (fun _ => ?_)
      clear hK K
      try simp only [Act.put, List.setIfInBounds_toArray, List.set_cons_zero, List.set_cons_succ]
      refine wpAnyH_ready (rs := [12]) (by kernel_rfl) (by simp) ?_
      refine AllReadyH.cons (o := { dst := some 31, op := Go.Op.call { callee := Go.Callee.value (Go.Operand.func 62), args := #[Go.Operand.tmp 27, Go.Operand.tmp 30], argTypes := #[34, 3] }, type := 81, pos := "relate.go:88", after := #[{ on := 8, ground := Go.Ground.data }, { on := 11, ground := Go.Ground.data }, { on := 11, ground := Go.Ground.chain }], guard := none }) rfl (fun K hK => ?_) (AllReadyH.nil)
      go_simp
      refine (cm' _ NU.is).mono ?_
      rintro e w31 ⟨rfl, x'⟩
      have z20 := x'.size
      replace E := E.trans x'
      replace NV := NV.ext x'
      replace NU := NU.ext x'
      replace LB6 := LB6.ext x'
      replace LB7 := LB7.ext x'
      replace LB8 := LB8.ext x'
      replace RB8 := RB8.ext x'
      replace Og12 := Og12.ext x'
      replace HG := HG.ext x'
      clear x'
      clear hHeld
      have hHeld := And.intro LB6 (LB7)
      refine hK.out _ _ hHeld (fun _ => ?_)
      clear hK K
      try simp only [Act.put, List.setIfInBounds_toArray, List.set_cons_zero, List.set_cons_succ]
      refine wpAnyH_ready (rs := [13]) (by kernel_rfl) (by simp) ?_
      refine AllReadyH.cons (o := { dst := some 32, op := Go.Op.call { callee := Go.Callee.value (Go.Operand.func 47), args := #[Go.Operand.tmp 21, Go.Operand.tmp 26, Go.Operand.tmp 31], argTypes := #[3, 81, 81] }, type := 76, pos := "relate.go:88", after := #[{ on := 2, ground := Go.Ground.data }, { on := 7, ground := Go.Ground.data }, { on := 12, ground := Go.Ground.data }, { on := 12, ground := Go.Ground.chain }], guard := none }) rfl (fun K hK => ?_) (AllReadyH.nil)
      go_simp
      refine (co' _).mono ?_
      rintro e w32 ⟨rfl, x'⟩
      have z21 := x'.size
      replace E := E.trans x'
      replace NV := NV.ext x'
      replace NU := NU.ext x'
      replace LB6 := LB6.ext x'
      replace LB7 := LB7.ext x'
      replace LB8 := LB8.ext x'
      replace RB8 := RB8.ext x'
      replace Og12 := Og12.ext x'
      replace HG := HG.ext x'
      clear x'
      clear hHeld
      have hHeld := And.intro LB6 (LB7)
      refine hK.out _ _ hHeld (fun _ => ?_)
      clear hK K
      try simp only [Act.put, List.setIfInBounds_toArray, List.set_cons_zero, List.set_cons_succ]
      refine wpAnyH_take (i := 14) (oi := { dst := some 18, op := Go.Op.move (Go.Operand.tmp 32), type := 76, pos := "relate.go:88", after := #[{ on := 13, ground := Go.Ground.data }], guard := none }) (v := ?v22) rfl (by kernel_rfl) (by kernel_rfl) (by kernel_rfl) (fun _ _ _ h => h) (Or.inl ⟨by rfl, ?hy22⟩) hHeld ?rest22
      case hy22 => (intro w hSw; (try dsimp only at hSw); go_simp; (first | done | with_reducible rfl))
      try simp only [Act.put, List.setIfInBounds_toArray, List.set_cons_zero, List.set_cons_succ]
      refine wpAnyH_take (i := 15) (oi := { dst := some 33, op := Go.Op.extract (Go.Operand.tmp 18) 0, type := 4, pos := "relate.go:88", after := #[{ on := 14, ground := Go.Ground.data }], guard := none }) (v := ?v23) rfl (by kernel_rfl) (by kernel_rfl) (by kernel_rfl) (fun _ _ _ h => h) (Or.inl ⟨by rfl, ?hy23⟩) hHeld ?rest23
      case hy23 => (intro w hSw; (try dsimp only at hSw); go_simp; (first | done | with_reducible rfl))
      try simp only [Act.put, List.setIfInBounds_toArray, List.set_cons_zero, List.set_cons_succ]
      refine wpAnyH_take (i := 16) (oi := { dst := some 34, op := Go.Op.extract (Go.Operand.tmp 18) 1, type := 59, pos := "relate.go:88", after := #[{ on := 14, ground := Go.Ground.data }, { on := 18, ground := Go.Ground.gcOnly Go.Departure.lateStores }], guard := none }) (v := ?v24) rfl (by kernel_rfl) (by kernel_rfl) (by kernel_rfl) (fun _ _ _ h => h) (Or.inl ⟨by rfl, ?hy24⟩) hHeld ?rest24
      case hy24 => (intro w hSw; (try dsimp only at hSw); go_simp; (first | done | with_reducible rfl))
      try simp only [Act.put, List.setIfInBounds_toArray, List.set_cons_zero, List.set_cons_succ]
      refine wpAnyH_take (i := 17) (oi := { dst := some 35, op := Go.Op.indexAddr 62 (Go.Operand.tmp 19) (Go.Operand.tmp 20), type := 0, pos := "relate.go:88", after := #[{ on := 0, ground := Go.Ground.data }, { on := 1, ground := Go.Ground.data }, { on := 0, ground := Go.Ground.phase }, { on := 1, ground := Go.Ground.phase }, { on := 2, ground := Go.Ground.phase }, { on := 3, ground := Go.Ground.phase }, { on := 4, ground := Go.Ground.phase }, { on := 5, ground := Go.Ground.phase }, { on := 6, ground := Go.Ground.phase }, { on := 7, ground := Go.Ground.phase }, { on := 8, ground := Go.Ground.phase }, { on := 9, ground := Go.Ground.phase }, { on := 10, ground := Go.Ground.phase }, { on := 11, ground := Go.Ground.phase }, { on := 12, ground := Go.Ground.phase }, { on := 13, ground := Go.Ground.phase }, { on := 14, ground := Go.Ground.phase }, { on := 15, ground := Go.Ground.phase }, { on := 16, ground := Go.Ground.textOnly Go.Departure.lateStores }], guard := none }) (v := ?v25) rfl (by kernel_rfl) (by kernel_rfl) (by kernel_rfl) (fun _ _ _ h => h) (Or.inl ⟨by rfl, ?hy25⟩) hHeld ?rest25
      case hy25 => (intro w hSw; (try dsimp only at hSw); go_simp; (first | done | with_reducible rfl))
      try simp only [Act.put, List.setIfInBounds_toArray, List.set_cons_zero, List.set_cons_succ]
      refine wpAnyH_ready (rs := [18]) (by kernel_rfl) (by simp) ?_
      refine AllReadyH.cons (o := { dst := none, op := Go.Op.store 4 (Go.Operand.tmp 35) (Go.Operand.tmp 33), type := 0, pos := "relate.go:88", after := #[{ on := 17, ground := Go.Ground.data }, { on := 15, ground := Go.Ground.data }, { on := 13, ground := Go.Ground.chain }, { on := 0, ground := Go.Ground.phase }, { on := 1, ground := Go.Ground.phase }, { on := 2, ground := Go.Ground.phase }, { on := 3, ground := Go.Ground.phase }, { on := 4, ground := Go.Ground.phase }, { on := 5, ground := Go.Ground.phase }, { on := 6, ground := Go.Ground.phase }, { on := 7, ground := Go.Ground.phase }, { on := 8, ground := Go.Ground.phase }, { on := 9, ground := Go.Ground.phase }, { on := 10, ground := Go.Ground.phase }, { on := 11, ground := Go.Ground.phase }, { on := 12, ground := Go.Ground.phase }, { on := 13, ground := Go.Ground.phase }, { on := 14, ground := Go.Ground.phase }, { on := 15, ground := Go.Ground.phase }, { on := 16, ground := Go.Ground.textOnly Go.Departure.lateStores }], guard := none }) rfl (fun K hK => ?_) (AllReadyH.nil)
      rw [if_pos (by rfl)]
      have hRl := Og12.lt
      refine storer_bool (by rfl) (g := g12) (k := k) (n := N) (by rfl) rfl (by rfl) Og12 hlt ?_
      clear Og12
      intro s26 G26 Og12
      have z27 := G26.size
      replace E := grown_ext E G26 (by omega)
      replace NV := NV.grown G26 (by omega)
      replace NU := NU.grown G26 (by omega)
      replace LB6 := LB6.grown G26 (by omega)
      replace LB7 := LB7.grown G26 (by omega)
      replace LB8 := LB8.grown G26 (by omega)
      replace RB8 := RB8.grown G26 (by omega)
      replace HG := HG.grown G26 (by omega)
      clear hRl G26
      clear hHeld
      have hHeld := And.intro LB6 (LB7)
      refine hK.out _ _ hHeld (fun _ => ?_)
      clear hK K
      try simp only [Act.put]
      refine wpAnyH_done (by kernel_rfl) ?_ _
      go_wp2_with fail
      exact ⟨⟨k + 1, by omega, by go_num, HG, by rw [← HFK.out, ← HFk.out]; exact Og12⟩, by simp [intOf]; omega⟩
    · have hkN : k = N := by omega
      rw [hkN] at Og12
      clear HG
      go_wp2_with fail
      clear LB6 LB7
      refine (cpk g12 _ Og12).mono ?_
      rintro e w38 ⟨p, rfl, hq, x'⟩
      clear Og12
      have NP := hq.bs.now
      clear hq
      have z28 := x'.size
      replace E := E.trans x'
      replace NV := NV.ext x'
      replace NU := NU.ext x'
      replace LB8 := LB8.ext x'
      replace RB8 := RB8.ext x'
      clear x'
      go_wp2_with fail
      refine (cbo p _ NP.is).mono ?_
      rintro e w39 ⟨o, rfl, hq, x'⟩
      have VO := hq _ NP
      have Fo := VO.is.flat
      clear hq
      have z29 := x'.size
      replace E := E.trans x'
      replace NV := NV.ext x'
      replace NU := NU.ext x'
      replace LB8 := LB8.ext x'
      replace RB8 := RB8.ext x'
      replace NP := NP.ext x'
      clear x'
      have TG30 : True := trivial
      go_wp2_with (clear TG30; have hRl := (RB8).lt (Nat.zero_lt_succ _); refine storesV (B := B8) rfl rfl rfl (v := o) rfl RB8 Fo ?_; clear LB8; intro s30 G30 LB8 RQ; have z31 := G30.size; replace E := grown_ext E G30 (by omega); replace NV := NV.grown G30 (by omega); replace NU := NU.grown G30 (by omega); replace NP := NP.grown G30 (by first | omega | (dsimp only [New]; omega)); replace VO := VO.grown G30 (by first | omega | (dsimp only [New]; omega)); clear RB8; have RB8 := RQ; clear RQ hRl; clear RB8)
      refine bodyPost_ret (results_lay rfl rfl (ldV LB8)) rfl ?_
      exact ⟨o, rfl, VO.mono (fun i hi h => by dsimp only [New] at *; omega), E⟩
end Go.Proofs.Ytdfhefnjoekgbaa
