/- SqueezeOthers, for every input: the walk. -/
import Derived.Test.YtdfhefnjoekgbaaQo
import Derived.Test.YtdfhefnjoekgbaaVl
namespace Go.Proofs.Ytdfhefnjoekgbaa
open Go.ChangeShapes Go.WideShapes Go.RowKit Bv Fl
theorem runes_yes (A A' : Option Addr) (l : List Int) (n c c' : Nat) (hn : n = l.length) (w : World) (hl : n ≤ 1048576) (hs : Sl w 1 A n (i32s l)) (hs' : Sl w 1 A' n (i32s l)) : Calls Try.prog 28 #[.slice A n c, .slice A' n c'] w fun e w' => e = .returned (.bool true) ∧ Ext w w' := by
  refine (runes_any A A' l l n n c c' hn hn w hl hs hs').mono ?_
  rintro e w' ⟨rfl, h⟩
  exact ⟨by simp, Ext.of_drewN h⟩
theorem kind_zero' (z : Value) (hz : zeroVec = z) (w : World) : Calls Try.prog 18 #[z] w fun e w' => e = .returned (.int .i64 0) ∧ Ext w w' := by
  subst hz
  exact vkind_any zeroVec VD.none w (IsVec.zero w)
theorem text_sl (v : Value) (l : List Int) (n : Nat) (hn : n = l.length) (w : World) (h : IsVec w v (VD.chars l)) : Calls Try.prog 29 #[v] w fun e w' => ∃ B cb, e = .returned (.slice B n cb) ∧ Sl w' 1 B n (i32s l) ∧ Ext w w' := by
  refine (vtext_any v l w h).mono ?_
  rintro e w' ⟨v', rfl, ho, hx⟩
  obtain ⟨B, cb, rfl, -, -⟩ := own_form ho
  subst hn
  exact ⟨B, cb, rfl, Sl.own ho, hx⟩
/-- an array literal that lies behind one more block -/
theorem Sl.lit9 (w : World) (o : Obj) (us : Array Value) (t : TypeId) (hu : us.size = 9) : Sl ((w.alloc o).alloc (.cells us t)) 9 (some ⟨w.heap.size + 1, 0, none⟩) 1 us.toList := by
  have e : (w.alloc o).heap.size = w.heap.size + 1 := by simp
  refine ⟨by simp [hu], fun _ => ⟨_, rfl, by simp, fun j u hj => ?_⟩⟩
  rw [show (Addr.add ⟨w.heap.size + 1, 0, none⟩ j) = ⟨(w.alloc o).heap.size, j, none⟩ by rw [e]; unfold Addr.add; split <;> simp_all]
  rw [World.cell?_alloc_new]
  simpa using hj
set_option maxHeartbeats 2000000

set_option maxRecDepth 100000 in
theorem squeezeOthers_5 (w : World) (A : Option Addr) (l : List Int) (c : Nat) (hs : Sl w 1 A l.length (i32s l)) (h5 : l.length ≤ 200) :
    Calls Try.prog 5 #[.slice A l.length c, .int .i64 5] w fun e w' => e = .returned (.bool true) ∧ Ext w w' := by
  obtain ⟨n, hn⟩ : ∃ n, n = l.length := ⟨_, rfl⟩
  have cc := fun w hs => chars_s A l n hn c w (by omega) hs
  have cr := fun B cb w hs hs' => runes_yes B A l n cb c hn w (by omega) hs hs'
  have ctx := fun v w h => text_sl v l n hn w h
  rw [← hn] at hs h5 ⊢
  clear hn
  have Oc : Other (VD.chars l) := .inl rfl
  have Ob : ∀ cs, Other (VD.boxes cs) := fun cs => .inr rfl
  have ml := fun v w h => oleast_any v (VD.chars l) w h Oc
  have mq := fun v w h => osqueeze_any v (VD.chars l) w h Oc
  have mt := fun v w h => otight_any v (VD.chars l) w h Oc
  have bq := fun v cs w h => osqueeze_any v (VD.boxes cs) w h (Ob cs)
  have bt := fun v cs w h => otight_any v (VD.boxes cs) w h (Ob cs)
  have bl := fun v cs w h => vlen_any v (VD.boxes cs) w h
  have ic := fun v w h => ointo_same v (VD.chars l) w h
  rw [show (((VD.chars l).kind : Nat) : Int) = 5 from rfl] at ic ml
  have ib := fun v cs w h => ointo_no v (VD.boxes cs) 5 w h (Ob cs) (by show ((6 : Nat) : Int) ≠ _; omega)
  obtain ⟨z, hz⟩ : ∃ z, zeroVec = z := ⟨_, rfl⟩
  have hF := zeroVec_flat
  have ck := fun w => kind_zero' z hz w
  rw [hz] at hF ib
  have HZ := Lib.hid hz
  clear hz Oc Ob
  have E := Ext.refl w
  go_enter Try.func5, Try.ntmps5
  go_wp2_with fail
  refine (cc _ (hs.ext E)).mono ?_
  rintro e w1 ⟨Bc, cbc, rfl, V1, x⟩
  have z1 := x.size
  replace E := E.trans x
  replace V1 := V1.now
  have F1 := V1.is.flat
  clear x
  go_wp2_with (first | (refine allocsV rfl rfl ?_; intro B5 u5 bB5 cB5 x K5 R5; have z2 := x.size; replace E := E.trans x; replace V1 := V1.ext x; clear x) | (have hRl := (R5).lt (Nat.zero_lt_succ _); refine storesV (B := B5) rfl rfl rfl (v := (.agg #[.int .i64 5, .slice none 0 0, .int .i64 0, .slice none 0 0, .slice none 0 0, .slice none 0 0, .slice Bc n cbc, .slice none 0 0])) rfl R5 F1 ?_; clear K5; intro t5 g K5 RQ; have z3 := g.size; replace E := grown_ext E g (by omega); replace V1 := V1.grown g (by dsimp only [New]; omega); clear R5; have R5 := RQ; clear RQ hRl; clear g) | (refine loadsV (B := B5) (by rfl) rfl rfl (K5.ext ((Ext.refl _).alloc _)) ?_))
  have cb := fun w hs => boxes_s (some ⟨t5.heap.size + 1, 0, none⟩) (Array.toList (#[.slice (some ⟨t5.heap.size, 0, none⟩) 1 1, .int .i64 5, .slice none 0 0, .int .i64 0, .slice none 0 0, .slice none 0 0, .slice none 0 0, .slice Bc n cbc, .slice none 0 0] : Array Value)) 1 1 (by intro u hu; simp at hu; rcases hu with rfl | rfl | rfl | rfl | rfl | rfl | rfl | rfl | rfl <;> rfl) w (by omega) hs
  have hln : ∀ v w, IsVec w v (VD.boxes (Array.toList (#[.slice (some ⟨t5.heap.size, 0, none⟩) 1 1, .int .i64 5, .slice none 0 0, .int .i64 0, .slice none 0 0, .slice none 0 0, .slice none 0 0, .slice Bc n cbc, .slice none 0 0] : Array Value))) → Calls Try.prog 30 #[v] w fun e w' => e = .returned (.int .i64 1) ∧ Ext w w' := fun v w h => by have h2 := bl v _ w h; simpa [VD.len, VD.boxes] using h2
  refine (cb _ (Sl.lit9 _ _ #[.slice (some ⟨t5.heap.size, 0, none⟩) 1 1, .int .i64 5, .slice none 0 0, .int .i64 0, .slice none 0 0, .slice none 0 0, .slice none 0 0, .slice Bc n cbc, .slice none 0 0] _ rfl)).mono ?_
  generalize Array.toList (#[.slice (some ⟨t5.heap.size, 0, none⟩) 1 1, .int .i64 5, .slice none 0 0, .int .i64 0, .slice none 0 0, .slice none 0 0, .slice none 0 0, .slice Bc n cbc, .slice none 0 0] : Array Value) = cs at *
  rintro e w2 ⟨v2, rfl, V2, x⟩
  replace V2 := V2.now
  have F2 := V2.is.flat
  replace x := (((Ext.refl _).alloc _).alloc _).trans x
  have z4 := x.size
  replace E := E.trans x
  replace V1 := V1.ext x
  replace K5 := K5.ext x
  replace R5 := R5.ext x
  clear x cb bl cc
  obtain ⟨v1, hv1⟩ : ∃ v1 : Value, v1 = (.agg #[.int .i64 5, .slice none 0 0, .int .i64 0, .slice none 0 0, .slice none 0 0, .slice none 0 0, .slice Bc n cbc, .slice none 0 0]) := ⟨_, rfl⟩
  rw [← hv1] at V1 F1 K5
  have HV1 := Lib.hid hv1
  clear hv1
  go_wp2_with (first | (refine allocsV rfl rfl ?_; intro B6 u6 bB6 cB6 x K6 R6; have z5 := x.size; replace E := E.trans x; replace V1 := V1.ext x; replace K5 := K5.ext x; replace R5 := R5.ext x; replace V2 := V2.ext x; clear x) | (have hRl := (R6).lt (Nat.zero_lt_succ _); refine storesV (B := B6) rfl rfl rfl (v := v2) rfl R6 F2 ?_; clear K6; intro t6 g K6 RQ; have z6 := g.size; replace E := grown_ext E g (by omega); replace V1 := V1.grown g (by dsimp only [New]; omega); replace K5 := K5.grown g (by omega); replace R5 := R5.grown g (by omega); replace V2 := V2.grown g (by simp [New]; omega); clear R6; have R6 := RQ; clear RQ hRl; clear g) | (refine loadsV (B := B5) (by rfl) rfl rfl K5 ?_))
  refine (ic v1 _ V1.is).mono ?_
  rintro e w3 ⟨rfl, x⟩
  have z7 := x.size
  replace E := E.trans x
  replace V1 := V1.ext x
  replace K5 := K5.ext x
  replace R5 := R5.ext x
  replace V2 := V2.ext x
  replace K6 := K6.ext x
  replace R6 := R6.ext x
  clear x
  go_wp2_with (first | (refine allocsV rfl rfl ?_; intro B7 u7 bB7 cB7 x K7 R7; have z8 := x.size; replace E := E.trans x; replace V1 := V1.ext x; replace K5 := K5.ext x; replace R5 := R5.ext x; replace V2 := V2.ext x; replace K6 := K6.ext x; replace R6 := R6.ext x; clear x) | (have hRl := (R7).lt (Nat.zero_lt_succ _); refine storesV (B := B7) rfl rfl rfl (v := v1) rfl R7 F1 ?_; clear K7; intro t7 g K7 RQ; have z9 := g.size; replace E := grown_ext E g (by omega); replace V1 := V1.grown g (by dsimp only [New]; omega); replace K5 := K5.grown g (by omega); replace R5 := R5.grown g (by omega); replace V2 := V2.grown g (by simp [New]; omega); replace K6 := K6.grown g (by omega); replace R6 := R6.grown g (by omega); clear R7; have R7 := RQ; clear RQ hRl; clear g) | (refine loadsV (B := B6) (by rfl) rfl rfl K6 ?_))
  refine (ib v2 _ _ V2.is).mono ?_
  rintro e w4 ⟨rfl, x⟩
  have z10 := x.size
  replace E := E.trans x
  replace V1 := V1.ext x
  replace K5 := K5.ext x
  replace R5 := R5.ext x
  replace V2 := V2.ext x
  replace K6 := K6.ext x
  replace R6 := R6.ext x
  replace K7 := K7.ext x
  replace R7 := R7.ext x
  clear x
  go_wp2_with (first | (refine allocsV rfl rfl ?_; intro B9 u9 bB9 cB9 x K9 R9; have z11 := x.size; replace E := E.trans x; replace V1 := V1.ext x; replace K5 := K5.ext x; replace R5 := R5.ext x; replace V2 := V2.ext x; replace K6 := K6.ext x; replace R6 := R6.ext x; replace K7 := K7.ext x; replace R7 := R7.ext x; clear x) | (have hRl := (R9).lt (Nat.zero_lt_succ _); refine storesV (B := B9) rfl rfl rfl (v := z) rfl R9 hF ?_; clear K9; intro t9 g K9 RQ; have z12 := g.size; replace E := grown_ext E g (by omega); replace V1 := V1.grown g (by dsimp only [New]; omega); replace K5 := K5.grown g (by omega); replace R5 := R5.grown g (by omega); replace V2 := V2.grown g (by simp [New]; omega); replace K6 := K6.grown g (by omega); replace R6 := R6.grown g (by omega); replace K7 := K7.grown g (by omega); replace R7 := R7.grown g (by omega); clear R9; have R9 := RQ; clear RQ hRl; clear g) | (refine loadsV (B := B5) (by rfl) rfl rfl K5 ?_))
  refine (mq v1 _ V1.is).mono ?_
  rintro e w5 ⟨rfl, x⟩
  have z13 := x.size
  replace E := E.trans x
  replace V1 := V1.ext x
  replace K5 := K5.ext x
  replace R5 := R5.ext x
  replace V2 := V2.ext x
  replace K6 := K6.ext x
  replace R6 := R6.ext x
  replace K7 := K7.ext x
  replace R7 := R7.ext x
  replace K9 := K9.ext x
  replace R9 := R9.ext x
  clear x
  clear ic ib mq
  go_wp2_with (first | (refine allocsV rfl rfl ?_; intro B11 u11 bB11 cB11 x K11 R11; have z14 := x.size; replace E := E.trans x; replace V1 := V1.ext x; replace K5 := K5.ext x; replace R5 := R5.ext x; replace V2 := V2.ext x; replace K6 := K6.ext x; replace R6 := R6.ext x; replace K7 := K7.ext x; replace R7 := R7.ext x; replace K9 := K9.ext x; replace R9 := R9.ext x; clear x) | (have hRl := (R11).lt (Nat.zero_lt_succ _); refine storesV (B := B11) rfl rfl rfl (v := v1) rfl R11 F1 ?_; clear K11; intro t11 g K11 RQ; have z15 := g.size; replace E := grown_ext E g (by omega); replace V1 := V1.grown g (by dsimp only [New]; omega); replace K5 := K5.grown g (by omega); replace R5 := R5.grown g (by omega); replace V2 := V2.grown g (by simp [New]; omega); replace K6 := K6.grown g (by omega); replace R6 := R6.grown g (by omega); replace K7 := K7.grown g (by omega); replace R7 := R7.grown g (by omega); replace K9 := K9.grown g (by omega); replace R9 := R9.grown g (by omega); clear R11; have R11 := RQ; clear RQ hRl; clear g) | (refine loadgV (B := B9) (by rfl) rfl rfl K9 ?_))
  clear R5 R6 R7 R9 R11
  refine (ck _).mono ?_
  rintro e w7 ⟨rfl, x⟩
  have z16 := x.size
  replace E := E.trans x
  replace V1 := V1.ext x
  replace K5 := K5.ext x
  replace V2 := V2.ext x
  replace K6 := K6.ext x
  replace K7 := K7.ext x
  replace K9 := K9.ext x
  replace K11 := K11.ext x
  clear x
  go_wp2_with (refine loadsV (B := B11) (by rfl) rfl rfl K11 ?_)
  refine (ctx v1 _ V1.is).mono ?_
  rintro e w8 ⟨P, cP, rfl, SP, x⟩
  have z17 := x.size
  replace E := E.trans x
  replace V1 := V1.ext x
  replace K5 := K5.ext x
  replace V2 := V2.ext x
  replace K6 := K6.ext x
  replace K7 := K7.ext x
  replace K9 := K9.ext x
  replace K11 := K11.ext x
  clear x
  go_wp2_with fail
  refine (cr _ _ _ SP (hs.ext E)).mono ?_
  rintro e w9 ⟨rfl, x⟩
  have z18 := x.size
  replace E := E.trans x
  replace V1 := V1.ext x
  replace K5 := K5.ext x
  replace V2 := V2.ext x
  replace K6 := K6.ext x
  replace K7 := K7.ext x
  replace K9 := K9.ext x
  replace K11 := K11.ext x
  clear x
  clear SP
  go_wp2_with (refine loadgV (B := B5) (by rfl) rfl rfl K5 ?_)
  refine (ml v1 _ V1.is).mono ?_
  rintro e w10 ⟨rfl, x⟩
  have z19 := x.size
  replace E := E.trans x
  replace V1 := V1.ext x
  replace K5 := K5.ext x
  replace V2 := V2.ext x
  replace K6 := K6.ext x
  replace K7 := K7.ext x
  replace K9 := K9.ext x
  replace K11 := K11.ext x
  clear x
  go_wp2_with (refine loadgV (B := B6) (by rfl) rfl rfl K6 ?_)
  refine (bq v2 _ _ V2.is).mono ?_
  rintro e w11 ⟨rfl, x⟩
  have z20 := x.size
  replace E := E.trans x
  replace V1 := V1.ext x
  replace K5 := K5.ext x
  replace V2 := V2.ext x
  replace K6 := K6.ext x
  replace K7 := K7.ext x
  replace K9 := K9.ext x
  replace K11 := K11.ext x
  clear x
  go_wp2_with fail
  refine (hln v2 _ V2.is).mono ?_
  rintro e w12 ⟨rfl, x⟩
  have z21 := x.size
  replace E := E.trans x
  replace V1 := V1.ext x
  replace K5 := K5.ext x
  replace V2 := V2.ext x
  replace K6 := K6.ext x
  replace K7 := K7.ext x
  replace K9 := K9.ext x
  replace K11 := K11.ext x
  clear x
  go_wp2_with (refine loadgV (B := B6) (by rfl) rfl rfl K6 ?_)
  refine (bt v2 _ _ V2.is).mono ?_
  rintro e w13 ⟨rfl, x⟩
  have z22 := x.size
  replace E := E.trans x
  replace V1 := V1.ext x
  replace K5 := K5.ext x
  replace V2 := V2.ext x
  replace K6 := K6.ext x
  replace K7 := K7.ext x
  replace K9 := K9.ext x
  replace K11 := K11.ext x
  clear x
  go_wp2_with (refine loadgV (B := B5) (by rfl) rfl rfl K5 ?_)
  refine (mt v1 _ V1.is).mono ?_
  rintro e w14 ⟨rfl, x⟩
  have z23 := x.size
  replace E := E.trans x
  replace V1 := V1.ext x
  replace K5 := K5.ext x
  replace V2 := V2.ext x
  replace K6 := K6.ext x
  replace K7 := K7.ext x
  replace K9 := K9.ext x
  replace K11 := K11.ext x
  clear x
  go_wp2_with fail
  refine (awake_any _).mono ?_
  rintro e w15 ⟨rfl, x⟩
  have z24 := x.size
  replace E := E.trans x
  replace V1 := V1.ext x
  replace K5 := K5.ext x
  replace V2 := V2.ext x
  replace K6 := K6.ext x
  replace K7 := K7.ext x
  replace K9 := K9.ext x
  replace K11 := K11.ext x
  clear x
  go_wp2
  go_ret
  exact ⟨rfl, E⟩

set_option maxRecDepth 100000 in
theorem squeezeOthers_6 (w : World) (A : Option Addr) (l : List Int) (c : Nat) (hs : Sl w 1 A l.length (i32s l)) (h5 : l.length ≤ 200) :
    Calls Try.prog 5 #[.slice A l.length c, .int .i64 6] w fun e w' => e = .returned (.bool true) ∧ Ext w w' := by
  obtain ⟨n, hn⟩ : ∃ n, n = l.length := ⟨_, rfl⟩
  have cc := fun w hs => chars_s A l n hn c w (by omega) hs
  have cr := fun B cb w hs hs' => runes_yes B A l n cb c hn w (by omega) hs hs'
  have ctx := fun v w h => text_sl v l n hn w h
  rw [← hn] at hs h5 ⊢
  clear hn
  have Oc : Other (VD.chars l) := .inl rfl
  have Ob : ∀ cs, Other (VD.boxes cs) := fun cs => .inr rfl
  have ml := fun v w h => oleast_any v (VD.chars l) w h Oc
  have mq := fun v w h => osqueeze_any v (VD.chars l) w h Oc
  have mt := fun v w h => otight_any v (VD.chars l) w h Oc
  have bq := fun v cs w h => osqueeze_any v (VD.boxes cs) w h (Ob cs)
  have bt := fun v cs w h => otight_any v (VD.boxes cs) w h (Ob cs)
  have bl := fun v cs w h => vlen_any v (VD.boxes cs) w h
  have ic := fun v w h => ointo_no v (VD.chars l) 6 w h Oc (by show ((5 : Nat) : Int) ≠ _; omega)
  rw [show (((VD.chars l).kind : Nat) : Int) = 5 from rfl] at ml
  have ib : ∀ v cs w, IsVec w v (VD.boxes cs) → Calls Try.prog 17 #[v, .int .i64 6] w fun e w' => e = .returned (.tuple #[v, .bool true]) ∧ Ext w w' := fun v cs w h => ointo_same v (VD.boxes cs) w h
  obtain ⟨z, hz⟩ : ∃ z, zeroVec = z := ⟨_, rfl⟩
  have hF := zeroVec_flat
  have ck := fun w => kind_zero' z hz w
  rw [hz] at hF ic
  have HZ := Lib.hid hz
  clear hz Oc Ob
  have E := Ext.refl w
  go_enter Try.func5, Try.ntmps5
  go_wp2_with fail
  refine (cc _ (hs.ext E)).mono ?_
  rintro e w1 ⟨Bc, cbc, rfl, V1, x⟩
  have z1 := x.size
  replace E := E.trans x
  replace V1 := V1.now
  have F1 := V1.is.flat
  clear x
  go_wp2_with (first | (refine allocsV rfl rfl ?_; intro B5 u5 bB5 cB5 x K5 R5; have z2 := x.size; replace E := E.trans x; replace V1 := V1.ext x; clear x) | (have hRl := (R5).lt (Nat.zero_lt_succ _); refine storesV (B := B5) rfl rfl rfl (v := (.agg #[.int .i64 5, .slice none 0 0, .int .i64 0, .slice none 0 0, .slice none 0 0, .slice none 0 0, .slice Bc n cbc, .slice none 0 0])) rfl R5 F1 ?_; clear K5; intro t5 g K5 RQ; have z3 := g.size; replace E := grown_ext E g (by omega); replace V1 := V1.grown g (by dsimp only [New]; omega); clear R5; have R5 := RQ; clear RQ hRl; clear g) | (refine loadsV (B := B5) (by rfl) rfl rfl (K5.ext ((Ext.refl _).alloc _)) ?_))
  have cb := fun w hs => boxes_s (some ⟨t5.heap.size + 1, 0, none⟩) (Array.toList (#[.slice (some ⟨t5.heap.size, 0, none⟩) 1 1, .int .i64 5, .slice none 0 0, .int .i64 0, .slice none 0 0, .slice none 0 0, .slice none 0 0, .slice Bc n cbc, .slice none 0 0] : Array Value)) 1 1 (by intro u hu; simp at hu; rcases hu with rfl | rfl | rfl | rfl | rfl | rfl | rfl | rfl | rfl <;> rfl) w (by omega) hs
  have hln : ∀ v w, IsVec w v (VD.boxes (Array.toList (#[.slice (some ⟨t5.heap.size, 0, none⟩) 1 1, .int .i64 5, .slice none 0 0, .int .i64 0, .slice none 0 0, .slice none 0 0, .slice none 0 0, .slice Bc n cbc, .slice none 0 0] : Array Value))) → Calls Try.prog 30 #[v] w fun e w' => e = .returned (.int .i64 1) ∧ Ext w w' := fun v w h => by have h2 := bl v _ w h; simpa [VD.len, VD.boxes] using h2
  refine (cb _ (Sl.lit9 _ _ #[.slice (some ⟨t5.heap.size, 0, none⟩) 1 1, .int .i64 5, .slice none 0 0, .int .i64 0, .slice none 0 0, .slice none 0 0, .slice none 0 0, .slice Bc n cbc, .slice none 0 0] _ rfl)).mono ?_
  generalize Array.toList (#[.slice (some ⟨t5.heap.size, 0, none⟩) 1 1, .int .i64 5, .slice none 0 0, .int .i64 0, .slice none 0 0, .slice none 0 0, .slice none 0 0, .slice Bc n cbc, .slice none 0 0] : Array Value) = cs at *
  rintro e w2 ⟨v2, rfl, V2, x⟩
  replace V2 := V2.now
  have F2 := V2.is.flat
  replace x := (((Ext.refl _).alloc _).alloc _).trans x
  have z4 := x.size
  replace E := E.trans x
  replace V1 := V1.ext x
  replace K5 := K5.ext x
  replace R5 := R5.ext x
  clear x cb bl cc
  obtain ⟨v1, hv1⟩ : ∃ v1 : Value, v1 = (.agg #[.int .i64 5, .slice none 0 0, .int .i64 0, .slice none 0 0, .slice none 0 0, .slice none 0 0, .slice Bc n cbc, .slice none 0 0]) := ⟨_, rfl⟩
  rw [← hv1] at V1 F1 K5
  have HV1 := Lib.hid hv1
  clear hv1
  go_wp2_with (first | (refine allocsV rfl rfl ?_; intro B6 u6 bB6 cB6 x K6 R6; have z5 := x.size; replace E := E.trans x; replace V1 := V1.ext x; replace K5 := K5.ext x; replace R5 := R5.ext x; replace V2 := V2.ext x; clear x) | (have hRl := (R6).lt (Nat.zero_lt_succ _); refine storesV (B := B6) rfl rfl rfl (v := v2) rfl R6 F2 ?_; clear K6; intro t6 g K6 RQ; have z6 := g.size; replace E := grown_ext E g (by omega); replace V1 := V1.grown g (by dsimp only [New]; omega); replace K5 := K5.grown g (by omega); replace R5 := R5.grown g (by omega); replace V2 := V2.grown g (by simp [New]; omega); clear R6; have R6 := RQ; clear RQ hRl; clear g) | (refine loadsV (B := B5) (by rfl) rfl rfl K5 ?_))
  refine (ic v1 _ V1.is).mono ?_
  rintro e w3 ⟨rfl, x⟩
  have z7 := x.size
  replace E := E.trans x
  replace V1 := V1.ext x
  replace K5 := K5.ext x
  replace R5 := R5.ext x
  replace V2 := V2.ext x
  replace K6 := K6.ext x
  replace R6 := R6.ext x
  clear x
  go_wp2_with (first | (refine allocsV rfl rfl ?_; intro B7 u7 bB7 cB7 x K7 R7; have z8 := x.size; replace E := E.trans x; replace V1 := V1.ext x; replace K5 := K5.ext x; replace R5 := R5.ext x; replace V2 := V2.ext x; replace K6 := K6.ext x; replace R6 := R6.ext x; clear x) | (have hRl := (R7).lt (Nat.zero_lt_succ _); refine storesV (B := B7) rfl rfl rfl (v := z) rfl R7 hF ?_; clear K7; intro t7 g K7 RQ; have z9 := g.size; replace E := grown_ext E g (by omega); replace V1 := V1.grown g (by dsimp only [New]; omega); replace K5 := K5.grown g (by omega); replace R5 := R5.grown g (by omega); replace V2 := V2.grown g (by simp [New]; omega); replace K6 := K6.grown g (by omega); replace R6 := R6.grown g (by omega); clear R7; have R7 := RQ; clear RQ hRl; clear g) | (refine loadsV (B := B6) (by rfl) rfl rfl K6 ?_))
  refine (ib v2 _ _ V2.is).mono ?_
  rintro e w4 ⟨rfl, x⟩
  have z10 := x.size
  replace E := E.trans x
  replace V1 := V1.ext x
  replace K5 := K5.ext x
  replace R5 := R5.ext x
  replace V2 := V2.ext x
  replace K6 := K6.ext x
  replace R6 := R6.ext x
  replace K7 := K7.ext x
  replace R7 := R7.ext x
  clear x
  go_wp2_with (first | (refine allocsV rfl rfl ?_; intro B9 u9 bB9 cB9 x K9 R9; have z11 := x.size; replace E := E.trans x; replace V1 := V1.ext x; replace K5 := K5.ext x; replace R5 := R5.ext x; replace V2 := V2.ext x; replace K6 := K6.ext x; replace R6 := R6.ext x; replace K7 := K7.ext x; replace R7 := R7.ext x; clear x) | (have hRl := (R9).lt (Nat.zero_lt_succ _); refine storesV (B := B9) rfl rfl rfl (v := v2) rfl R9 F2 ?_; clear K9; intro t9 g K9 RQ; have z12 := g.size; replace E := grown_ext E g (by omega); replace V1 := V1.grown g (by dsimp only [New]; omega); replace K5 := K5.grown g (by omega); replace R5 := R5.grown g (by omega); replace V2 := V2.grown g (by simp [New]; omega); replace K6 := K6.grown g (by omega); replace R6 := R6.grown g (by omega); replace K7 := K7.grown g (by omega); replace R7 := R7.grown g (by omega); clear R9; have R9 := RQ; clear RQ hRl; clear g) | (refine loadsV (B := B5) (by rfl) rfl rfl K5 ?_))
  refine (mq v1 _ V1.is).mono ?_
  rintro e w5 ⟨rfl, x⟩
  have z13 := x.size
  replace E := E.trans x
  replace V1 := V1.ext x
  replace K5 := K5.ext x
  replace R5 := R5.ext x
  replace V2 := V2.ext x
  replace K6 := K6.ext x
  replace R6 := R6.ext x
  replace K7 := K7.ext x
  replace R7 := R7.ext x
  replace K9 := K9.ext x
  replace R9 := R9.ext x
  clear x
  clear ic ib mq
  go_wp2_with (first | (refine allocsV rfl rfl ?_; intro B11 u11 bB11 cB11 x K11 R11; have z14 := x.size; replace E := E.trans x; replace V1 := V1.ext x; replace K5 := K5.ext x; replace R5 := R5.ext x; replace V2 := V2.ext x; replace K6 := K6.ext x; replace R6 := R6.ext x; replace K7 := K7.ext x; replace R7 := R7.ext x; replace K9 := K9.ext x; replace R9 := R9.ext x; clear x) | (have hRl := (R11).lt (Nat.zero_lt_succ _); refine storesV (B := B11) rfl rfl rfl (v := v1) rfl R11 F1 ?_; clear K11; intro t11 g K11 RQ; have z15 := g.size; replace E := grown_ext E g (by omega); replace V1 := V1.grown g (by dsimp only [New]; omega); replace K5 := K5.grown g (by omega); replace R5 := R5.grown g (by omega); replace V2 := V2.grown g (by simp [New]; omega); replace K6 := K6.grown g (by omega); replace R6 := R6.grown g (by omega); replace K7 := K7.grown g (by omega); replace R7 := R7.grown g (by omega); replace K9 := K9.grown g (by omega); replace R9 := R9.grown g (by omega); clear R11; have R11 := RQ; clear RQ hRl; clear g) | (refine loadgV (B := B7) (by rfl) rfl rfl K7 ?_))
  clear R5 R6 R7 R9 R11
  refine (ck _).mono ?_
  rintro e w6 ⟨rfl, x⟩
  have z16 := x.size
  replace E := E.trans x
  replace V1 := V1.ext x
  replace K5 := K5.ext x
  replace V2 := V2.ext x
  replace K6 := K6.ext x
  replace K7 := K7.ext x
  replace K9 := K9.ext x
  replace K11 := K11.ext x
  clear x
  go_wp2_with (refine loadsV (B := B11) (by rfl) rfl rfl K11 ?_)
  refine (ctx v1 _ V1.is).mono ?_
  rintro e w8 ⟨P, cP, rfl, SP, x⟩
  have z17 := x.size
  replace E := E.trans x
  replace V1 := V1.ext x
  replace K5 := K5.ext x
  replace V2 := V2.ext x
  replace K6 := K6.ext x
  replace K7 := K7.ext x
  replace K9 := K9.ext x
  replace K11 := K11.ext x
  clear x
  go_wp2_with fail
  refine (cr _ _ _ SP (hs.ext E)).mono ?_
  rintro e w9 ⟨rfl, x⟩
  have z18 := x.size
  replace E := E.trans x
  replace V1 := V1.ext x
  replace K5 := K5.ext x
  replace V2 := V2.ext x
  replace K6 := K6.ext x
  replace K7 := K7.ext x
  replace K9 := K9.ext x
  replace K11 := K11.ext x
  clear x
  clear SP
  go_wp2_with (refine loadgV (B := B5) (by rfl) rfl rfl K5 ?_)
  refine (ml v1 _ V1.is).mono ?_
  rintro e w10 ⟨rfl, x⟩
  have z19 := x.size
  replace E := E.trans x
  replace V1 := V1.ext x
  replace K5 := K5.ext x
  replace V2 := V2.ext x
  replace K6 := K6.ext x
  replace K7 := K7.ext x
  replace K9 := K9.ext x
  replace K11 := K11.ext x
  clear x
  go_wp2_with (refine loadgV (B := B6) (by rfl) rfl rfl K6 ?_)
  refine (bq v2 _ _ V2.is).mono ?_
  rintro e w11 ⟨rfl, x⟩
  have z20 := x.size
  replace E := E.trans x
  replace V1 := V1.ext x
  replace K5 := K5.ext x
  replace V2 := V2.ext x
  replace K6 := K6.ext x
  replace K7 := K7.ext x
  replace K9 := K9.ext x
  replace K11 := K11.ext x
  clear x
  go_wp2_with fail
  refine (hln v2 _ V2.is).mono ?_
  rintro e w12 ⟨rfl, x⟩
  have z21 := x.size
  replace E := E.trans x
  replace V1 := V1.ext x
  replace K5 := K5.ext x
  replace V2 := V2.ext x
  replace K6 := K6.ext x
  replace K7 := K7.ext x
  replace K9 := K9.ext x
  replace K11 := K11.ext x
  clear x
  go_wp2_with (refine loadgV (B := B6) (by rfl) rfl rfl K6 ?_)
  refine (bt v2 _ _ V2.is).mono ?_
  rintro e w13 ⟨rfl, x⟩
  have z22 := x.size
  replace E := E.trans x
  replace V1 := V1.ext x
  replace K5 := K5.ext x
  replace V2 := V2.ext x
  replace K6 := K6.ext x
  replace K7 := K7.ext x
  replace K9 := K9.ext x
  replace K11 := K11.ext x
  clear x
  go_wp2_with (refine loadgV (B := B5) (by rfl) rfl rfl K5 ?_)
  refine (mt v1 _ V1.is).mono ?_
  rintro e w14 ⟨rfl, x⟩
  have z23 := x.size
  replace E := E.trans x
  replace V1 := V1.ext x
  replace K5 := K5.ext x
  replace V2 := V2.ext x
  replace K6 := K6.ext x
  replace K7 := K7.ext x
  replace K9 := K9.ext x
  replace K11 := K11.ext x
  clear x
  go_wp2_with fail
  refine (awake_any _).mono ?_
  rintro e w15 ⟨rfl, x⟩
  have z24 := x.size
  replace E := E.trans x
  replace V1 := V1.ext x
  replace K5 := K5.ext x
  replace V2 := V2.ext x
  replace K6 := K6.ext x
  replace K7 := K7.ext x
  replace K9 := K9.ext x
  replace K11 := K11.ext x
  clear x
  go_wp2
  go_ret
  exact ⟨rfl, E⟩

set_option maxRecDepth 100000 in
theorem squeezeOthers_o (w : World) (A : Option Addr) (l : List Int) (c : Nat) (hs : Sl w 1 A l.length (i32s l)) (h5 : l.length ≤ 200) (kind : Int) (k5 : kind ≠ 5) (k6 : kind ≠ 6) :
    Calls Try.prog 5 #[.slice A l.length c, .int .i64 kind] w fun e w' => e = .returned (.bool true) ∧ Ext w w' := by
  obtain ⟨n, hn⟩ : ∃ n, n = l.length := ⟨_, rfl⟩
  have cc := fun w hs => chars_s A l n hn c w (by omega) hs
  have cr := fun B cb w hs hs' => runes_yes B A l n cb c hn w (by omega) hs hs'
  have ctx := fun v w h => text_sl v l n hn w h
  rw [← hn] at hs h5 ⊢
  clear hn
  have Oc : Other (VD.chars l) := .inl rfl
  have Ob : ∀ cs, Other (VD.boxes cs) := fun cs => .inr rfl
  have ml := fun v w h => oleast_any v (VD.chars l) w h Oc
  have mq := fun v w h => osqueeze_any v (VD.chars l) w h Oc
  have mt := fun v w h => otight_any v (VD.chars l) w h Oc
  have bq := fun v cs w h => osqueeze_any v (VD.boxes cs) w h (Ob cs)
  have bt := fun v cs w h => otight_any v (VD.boxes cs) w h (Ob cs)
  have bl := fun v cs w h => vlen_any v (VD.boxes cs) w h
  have ic := fun v w h => ointo_no v (VD.chars l) kind w h Oc (by show ((5 : Nat) : Int) ≠ _; omega)
  rw [show (((VD.chars l).kind : Nat) : Int) = 5 from rfl] at ml
  have ib := fun v cs w h => ointo_no v (VD.boxes cs) kind w h (Ob cs) (by show ((6 : Nat) : Int) ≠ _; omega)
  obtain ⟨z, hz⟩ : ∃ z, zeroVec = z := ⟨_, rfl⟩
  have hF := zeroVec_flat
  have ck := fun w => kind_zero' z hz w
  rw [hz] at hF ic ib
  have HZ := Lib.hid hz
  clear hz Oc Ob
  have k5' : (kind == 5) = false := by simpa using k5
  have k6' : (kind == 6) = false := by simpa using k6
  clear k5 k6
  have E := Ext.refl w
  go_enter Try.func5, Try.ntmps5
  go_wp2_with fail
  refine (cc _ (hs.ext E)).mono ?_
  rintro e w1 ⟨Bc, cbc, rfl, V1, x⟩
  have z1 := x.size
  replace E := E.trans x
  replace V1 := V1.now
  have F1 := V1.is.flat
  clear x
  go_wp2_with (first | (refine allocsV rfl rfl ?_; intro B5 u5 bB5 cB5 x K5 R5; have z2 := x.size; replace E := E.trans x; replace V1 := V1.ext x; clear x) | (have hRl := (R5).lt (Nat.zero_lt_succ _); refine storesV (B := B5) rfl rfl rfl (v := (.agg #[.int .i64 5, .slice none 0 0, .int .i64 0, .slice none 0 0, .slice none 0 0, .slice none 0 0, .slice Bc n cbc, .slice none 0 0])) rfl R5 F1 ?_; clear K5; intro t5 g K5 RQ; have z3 := g.size; replace E := grown_ext E g (by omega); replace V1 := V1.grown g (by dsimp only [New]; omega); clear R5; have R5 := RQ; clear RQ hRl; clear g) | (refine loadsV (B := B5) (by rfl) rfl rfl (K5.ext ((Ext.refl _).alloc _)) ?_))
  have cb := fun w hs => boxes_s (some ⟨t5.heap.size + 1, 0, none⟩) (Array.toList (#[.slice (some ⟨t5.heap.size, 0, none⟩) 1 1, .int .i64 5, .slice none 0 0, .int .i64 0, .slice none 0 0, .slice none 0 0, .slice none 0 0, .slice Bc n cbc, .slice none 0 0] : Array Value)) 1 1 (by intro u hu; simp at hu; rcases hu with rfl | rfl | rfl | rfl | rfl | rfl | rfl | rfl | rfl <;> rfl) w (by omega) hs
  have hln : ∀ v w, IsVec w v (VD.boxes (Array.toList (#[.slice (some ⟨t5.heap.size, 0, none⟩) 1 1, .int .i64 5, .slice none 0 0, .int .i64 0, .slice none 0 0, .slice none 0 0, .slice none 0 0, .slice Bc n cbc, .slice none 0 0] : Array Value))) → Calls Try.prog 30 #[v] w fun e w' => e = .returned (.int .i64 1) ∧ Ext w w' := fun v w h => by have h2 := bl v _ w h; simpa [VD.len, VD.boxes] using h2
  refine (cb _ (Sl.lit9 _ _ #[.slice (some ⟨t5.heap.size, 0, none⟩) 1 1, .int .i64 5, .slice none 0 0, .int .i64 0, .slice none 0 0, .slice none 0 0, .slice none 0 0, .slice Bc n cbc, .slice none 0 0] _ rfl)).mono ?_
  generalize Array.toList (#[.slice (some ⟨t5.heap.size, 0, none⟩) 1 1, .int .i64 5, .slice none 0 0, .int .i64 0, .slice none 0 0, .slice none 0 0, .slice none 0 0, .slice Bc n cbc, .slice none 0 0] : Array Value) = cs at *
  rintro e w2 ⟨v2, rfl, V2, x⟩
  replace V2 := V2.now
  have F2 := V2.is.flat
  replace x := (((Ext.refl _).alloc _).alloc _).trans x
  have z4 := x.size
  replace E := E.trans x
  replace V1 := V1.ext x
  replace K5 := K5.ext x
  replace R5 := R5.ext x
  clear x cb bl cc
  obtain ⟨v1, hv1⟩ : ∃ v1 : Value, v1 = (.agg #[.int .i64 5, .slice none 0 0, .int .i64 0, .slice none 0 0, .slice none 0 0, .slice none 0 0, .slice Bc n cbc, .slice none 0 0]) := ⟨_, rfl⟩
  rw [← hv1] at V1 F1 K5
  have HV1 := Lib.hid hv1
  clear hv1
  go_wp2_with (first | (refine allocsV rfl rfl ?_; intro B6 u6 bB6 cB6 x K6 R6; have z5 := x.size; replace E := E.trans x; replace V1 := V1.ext x; replace K5 := K5.ext x; replace R5 := R5.ext x; replace V2 := V2.ext x; clear x) | (have hRl := (R6).lt (Nat.zero_lt_succ _); refine storesV (B := B6) rfl rfl rfl (v := v2) rfl R6 F2 ?_; clear K6; intro t6 g K6 RQ; have z6 := g.size; replace E := grown_ext E g (by omega); replace V1 := V1.grown g (by dsimp only [New]; omega); replace K5 := K5.grown g (by omega); replace R5 := R5.grown g (by omega); replace V2 := V2.grown g (by simp [New]; omega); clear R6; have R6 := RQ; clear RQ hRl; clear g) | (refine loadsV (B := B5) (by rfl) rfl rfl K5 ?_))
  refine (ic v1 _ V1.is).mono ?_
  rintro e w3 ⟨rfl, x⟩
  have z7 := x.size
  replace E := E.trans x
  replace V1 := V1.ext x
  replace K5 := K5.ext x
  replace R5 := R5.ext x
  replace V2 := V2.ext x
  replace K6 := K6.ext x
  replace R6 := R6.ext x
  clear x
  go_wp2_with (first | (refine allocsV rfl rfl ?_; intro B7 u7 bB7 cB7 x K7 R7; have z8 := x.size; replace E := E.trans x; replace V1 := V1.ext x; replace K5 := K5.ext x; replace R5 := R5.ext x; replace V2 := V2.ext x; replace K6 := K6.ext x; replace R6 := R6.ext x; clear x) | (have hRl := (R7).lt (Nat.zero_lt_succ _); refine storesV (B := B7) rfl rfl rfl (v := z) rfl R7 hF ?_; clear K7; intro t7 g K7 RQ; have z9 := g.size; replace E := grown_ext E g (by omega); replace V1 := V1.grown g (by dsimp only [New]; omega); replace K5 := K5.grown g (by omega); replace R5 := R5.grown g (by omega); replace V2 := V2.grown g (by simp [New]; omega); replace K6 := K6.grown g (by omega); replace R6 := R6.grown g (by omega); clear R7; have R7 := RQ; clear RQ hRl; clear g) | (refine loadsV (B := B6) (by rfl) rfl rfl K6 ?_))
  refine (ib v2 _ _ V2.is).mono ?_
  rintro e w4 ⟨rfl, x⟩
  have z10 := x.size
  replace E := E.trans x
  replace V1 := V1.ext x
  replace K5 := K5.ext x
  replace R5 := R5.ext x
  replace V2 := V2.ext x
  replace K6 := K6.ext x
  replace R6 := R6.ext x
  replace K7 := K7.ext x
  replace R7 := R7.ext x
  clear x
  go_wp2_with (first | (refine allocsV rfl rfl ?_; intro B9 u9 bB9 cB9 x K9 R9; have z11 := x.size; replace E := E.trans x; replace V1 := V1.ext x; replace K5 := K5.ext x; replace R5 := R5.ext x; replace V2 := V2.ext x; replace K6 := K6.ext x; replace R6 := R6.ext x; replace K7 := K7.ext x; replace R7 := R7.ext x; clear x) | (have hRl := (R9).lt (Nat.zero_lt_succ _); refine storesV (B := B9) rfl rfl rfl (v := z) rfl R9 hF ?_; clear K9; intro t9 g K9 RQ; have z12 := g.size; replace E := grown_ext E g (by omega); replace V1 := V1.grown g (by dsimp only [New]; omega); replace K5 := K5.grown g (by omega); replace R5 := R5.grown g (by omega); replace V2 := V2.grown g (by simp [New]; omega); replace K6 := K6.grown g (by omega); replace R6 := R6.grown g (by omega); replace K7 := K7.grown g (by omega); replace R7 := R7.grown g (by omega); clear R9; have R9 := RQ; clear RQ hRl; clear g) | (refine loadsV (B := B5) (by rfl) rfl rfl K5 ?_))
  refine (mq v1 _ V1.is).mono ?_
  rintro e w5 ⟨rfl, x⟩
  have z13 := x.size
  replace E := E.trans x
  replace V1 := V1.ext x
  replace K5 := K5.ext x
  replace R5 := R5.ext x
  replace V2 := V2.ext x
  replace K6 := K6.ext x
  replace R6 := R6.ext x
  replace K7 := K7.ext x
  replace R7 := R7.ext x
  replace K9 := K9.ext x
  replace R9 := R9.ext x
  clear x
  clear ic ib mq
  go_wp2_with (first | (refine allocsV rfl rfl ?_; intro B11 u11 bB11 cB11 x K11 R11; have z14 := x.size; replace E := E.trans x; replace V1 := V1.ext x; replace K5 := K5.ext x; replace R5 := R5.ext x; replace V2 := V2.ext x; replace K6 := K6.ext x; replace R6 := R6.ext x; replace K7 := K7.ext x; replace R7 := R7.ext x; replace K9 := K9.ext x; replace R9 := R9.ext x; clear x) | (have hRl := (R11).lt (Nat.zero_lt_succ _); refine storesV (B := B11) rfl rfl rfl (v := v1) rfl R11 F1 ?_; clear K11; intro t11 g K11 RQ; have z15 := g.size; replace E := grown_ext E g (by omega); replace V1 := V1.grown g (by dsimp only [New]; omega); replace K5 := K5.grown g (by omega); replace R5 := R5.grown g (by omega); replace V2 := V2.grown g (by simp [New]; omega); replace K6 := K6.grown g (by omega); replace R6 := R6.grown g (by omega); replace K7 := K7.grown g (by omega); replace R7 := R7.grown g (by omega); replace K9 := K9.grown g (by omega); replace R9 := R9.grown g (by omega); clear R11; have R11 := RQ; clear RQ hRl; clear g) | (refine loadgV (B := B7) (by rfl) rfl rfl K7 ?_))
  clear R5 R6 R7 R9 R11
  refine (ck _).mono ?_
  rintro e w6 ⟨rfl, x⟩
  have z16 := x.size
  replace E := E.trans x
  replace V1 := V1.ext x
  replace K5 := K5.ext x
  replace V2 := V2.ext x
  replace K6 := K6.ext x
  replace K7 := K7.ext x
  replace K9 := K9.ext x
  replace K11 := K11.ext x
  clear x
  go_wp2_with (refine loadgV (B := B9) (by rfl) rfl rfl K9 ?_)
  refine (ck _).mono ?_
  rintro e w7 ⟨rfl, x⟩
  have z17 := x.size
  replace E := E.trans x
  replace V1 := V1.ext x
  replace K5 := K5.ext x
  replace V2 := V2.ext x
  replace K6 := K6.ext x
  replace K7 := K7.ext x
  replace K9 := K9.ext x
  replace K11 := K11.ext x
  clear x
  go_wp2_with (refine loadsV (B := B11) (by rfl) rfl rfl K11 ?_)
  refine (ctx v1 _ V1.is).mono ?_
  rintro e w8 ⟨P, cP, rfl, SP, x⟩
  have z18 := x.size
  replace E := E.trans x
  replace V1 := V1.ext x
  replace K5 := K5.ext x
  replace V2 := V2.ext x
  replace K6 := K6.ext x
  replace K7 := K7.ext x
  replace K9 := K9.ext x
  replace K11 := K11.ext x
  clear x
  go_wp2_with fail
  refine (cr _ _ _ SP (hs.ext E)).mono ?_
  rintro e w9 ⟨rfl, x⟩
  have z19 := x.size
  replace E := E.trans x
  replace V1 := V1.ext x
  replace K5 := K5.ext x
  replace V2 := V2.ext x
  replace K6 := K6.ext x
  replace K7 := K7.ext x
  replace K9 := K9.ext x
  replace K11 := K11.ext x
  clear x
  clear SP
  go_wp2_with (refine loadgV (B := B5) (by rfl) rfl rfl K5 ?_)
  refine (ml v1 _ V1.is).mono ?_
  rintro e w10 ⟨rfl, x⟩
  have z20 := x.size
  replace E := E.trans x
  replace V1 := V1.ext x
  replace K5 := K5.ext x
  replace V2 := V2.ext x
  replace K6 := K6.ext x
  replace K7 := K7.ext x
  replace K9 := K9.ext x
  replace K11 := K11.ext x
  clear x
  go_wp2_with (refine loadgV (B := B6) (by rfl) rfl rfl K6 ?_)
  refine (bq v2 _ _ V2.is).mono ?_
  rintro e w11 ⟨rfl, x⟩
  have z21 := x.size
  replace E := E.trans x
  replace V1 := V1.ext x
  replace K5 := K5.ext x
  replace V2 := V2.ext x
  replace K6 := K6.ext x
  replace K7 := K7.ext x
  replace K9 := K9.ext x
  replace K11 := K11.ext x
  clear x
  go_wp2_with fail
  refine (hln v2 _ V2.is).mono ?_
  rintro e w12 ⟨rfl, x⟩
  have z22 := x.size
  replace E := E.trans x
  replace V1 := V1.ext x
  replace K5 := K5.ext x
  replace V2 := V2.ext x
  replace K6 := K6.ext x
  replace K7 := K7.ext x
  replace K9 := K9.ext x
  replace K11 := K11.ext x
  clear x
  go_wp2_with (refine loadgV (B := B6) (by rfl) rfl rfl K6 ?_)
  refine (bt v2 _ _ V2.is).mono ?_
  rintro e w13 ⟨rfl, x⟩
  have z23 := x.size
  replace E := E.trans x
  replace V1 := V1.ext x
  replace K5 := K5.ext x
  replace V2 := V2.ext x
  replace K6 := K6.ext x
  replace K7 := K7.ext x
  replace K9 := K9.ext x
  replace K11 := K11.ext x
  clear x
  go_wp2_with (refine loadgV (B := B5) (by rfl) rfl rfl K5 ?_)
  refine (mt v1 _ V1.is).mono ?_
  rintro e w14 ⟨rfl, x⟩
  have z24 := x.size
  replace E := E.trans x
  replace V1 := V1.ext x
  replace K5 := K5.ext x
  replace V2 := V2.ext x
  replace K6 := K6.ext x
  replace K7 := K7.ext x
  replace K9 := K9.ext x
  replace K11 := K11.ext x
  clear x
  go_wp2_with fail
  refine (awake_any _).mono ?_
  rintro e w15 ⟨rfl, x⟩
  have z25 := x.size
  replace E := E.trans x
  replace V1 := V1.ext x
  replace K5 := K5.ext x
  replace V2 := V2.ext x
  replace K6 := K6.ext x
  replace K7 := K7.ext x
  replace K9 := K9.ext x
  replace K11 := K11.ext x
  clear x
  go_wp2
  go_ret
  exact ⟨rfl, E⟩

theorem squeezeOthers_walk (w : World) (A : Option Addr) (l : List Int) (c : Nat) (_ : l.length ≤ c) (_ : c ≤ maxLen) (hs : Sl w 1 A l.length (l.map fun x => .int .i32 x)) (_ : ∀ x ∈ l, (Lit.int .i32 x).wf = true) (kind : Int) (_ : (Lit.int .i64 kind).wf = true) :
    Calls Try.prog 5 #[.slice A l.length c, .int .i64 kind] w fun e w' => e = .returned (.bool true) ∧ Ext w w' := by
  by_cases h5 : l.length ≤ 200
  · by_cases k5 : kind = 5
    · subst k5; exact squeezeOthers_5 w A l c hs h5
    · by_cases k6 : kind = 6
      · subst k6; exact squeezeOthers_6 w A l c hs h5
      · exact squeezeOthers_o w A l c hs h5 kind k5 k6
  · have ct := awake_any w
    clear hs
    generalize l.length = m at *
    go_enter Try.func5, Try.ntmps5
    go_wp2_with fail
    refine ct.mono ?_
    rintro e w1 ⟨rfl, hx⟩
    go_wp2
    go_ret
    exact ⟨rfl, hx⟩
end Go.Proofs.Ytdfhefnjoekgbaa
