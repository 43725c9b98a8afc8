/- rebuslaw33.awake. -/
import Derived.Test.YtdkgiklbmbkdaaaEd
namespace Go.Proofs.Ytdkgiklbmbkdaaa
open Go.ChangeShapes Go.WideShapes Go.RowKit Go.Maps Bv Fl
set_option maxHeartbeats 2000000
set_option maxRecDepth 100000
theorem lay_cell {n : Nat} {w : World} {B j : Nat} {cs : Array Value} {u : Value} (h : Lay n w B (.agg cs)) (hu : cs[j]? = some u) : w.cell? ⟨B, j, none⟩ = some u := by
  obtain ⟨cs', e, _, hc⟩ := h
  cases e
  have := hc j u (by simpa using hu)
  rwa [Nat.zero_add] at this
theorem cell_new2 (w : World) (o1 o2 : Obj) (cs : Array Value) (t : TypeId) (j : Nat) : (((w.alloc o1).alloc o2).alloc (.cells cs t)).cell? ⟨w.heap.size + 2, j, none⟩ = cs[j]? := by
  have h := World.cell?_alloc_new ((w.alloc o1).alloc o2) cs t j
  simpa using h
theorem new_facts (w : World) (p d : Value) : ∀ w2, w2 = (((w.alloc (.map #[] 0)).alloc (.map #[] 0)).alloc (.cells #[p, .map (some w.heap.size), .map (some (w.heap.size + 1)), d] 62)) → w2.cell? ⟨w.heap.size + 2, 1, none⟩ = some (.map (some w.heap.size)) ∧ w2.cell? ⟨w.heap.size + 2, 2, none⟩ = some (.map (some (w.heap.size + 1))) ∧ w2.cell? ⟨w.heap.size + 2, 3, none⟩ = some d ∧ OM w2 w.heap.size 0 (.map []) ∧ OM w2 (w.heap.size + 1) 0 (.map []) ∧ w.heap.size + 2 < w2.heap.size ∧ True ∧ True ∧ Ext w w2 := by
  rintro w2 rfl
  refine ⟨by simp [cell_new2], by simp [cell_new2], by simp [cell_new2], ?_, ?_, by simp, trivial, trivial, ((Ext.refl w).alloc _).alloc _ |>.alloc _⟩
  · exact World.ownsMap.alloc (World.ownsMap.alloc (World.ownsMap_made w Try.prog 9 RV) _) _
  · have := World.ownsMap.alloc (World.ownsMap_made (w.alloc (.map #[] 0)) Try.prog 9 RV) (.cells #[p, .map (some w.heap.size), .map (some (w.heap.size + 1)), d] 62)
    simpa [OM] using this
theorem newO (w : World) : Calls Try.prog 5 #[.pointer none] w fun e w' => ∃ B bm bf, e = .returned (.pointer (some ⟨B, 0, none⟩)) ∧ (w.heap.size ≤ bm ∧ bm < bf ∧ bf < B ∧ B < w'.heap.size) ∧ w'.cell? ⟨B, 1, none⟩ = some (.map (some bm)) ∧ w'.cell? ⟨B, 2, none⟩ = some (.map (some bf)) ∧ w'.cell? ⟨B, 3, none⟩ = some (.int .i64 0) ∧ OM w' bm 0 (.map []) ∧ OM w' bf 0 (.map []) ∧ Ext w w' := by
  refine (new_nil w).mono ?_
  rintro e w' ⟨rfl, h⟩
  obtain ⟨h1, h2, h3, h4, h5, h6, _, _, h7⟩ := new_facts w _ _ _ h
  exact ⟨_, _, _, rfl, ⟨Nat.le_refl _, by omega, by omega, h6⟩, h1, h2, h3, h4, h5, h7⟩
theorem newI (w : World) (P : Nat) (hc : w.cell? ⟨P, 3, none⟩ = some (.int .i64 0)) : Calls Try.prog 5 #[.pointer (some ⟨P, 0, none⟩)] w fun e w' => ∃ B bm bf, e = .returned (.pointer (some ⟨B, 0, none⟩)) ∧ (w.heap.size ≤ bm ∧ bm < bf ∧ bf < B ∧ B < w'.heap.size) ∧ w'.cell? ⟨B, 1, none⟩ = some (.map (some bm)) ∧ w'.cell? ⟨B, 2, none⟩ = some (.map (some bf)) ∧ w'.cell? ⟨B, 3, none⟩ = some (.int .i64 (0 + 1)) ∧ OM w' bm 0 (.map []) ∧ OM w' bf 0 (.map []) ∧ Ext w w' := by
  refine (new_par w P 0 (by omega) hc).mono ?_
  rintro e w' ⟨rfl, h⟩
  obtain ⟨h1, h2, h3, h4, h5, h6, _, _, h7⟩ := new_facts w _ _ _ h
  exact ⟨_, _, _, rfl, ⟨Nat.le_refl _, by omega, by omega, h6⟩, h1, h2, h3, h4, h5, h7⟩
theorem set_new (w0 w : World) (s : ByteArray) (hs : s.size ≤ maxLen) (B bm bf : Nat) (E : Ext w0 w) (h0 : w0.heap.size ≤ bm) (hB : bm < B) (C1 : w.cell? ⟨B, 1, none⟩ = some (.map (some bm))) (C2 : w.cell? ⟨B, 2, none⟩ = some (.map (some bf))) (HD : OM w bm 0 (.map [])) (HF : OM w bf 0 (.map [])) (v : Value) (hv : Flat 9 v) :
    Calls Try.prog 7 #[.pointer (some ⟨B, 0, none⟩), .string s, v] w fun e w' => e = .returned (.int .i64 0) ∧ OM w' bm 1 ((DataW.map []).put (.string s.data.toList) (.held v)) ∧ Grw w bm w' ∧ Ext w0 w' :=
  set_ok w s hs B bm w0 E h0 (World.block_lt_of_cell? _ _ C1) C1 (by omega) 0 (.map []) (by omega) HD v zeroArr hv (fun w' hx => HD.fitA hs rfl w' hx)
    (fun w' hx => room_ok w' B bm bf (cell_ext hx C1) (cell_ext hx C2) 0 0 (by omega) (fun w2 h2 ty => (HD.ext (hx.trans h2)).lenA ty) (fun w2 h2 ty => (HF.ext (hx.trans h2)).lenC ty))
theorem get_new (w : World) (s : ByteArray) (hs : s.size ≤ maxLen) (B bm n : Nat) (C1 : w.cell? ⟨B, 1, none⟩ = some (.map (some bm))) (v : Value) (hv : Flat 9 v) (HD : OM w bm n ((DataW.map []).put (.string s.data.toList) (.held v))) :
    Calls Try.prog 13 #[.pointer (some ⟨B, 0, none⟩), .string s] w fun e w' => e = .returned (.tuple #[v, .bool true]) ∧ Ext w w' :=
  get_here w s B bm (World.block_lt_of_cell? _ _ C1) C1 v hv (fun w' hx => by
    have h := HD.fitA (v := v) hs (by rw [atKey_put_same ⟨[], rfl⟩ (show WideAt.IsKeyLit (.string s.data.toList) from trivial)]) w' hx
    rwa [has_put_same ⟨[], rfl⟩ (show WideAt.IsKeyLit (.string s.data.toList) from trivial)] at h)
theorem eawake_any (w : World) : Calls Try.prog 12 #[] w fun e w' => e = .returned (.bool true) ∧ Ext w w' := by
  have hs : (⟨#[97]⟩ : ByteArray).size ≤ maxLen := by simp only [maxLen]; decide
  have f1 : fi ((1 : Nat) : Int) = 4607182418800017408 := by kernel_rfl
  have f2 : fi ((2 : Nat) : Int) = 4611686018427387904 := by kernel_rfl
  have cn1 : ∀ w, Calls Try.prog 8 #[.int .u8 1] w fun e w' => ∃ A1 n1 k1 bn A3 n3 k3 A4 n4 k4 A5 n5 k5 A6 n6 k6 A7 n7 k7, e = .returned (.agg #[.slice none 0 0, .int .i64 (leastL [4607182418800017408] : Nat), .slice A1 n1 k1, .int .i64 bn, .slice A3 n3 k3, .slice A4 n4 k4, .slice A5 n5 k5, .slice A6 n6 k6, .slice A7 n7 k7]) ∧ NumS w' (.agg #[.int .i64 (leastL [4607182418800017408] : Nat), .slice A1 n1 k1, .int .i64 bn, .slice A3 n3 k3, .slice A4 n4 k4, .slice A5 n5 k5, .slice A6 n6 k6, .slice A7 n7 k7]) (leastL [4607182418800017408]) [4607182418800017408] (New w.heap.size) ∧ Ext w w' := fun w => by have h := number_any 1 (by omega) w; rw [f1] at h; exact h
  have cn2 : ∀ w, Calls Try.prog 8 #[.int .u8 2] w fun e w' => ∃ A1 n1 k1 bn A3 n3 k3 A4 n4 k4 A5 n5 k5 A6 n6 k6 A7 n7 k7, e = .returned (.agg #[.slice none 0 0, .int .i64 (leastL [4611686018427387904] : Nat), .slice A1 n1 k1, .int .i64 bn, .slice A3 n3 k3, .slice A4 n4 k4, .slice A5 n5 k5, .slice A6 n6 k6, .slice A7 n7 k7]) ∧ NumS w' (.agg #[.int .i64 (leastL [4611686018427387904] : Nat), .slice A1 n1 k1, .int .i64 bn, .slice A3 n3 k3, .slice A4 n4 k4, .slice A5 n5 k5, .slice A6 n6 k6, .slice A7 n7 k7]) (leastL [4611686018427387904]) [4611686018427387904] (New w.heap.size) ∧ Ext w w' := fun w => by have h := number_any 2 (by omega) w; rw [f2] at h; exact h
  clear f1 f2
  generalize leastL [4607182418800017408] = ka at cn1
  generalize leastL [4611686018427387904] = kb at cn2
  have e1 : (FloatKind.f64.format.order 4607182418800017408 4607182418800017408 == some .eq) = true := by kernel_rfl
  have e2 : (FloatKind.f64.format.order 4611686018427387904 4611686018427387904 == some .eq) = true := by kernel_rfl
  have cu1 : ∀ v w, IsNum w v ka [4607182418800017408] → Calls Try.prog 22 #[v, .int .i64 0] w fun e w' => e = .returned (.float .f64 4607182418800017408) ∧ Ext w w' := fun v w h => nnum_in v ka [4607182418800017408] 0 w h (by simp)
  have cu2 : ∀ v w, IsNum w v kb [4611686018427387904] → Calls Try.prog 22 #[v, .int .i64 0] w fun e w' => e = .returned (.float .f64 4611686018427387904) ∧ Ext w w' := fun v w h => nnum_in v kb [4611686018427387904] 0 w h (by simp)
  generalize hXa : [4607182418800017408] = Xa at *
  generalize hXb : [4611686018427387904] = Xb at *
  clear hXa hXb
  have E := Ext.refl w
  go_enter Try.func12, Try.ntmps12
  go_wp2_with fail
  refine (newO _).mono ?_
  rintro e w7 ⟨Bo, mo, fo, rfl, ⟨bo1, bo2, bo3, bo4⟩, O1, O2, O3, MO, FO, x⟩
  have z1 := x.size
  replace E := E.trans x
  clear x
  go_wp2_with fail
  refine (newI _ Bo O3).mono ?_
  rintro e w9 ⟨Bi, mi, fj, rfl, ⟨bi1, bi2, bi3, bi4⟩, I1, I2, I3, MI, FI, x⟩
  have z2 := x.size
  replace E := E.trans x
  replace O1 := cell_ext (x) O1
  replace O2 := cell_ext (x) O2
  replace O3 := cell_ext (x) O3
  replace MO := MO.ext x
  replace FO := FO.ext x
  clear x
  go_wp2_with fail
  refine (cn1 _).mono ?_
  rintro e w11 ⟨A1a, n1a, k1a, bna, A3a, n3a, k3a, A4a, n4a, k4a, A5a, n5a, k5a, A6a, n6a, k6a, A7a, n7a, k7a, rfl, hq, x⟩
  have Na := hq.now
  clear hq
  have z3 := x.size
  replace E := E.trans x
  replace O1 := cell_ext (x) O1
  replace O2 := cell_ext (x) O2
  replace O3 := cell_ext (x) O3
  replace MO := MO.ext x
  replace FO := FO.ext x
  replace I1 := cell_ext (x) I1
  replace I2 := cell_ext (x) I2
  replace I3 := cell_ext (x) I3
  replace MI := MI.ext x
  replace FI := FI.ext x
  clear x
  go_wp2_with fail
  refine (set_new w _ _ hs Bo mo fo E (by omega) (by omega) O1 O2 MO FO (.agg #[.slice none 0 0, .int .i64 (ka : Nat), .slice A1a n1a k1a, .int .i64 bna, .slice A3a n3a k3a, .slice A4a n4a k4a, .slice A5a n5a k5a, .slice A6a n6a k6a, .slice A7a n7a k7a]) (arr_flat _ _ _ _ _ _ _ _ _ _ _ _ _ _ _ _ _ _ _ _ _ _ _)).mono ?_
  rintro e w12 ⟨rfl, MO2, hg0, -⟩
  have hg := hg0.out
  clear hg0 MO
  have z4 := hg.size
  replace E := grown_ext E hg (by omega)
  replace O1 := cell_grown (hg) O1 (by show Bo ≠ _; omega)
  replace O2 := cell_grown (hg) O2 (by show Bo ≠ _; omega)
  replace O3 := cell_grown (hg) O3 (by show Bo ≠ _; omega)
  replace FO := FO.grown hg (by omega)
  replace I1 := cell_grown (hg) I1 (by show Bi ≠ _; omega)
  replace I2 := cell_grown (hg) I2 (by show Bi ≠ _; omega)
  replace I3 := cell_grown (hg) I3 (by show Bi ≠ _; omega)
  replace MI := MI.grown hg (by omega)
  replace FI := FI.grown hg (by omega)
  replace Na := Na.grown hg (by first | omega | (dsimp only [New]; omega))
  clear hg
  go_wp2_with fail
  refine (cn2 _).mono ?_
  rintro e w16 ⟨A1b, n1b, k1b, bnb, A3b, n3b, k3b, A4b, n4b, k4b, A5b, n5b, k5b, A6b, n6b, k6b, A7b, n7b, k7b, rfl, hq, x⟩
  have Nb := hq.now
  clear hq
  have z5 := x.size
  replace E := E.trans x
  replace O1 := cell_ext (x) O1
  replace O2 := cell_ext (x) O2
  replace O3 := cell_ext (x) O3
  replace FO := FO.ext x
  replace I1 := cell_ext (x) I1
  replace I2 := cell_ext (x) I2
  replace I3 := cell_ext (x) I3
  replace MI := MI.ext x
  replace FI := FI.ext x
  replace Na := Na.ext x
  replace MO2 := MO2.ext x
  clear x
  go_wp2_with fail
  refine (set_new w _ _ hs Bi mi fj E (by omega) (by omega) I1 I2 MI FI (.agg #[.slice none 0 0, .int .i64 (kb : Nat), .slice A1b n1b k1b, .int .i64 bnb, .slice A3b n3b k3b, .slice A4b n4b k4b, .slice A5b n5b k5b, .slice A6b n6b k6b, .slice A7b n7b k7b]) (arr_flat _ _ _ _ _ _ _ _ _ _ _ _ _ _ _ _ _ _ _ _ _ _ _)).mono ?_
  rintro e w17 ⟨rfl, MI2, hg0, -⟩
  have hg := hg0.out
  clear hg0 MI
  have z6 := hg.size
  replace E := grown_ext E hg (by omega)
  replace O1 := cell_grown (hg) O1 (by show Bo ≠ _; omega)
  replace O2 := cell_grown (hg) O2 (by show Bo ≠ _; omega)
  replace O3 := cell_grown (hg) O3 (by show Bo ≠ _; omega)
  replace FO := FO.grown hg (by omega)
  replace I1 := cell_grown (hg) I1 (by show Bi ≠ _; omega)
  replace I2 := cell_grown (hg) I2 (by show Bi ≠ _; omega)
  replace I3 := cell_grown (hg) I3 (by show Bi ≠ _; omega)
  replace FI := FI.grown hg (by omega)
  replace Na := Na.grown hg (by first | omega | (dsimp only [New]; omega))
  replace MO2 := MO2.grown hg (by omega)
  replace Nb := Nb.grown hg (by first | omega | (dsimp only [New]; omega))
  clear hg
  go_wp2_with fail
  refine (get_new _ _ hs Bi mi 1 I1 (.agg #[.slice none 0 0, .int .i64 (kb : Nat), .slice A1b n1b k1b, .int .i64 bnb, .slice A3b n3b k3b, .slice A4b n4b k4b, .slice A5b n5b k5b, .slice A6b n6b k6b, .slice A7b n7b k7b]) (arr_flat _ _ _ _ _ _ _ _ _ _ _ _ _ _ _ _ _ _ _ _ _ _ _) MI2).mono ?_
  rintro e w22 ⟨rfl, x⟩
  have z7 := x.size
  replace E := E.trans x
  replace O1 := cell_ext (x) O1
  replace O2 := cell_ext (x) O2
  replace O3 := cell_ext (x) O3
  replace FO := FO.ext x
  replace I1 := cell_ext (x) I1
  replace I2 := cell_ext (x) I2
  replace I3 := cell_ext (x) I3
  replace FI := FI.ext x
  replace Na := Na.ext x
  replace MO2 := MO2.ext x
  replace Nb := Nb.ext x
  replace MI2 := MI2.ext x
  clear x
  have TB3 : True := trivial
  have TG9 : True := trivial
  go_wp2_with (first | (clear TB3; refine allocsA rfl rfl ?_; intro B3 w3 bB3 cB3 XB3 LB3 RB3; have z8 := XB3.size; replace E := E.trans XB3; replace O1 := cell_ext (XB3) O1; replace O2 := cell_ext (XB3) O2; replace O3 := cell_ext (XB3) O3; replace FO := FO.ext XB3; replace I1 := cell_ext (XB3) I1; replace I2 := cell_ext (XB3) I2; replace I3 := cell_ext (XB3) I3; replace FI := FI.ext XB3; replace Na := Na.ext XB3; replace MO2 := MO2.ext XB3; replace Nb := Nb.ext XB3; replace MI2 := MI2.ext XB3; have cB3_0 := lay_cell LB3 (j := 0) rfl; have cB3_1 := lay_cell LB3 (j := 1) rfl; have cB3_2 := lay_cell LB3 (j := 2) rfl; have cB3_3 := lay_cell LB3 (j := 3) rfl; have cB3_4 := lay_cell LB3 (j := 4) rfl; have cB3_5 := lay_cell LB3 (j := 5) rfl; have cB3_6 := lay_cell LB3 (j := 6) rfl; have cB3_7 := lay_cell LB3 (j := 7) rfl; have cB3_8 := lay_cell LB3 (j := 8) rfl) | (clear TG9; have hRl := (RB3).lt (Nat.zero_lt_succ _); refine storesA (B := B3) rfl rfl rfl (v := (.agg #[.slice none 0 0, .int .i64 (kb : Nat), .slice A1b n1b k1b, .int .i64 bnb, .slice A3b n3b k3b, .slice A4b n4b k4b, .slice A5b n5b k5b, .slice A6b n6b k6b, .slice A7b n7b k7b])) rfl RB3 (arr_flat _ _ _ _ _ _ _ _ _ _ _ _ _ _ _ _ _ _ _ _ _ _ _) ?_; clear LB3; clear cB3_0; clear cB3_1; clear cB3_2; clear cB3_3; clear cB3_4; clear cB3_5; clear cB3_6; clear cB3_7; clear cB3_8; intro s9 G9 LB3 RQ; have z10 := G9.size; replace E := grown_ext E G9 (by omega); replace O1 := cell_grown (G9) O1 (by show Bo ≠ _; omega); replace O2 := cell_grown (G9) O2 (by show Bo ≠ _; omega); replace O3 := cell_grown (G9) O3 (by show Bo ≠ _; omega); replace FO := FO.grown G9 (by omega); replace I1 := cell_grown (G9) I1 (by show Bi ≠ _; omega); replace I2 := cell_grown (G9) I2 (by show Bi ≠ _; omega); replace I3 := cell_grown (G9) I3 (by show Bi ≠ _; omega); replace FI := FI.grown G9 (by omega); replace Na := Na.grown G9 (by first | omega | (dsimp only [New]; omega)); replace MO2 := MO2.grown G9 (by omega); replace Nb := Nb.grown G9 (by first | omega | (dsimp only [New]; omega)); replace MI2 := MI2.grown G9 (by omega); clear RB3; have RB3 := RQ; clear RQ hRl; have cB3_0 := lay_cell LB3 (j := 0) rfl; have cB3_1 := lay_cell LB3 (j := 1) rfl; have cB3_2 := lay_cell LB3 (j := 2) rfl; have cB3_3 := lay_cell LB3 (j := 3) rfl; have cB3_4 := lay_cell LB3 (j := 4) rfl; have cB3_5 := lay_cell LB3 (j := 5) rfl; have cB3_6 := lay_cell LB3 (j := 6) rfl; have cB3_7 := lay_cell LB3 (j := 7) rfl; have cB3_8 := lay_cell LB3 (j := 8) rfl; clear RB3))
  refine (get_new _ _ hs Bo mo 1 O1 (.agg #[.slice none 0 0, .int .i64 (ka : Nat), .slice A1a n1a k1a, .int .i64 bna, .slice A3a n3a k3a, .slice A4a n4a k4a, .slice A5a n5a k5a, .slice A6a n6a k6a, .slice A7a n7a k7a]) (arr_flat _ _ _ _ _ _ _ _ _ _ _ _ _ _ _ _ _ _ _ _ _ _ _) MO2).mono ?_
  rintro e w27 ⟨rfl, x⟩
  have z11 := x.size
  replace E := E.trans x
  replace O1 := cell_ext (x) O1
  replace O2 := cell_ext (x) O2
  replace O3 := cell_ext (x) O3
  replace FO := FO.ext x
  replace I1 := cell_ext (x) I1
  replace I2 := cell_ext (x) I2
  replace I3 := cell_ext (x) I3
  replace FI := FI.ext x
  replace Na := Na.ext x
  replace MO2 := MO2.ext x
  replace Nb := Nb.ext x
  replace MI2 := MI2.ext x
  replace LB3 := LB3.ext x
  replace cB3_0 := cell_ext (x) cB3_0
  replace cB3_1 := cell_ext (x) cB3_1
  replace cB3_2 := cell_ext (x) cB3_2
  replace cB3_3 := cell_ext (x) cB3_3
  replace cB3_4 := cell_ext (x) cB3_4
  replace cB3_5 := cell_ext (x) cB3_5
  replace cB3_6 := cell_ext (x) cB3_6
  replace cB3_7 := cell_ext (x) cB3_7
  replace cB3_8 := cell_ext (x) cB3_8
  clear x
  have TB5 : True := trivial
  have TG13 : True := trivial
  go_wp2_with (first | (clear TB5; refine allocsA rfl rfl ?_; intro B5 w5 bB5 cB5 XB5 LB5 RB5; have z12 := XB5.size; replace E := E.trans XB5; replace O1 := cell_ext (XB5) O1; replace O2 := cell_ext (XB5) O2; replace O3 := cell_ext (XB5) O3; replace FO := FO.ext XB5; replace I1 := cell_ext (XB5) I1; replace I2 := cell_ext (XB5) I2; replace I3 := cell_ext (XB5) I3; replace FI := FI.ext XB5; replace Na := Na.ext XB5; replace MO2 := MO2.ext XB5; replace Nb := Nb.ext XB5; replace MI2 := MI2.ext XB5; replace LB3 := LB3.ext XB5; replace cB3_0 := cell_ext (XB5) cB3_0; replace cB3_1 := cell_ext (XB5) cB3_1; replace cB3_2 := cell_ext (XB5) cB3_2; replace cB3_3 := cell_ext (XB5) cB3_3; replace cB3_4 := cell_ext (XB5) cB3_4; replace cB3_5 := cell_ext (XB5) cB3_5; replace cB3_6 := cell_ext (XB5) cB3_6; replace cB3_7 := cell_ext (XB5) cB3_7; replace cB3_8 := cell_ext (XB5) cB3_8; have cB5_0 := lay_cell LB5 (j := 0) rfl; have cB5_1 := lay_cell LB5 (j := 1) rfl; have cB5_2 := lay_cell LB5 (j := 2) rfl; have cB5_3 := lay_cell LB5 (j := 3) rfl; have cB5_4 := lay_cell LB5 (j := 4) rfl; have cB5_5 := lay_cell LB5 (j := 5) rfl; have cB5_6 := lay_cell LB5 (j := 6) rfl; have cB5_7 := lay_cell LB5 (j := 7) rfl; have cB5_8 := lay_cell LB5 (j := 8) rfl) | (clear TG13; have hRl := (RB5).lt (Nat.zero_lt_succ _); refine storesA (B := B5) rfl rfl rfl (v := (.agg #[.slice none 0 0, .int .i64 (ka : Nat), .slice A1a n1a k1a, .int .i64 bna, .slice A3a n3a k3a, .slice A4a n4a k4a, .slice A5a n5a k5a, .slice A6a n6a k6a, .slice A7a n7a k7a])) rfl RB5 (arr_flat _ _ _ _ _ _ _ _ _ _ _ _ _ _ _ _ _ _ _ _ _ _ _) ?_; clear LB5; clear cB5_0; clear cB5_1; clear cB5_2; clear cB5_3; clear cB5_4; clear cB5_5; clear cB5_6; clear cB5_7; clear cB5_8; intro s13 G13 LB5 RQ; have z14 := G13.size; replace E := grown_ext E G13 (by omega); replace O1 := cell_grown (G13) O1 (by show Bo ≠ _; omega); replace O2 := cell_grown (G13) O2 (by show Bo ≠ _; omega); replace O3 := cell_grown (G13) O3 (by show Bo ≠ _; omega); replace FO := FO.grown G13 (by omega); replace I1 := cell_grown (G13) I1 (by show Bi ≠ _; omega); replace I2 := cell_grown (G13) I2 (by show Bi ≠ _; omega); replace I3 := cell_grown (G13) I3 (by show Bi ≠ _; omega); replace FI := FI.grown G13 (by omega); replace Na := Na.grown G13 (by first | omega | (dsimp only [New]; omega)); replace MO2 := MO2.grown G13 (by omega); replace Nb := Nb.grown G13 (by first | omega | (dsimp only [New]; omega)); replace MI2 := MI2.grown G13 (by omega); replace LB3 := LB3.grown G13 (by omega); replace cB3_0 := cell_grown (G13) cB3_0 (by show B3 ≠ _; omega); replace cB3_1 := cell_grown (G13) cB3_1 (by show B3 ≠ _; omega); replace cB3_2 := cell_grown (G13) cB3_2 (by show B3 ≠ _; omega); replace cB3_3 := cell_grown (G13) cB3_3 (by show B3 ≠ _; omega); replace cB3_4 := cell_grown (G13) cB3_4 (by show B3 ≠ _; omega); replace cB3_5 := cell_grown (G13) cB3_5 (by show B3 ≠ _; omega); replace cB3_6 := cell_grown (G13) cB3_6 (by show B3 ≠ _; omega); replace cB3_7 := cell_grown (G13) cB3_7 (by show B3 ≠ _; omega); replace cB3_8 := cell_grown (G13) cB3_8 (by show B3 ≠ _; omega); clear RB5; have RB5 := RQ; clear RQ hRl; have cB5_0 := lay_cell LB5 (j := 0) rfl; have cB5_1 := lay_cell LB5 (j := 1) rfl; have cB5_2 := lay_cell LB5 (j := 2) rfl; have cB5_3 := lay_cell LB5 (j := 3) rfl; have cB5_4 := lay_cell LB5 (j := 4) rfl; have cB5_5 := lay_cell LB5 (j := 5) rfl; have cB5_6 := lay_cell LB5 (j := 6) rfl; have cB5_7 := lay_cell LB5 (j := 7) rfl; have cB5_8 := lay_cell LB5 (j := 8) rfl; clear RB5))
  refine (cu2 (.agg #[.int .i64 (kb : Nat), .slice A1b n1b k1b, .int .i64 bnb, .slice A3b n3b k3b, .slice A4b n4b k4b, .slice A5b n5b k5b, .slice A6b n6b k6b, .slice A7b n7b k7b]) _ Nb.is).mono ?_
  rintro e w37 ⟨rfl, x⟩
  have z15 := x.size
  replace E := E.trans x
  replace O1 := cell_ext (x) O1
  replace O2 := cell_ext (x) O2
  replace O3 := cell_ext (x) O3
  replace FO := FO.ext x
  replace I1 := cell_ext (x) I1
  replace I2 := cell_ext (x) I2
  replace I3 := cell_ext (x) I3
  replace FI := FI.ext x
  replace Na := Na.ext x
  replace MO2 := MO2.ext x
  replace Nb := Nb.ext x
  replace MI2 := MI2.ext x
  replace LB3 := LB3.ext x
  replace cB3_0 := cell_ext (x) cB3_0
  replace cB3_1 := cell_ext (x) cB3_1
  replace cB3_2 := cell_ext (x) cB3_2
  replace cB3_3 := cell_ext (x) cB3_3
  replace cB3_4 := cell_ext (x) cB3_4
  replace cB3_5 := cell_ext (x) cB3_5
  replace cB3_6 := cell_ext (x) cB3_6
  replace cB3_7 := cell_ext (x) cB3_7
  replace cB3_8 := cell_ext (x) cB3_8
  replace LB5 := LB5.ext x
  replace cB5_0 := cell_ext (x) cB5_0
  replace cB5_1 := cell_ext (x) cB5_1
  replace cB5_2 := cell_ext (x) cB5_2
  replace cB5_3 := cell_ext (x) cB5_3
  replace cB5_4 := cell_ext (x) cB5_4
  replace cB5_5 := cell_ext (x) cB5_5
  replace cB5_6 := cell_ext (x) cB5_6
  replace cB5_7 := cell_ext (x) cB5_7
  replace cB5_8 := cell_ext (x) cB5_8
  clear x
  go_wp2_with fail
  refine (cu1 (.agg #[.int .i64 (ka : Nat), .slice A1a n1a k1a, .int .i64 bna, .slice A3a n3a k3a, .slice A4a n4a k4a, .slice A5a n5a k5a, .slice A6a n6a k6a, .slice A7a n7a k7a]) _ Na.is).mono ?_
  rintro e w43 ⟨rfl, x⟩
  have z16 := x.size
  replace E := E.trans x
  replace O1 := cell_ext (x) O1
  replace O2 := cell_ext (x) O2
  replace O3 := cell_ext (x) O3
  replace FO := FO.ext x
  replace I1 := cell_ext (x) I1
  replace I2 := cell_ext (x) I2
  replace I3 := cell_ext (x) I3
  replace FI := FI.ext x
  replace Na := Na.ext x
  replace MO2 := MO2.ext x
  replace Nb := Nb.ext x
  replace MI2 := MI2.ext x
  replace LB3 := LB3.ext x
  replace cB3_0 := cell_ext (x) cB3_0
  replace cB3_1 := cell_ext (x) cB3_1
  replace cB3_2 := cell_ext (x) cB3_2
  replace cB3_3 := cell_ext (x) cB3_3
  replace cB3_4 := cell_ext (x) cB3_4
  replace cB3_5 := cell_ext (x) cB3_5
  replace cB3_6 := cell_ext (x) cB3_6
  replace cB3_7 := cell_ext (x) cB3_7
  replace cB3_8 := cell_ext (x) cB3_8
  replace LB5 := LB5.ext x
  replace cB5_0 := cell_ext (x) cB5_0
  replace cB5_1 := cell_ext (x) cB5_1
  replace cB5_2 := cell_ext (x) cB5_2
  replace cB5_3 := cell_ext (x) cB5_3
  replace cB5_4 := cell_ext (x) cB5_4
  replace cB5_5 := cell_ext (x) cB5_5
  replace cB5_6 := cell_ext (x) cB5_6
  replace cB5_7 := cell_ext (x) cB5_7
  replace cB5_8 := cell_ext (x) cB5_8
  clear x
  go_wp2_with fail
  refine (deep_any _ Bi _ I3).mono ?_
  rintro e w48 ⟨rfl, x⟩
  have z17 := x.size
  replace E := E.trans x
  replace O1 := cell_ext (x) O1
  replace O2 := cell_ext (x) O2
  replace O3 := cell_ext (x) O3
  replace FO := FO.ext x
  replace I1 := cell_ext (x) I1
  replace I2 := cell_ext (x) I2
  replace I3 := cell_ext (x) I3
  replace FI := FI.ext x
  replace Na := Na.ext x
  replace MO2 := MO2.ext x
  replace Nb := Nb.ext x
  replace MI2 := MI2.ext x
  replace LB3 := LB3.ext x
  replace cB3_0 := cell_ext (x) cB3_0
  replace cB3_1 := cell_ext (x) cB3_1
  replace cB3_2 := cell_ext (x) cB3_2
  replace cB3_3 := cell_ext (x) cB3_3
  replace cB3_4 := cell_ext (x) cB3_4
  replace cB3_5 := cell_ext (x) cB3_5
  replace cB3_6 := cell_ext (x) cB3_6
  replace cB3_7 := cell_ext (x) cB3_7
  replace cB3_8 := cell_ext (x) cB3_8
  replace LB5 := LB5.ext x
  replace cB5_0 := cell_ext (x) cB5_0
  replace cB5_1 := cell_ext (x) cB5_1
  replace cB5_2 := cell_ext (x) cB5_2
  replace cB5_3 := cell_ext (x) cB5_3
  replace cB5_4 := cell_ext (x) cB5_4
  replace cB5_5 := cell_ext (x) cB5_5
  replace cB5_6 := cell_ext (x) cB5_6
  replace cB5_7 := cell_ext (x) cB5_7
  replace cB5_8 := cell_ext (x) cB5_8
  clear x
  go_wp2_with fail
  go_ret
  exact ⟨rfl, E⟩
end Go.Proofs.Ytdkgiklbmbkdaaa
