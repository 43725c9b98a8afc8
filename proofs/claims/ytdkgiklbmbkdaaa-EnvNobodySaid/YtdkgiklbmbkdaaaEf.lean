/- EnvNobody. -/
import Derived.Test.YtdkgiklbmbkdaaaEe
import Derived.Test.YtdkgiklbmbkdaaaOs
namespace Go.Proofs.Ytdkgiklbmbkdaaa
open Go.ChangeShapes Go.WideShapes Go.RowKit Go.Maps Bv Fl
set_option maxHeartbeats 2000000
set_option maxRecDepth 100000
theorem Zer.grown {w w' : World} {B g : Nat} (h : Zer w B) (hg : w.grownBy w' (some g)) (hne : B ≠ g) : Zer w' B := ⟨cell_grown hg h.c0 hne, cell_grown hg h.c1 hne, cell_grown hg h.c2 hne, cell_grown hg h.c3 hne⟩
theorem envNobody_walk (w : World) (s : ByteArray) (hs : s.size ≤ maxLen) : Calls Try.prog 4 #[.string s] w fun e w' => e = .returned (.bool true) ∧ Ext w w' := by
  have cn : ∀ w, Calls Try.prog 8 #[.int .u8 1] w fun e w' => ∃ k : Nat, ∃ A1 n1 k1 bn A3 n3 k3 A4 n4 k4 A5 n5 k5 A6 n6 k6 A7 n7 k7, e = .returned (.agg #[.slice none 0 0, .int .i64 (k : Nat), .slice A1 n1 k1, .int .i64 bn, .slice A3 n3 k3, .slice A4 n4 k4, .slice A5 n5 k5, .slice A6 n6 k6, .slice A7 n7 k7]) ∧ Ext w w' := fun w => (number_any 1 (by omega) w).mono fun e w' ⟨A1, n1, k1, bn, A3, n3, k3, A4, n4, k4, A5, n5, k5, A6, n6, k6, A7, n7, k7, h, _, hx⟩ => ⟨_, A1, n1, k1, bn, A3, n3, k3, A4, n4, k4, A5, n5, k5, A6, n6, k6, A7, n7, k7, h, hx⟩
  have aw := eawake_any
  have E := Ext.refl w
  go_enter Try.func4, Try.ntmps4
  go_wp2_with fail
  obtain ⟨WL, hWL⟩ : ∃ WL, WL = (w.alloc (.cells #[.pointer none, .map none, .map none, .int .i64 0] 62)).alloc (.cells #[.pointer none, .pointer (some ⟨w.heap.size, 0, none⟩)] 24) := ⟨_, rfl⟩
  rw [← hWL]
  have HZ : Zer WL w.heap.size := by subst hWL; exact Zer.ext (w := w.alloc (.cells #[.pointer none, .map none, .map none, .int .i64 0] 62)) ⟨by simp, by simp, by simp, by simp⟩ ((Ext.refl _).alloc _)
  have R0 : WL.cell? ⟨w.heap.size + 1, 0, none⟩ = some (.pointer none) := by subst hWL; simp
  have R1 : WL.cell? ⟨w.heap.size + 1, 1, none⟩ = some (.pointer (some ⟨w.heap.size, 0, none⟩)) := by subst hWL; simp
  have EL : Ext w WL := by subst hWL; exact ((Ext.refl w).alloc _).alloc _
  clear E
  have E := EL
  clear EL
  have zE := E.size
  have hB1 : w.heap.size + 1 < WL.heap.size := World.block_lt_of_cell? _ _ R0
  clear hWL
  obtain ⟨B, hB⟩ : ∃ B, w.heap.size = B := ⟨_, rfl⟩
  rw [hB] at HZ R0 R1 hB1
  rw [hB]
  clear hB
  go_loopw [13] (fun i wr => ∃ z : Int, (z = 0 ∨ z = 1 ∨ z = 2) ∧ i = .int .i64 z ∧ Ext WL wr) (fun i _ => 2 - (intOf i).toNat)
  case atStart => exact ⟨0, .inl rfl, rfl, Ext.refl _⟩
  case round =>
    obtain ⟨z, hz, rfl, HX⟩ := hrel
    have z1 := HX.size
    replace E := E.trans HX
    replace HZ := HZ.ext HX
    replace R0 := cell_ext (HX) R0
    replace R1 := cell_ext (HX) R1
    rcases hz with rfl | rfl | rfl
    · have q20 := fun w (_ : Zer w B) => get_nil w s
      have q26 := fun w (_ : Zer w B) => fun_nil w s
      have q37 := fun w (_ : Zer w B) v hv => set_nil w s v hv
      have q44 := fun w (_ : Zer w B) v hv => bind_nil w s v hv
      have q49 := fun w (_ : Zer w B) => names_nil w
      have q55 := fun w (_ : Zer w B) => funs_nil w
      have q61 := fun w (_ : Zer w B) => deep_nil w
      go_wp2_with fail
      refine (q20 _ HZ).mono ?_
      rintro e w20 ⟨rfl, x⟩
      have z2 := x.size
      replace E := E.trans x
      replace HZ := HZ.ext x
      replace R0 := cell_ext (x) R0
      replace R1 := cell_ext (x) R1
      replace HX := HX.trans x
      clear x
      have TB5 : True := trivial
      have TG4 : True := trivial
      go_wp2_with (first | (clear TB5; refine allocsA rfl rfl ?_; intro B5 w5 bB5 cB5 XB5 LB5 RB5; have z3 := XB5.size; replace E := E.trans XB5; replace HZ := HZ.ext XB5; replace R0 := cell_ext (XB5) R0; replace R1 := cell_ext (XB5) R1; replace HX := HX.trans XB5; clear LB5) | (clear TG4; have hRl := (RB5).lt (Nat.zero_lt_succ _); refine storesA (B := B5) rfl rfl rfl (v := zeroArr) rfl RB5 zeroArr_flat ?_; intro s4 G4 LB5 RQ; have z5 := G4.size; replace E := grown_ext E G4 (by omega); replace HZ := HZ.grown G4 (by omega); replace R0 := cell_grown (G4) R0 (by show B + 1 ≠ _; omega); replace R1 := cell_grown (G4) R1 (by show B + 1 ≠ _; omega); replace HX := grown_ext HX G4 (by omega); clear RB5; have RB5 := RQ; clear RQ hRl; clear LB5))
      refine (q26 _ HZ).mono ?_
      rintro e w26 ⟨rfl, x⟩
      have z6 := x.size
      replace E := E.trans x
      replace HZ := HZ.ext x
      replace R0 := cell_ext (x) R0
      replace R1 := cell_ext (x) R1
      replace HX := HX.trans x
      replace RB5 := RB5.ext x
      clear x
      have TB7 : True := trivial
      have TG8 : True := trivial
      go_wp2_with (first | (clear TB7; refine allocsC rfl rfl ?_; intro B7 w7 bB7 cB7 XB7 LB7 RB7; have z7 := XB7.size; replace E := E.trans XB7; replace HZ := HZ.ext XB7; replace R0 := cell_ext (XB7) R0; replace R1 := cell_ext (XB7) R1; replace HX := HX.trans XB7; replace RB5 := RB5.ext XB7; clear LB7) | (clear TG8; have hRl := (RB7).lt (Nat.zero_lt_succ _); refine storesC (B := B7) rfl rfl rfl (v := zeroClo) rfl RB7 zeroClo_flat ?_; intro s8 G8 LB7 RQ; have z9 := G8.size; replace E := grown_ext E G8 (by omega); replace HZ := HZ.grown G8 (by omega); replace R0 := cell_grown (G8) R0 (by show B + 1 ≠ _; omega); replace R1 := cell_grown (G8) R1 (by show B + 1 ≠ _; omega); replace HX := grown_ext HX G8 (by omega); replace RB5 := RB5.grown G8 (by omega); clear RB7; have RB7 := RQ; clear RQ hRl; clear LB7))
      refine (cn _).mono ?_
      rintro e w36 ⟨k, A1, n1, k1, bn, A3, n3, k3, A4, n4, k4, A5, n5, k5, A6, n6, k6, A7, n7, k7, rfl, x⟩
      have z10 := x.size
      replace E := E.trans x
      replace HZ := HZ.ext x
      replace R0 := cell_ext (x) R0
      replace R1 := cell_ext (x) R1
      replace HX := HX.trans x
      replace RB5 := RB5.ext x
      replace RB7 := RB7.ext x
      clear x
      go_wp2_with fail
      refine (q37 _ HZ (.agg #[.slice none 0 0, .int .i64 (k : Nat), .slice A1 n1 k1, .int .i64 bn, .slice A3 n3 k3, .slice A4 n4 k4, .slice A5 n5 k5, .slice A6 n6 k6, .slice A7 n7 k7]) (arr_flat _ _ _ _ _ _ _ _ _ _ _ _ _ _ _ _ _ _ _ _ _ _ _)).mono ?_
      rintro e w37 ⟨rfl, x⟩
      have z11 := x.size
      replace E := E.trans x
      replace HZ := HZ.ext x
      replace R0 := cell_ext (x) R0
      replace R1 := cell_ext (x) R1
      replace HX := HX.trans x
      replace RB5 := RB5.ext x
      replace RB7 := RB7.ext x
      clear x
      go_wp2_with fail
      refine (q44 _ HZ zeroNode zeroNode_flat).mono ?_
      rintro e w44 ⟨rfl, x⟩
      have z12 := x.size
      replace E := E.trans x
      replace HZ := HZ.ext x
      replace R0 := cell_ext (x) R0
      replace R1 := cell_ext (x) R1
      replace HX := HX.trans x
      replace RB5 := RB5.ext x
      replace RB7 := RB7.ext x
      clear x
      go_wp2_with fail
      refine (q49 _ HZ).mono ?_
      rintro e w49 ⟨rfl, x⟩
      have z13 := x.size
      replace E := E.trans x
      replace HZ := HZ.ext x
      replace R0 := cell_ext (x) R0
      replace R1 := cell_ext (x) R1
      replace HX := HX.trans x
      replace RB5 := RB5.ext x
      replace RB7 := RB7.ext x
      clear x
      go_wp2_with fail
      refine (q55 _ HZ).mono ?_
      rintro e w55 ⟨rfl, x⟩
      have z14 := x.size
      replace E := E.trans x
      replace HZ := HZ.ext x
      replace R0 := cell_ext (x) R0
      replace R1 := cell_ext (x) R1
      replace HX := HX.trans x
      replace RB5 := RB5.ext x
      replace RB7 := RB7.ext x
      clear x
      go_wp2_with fail
      refine (q61 _ HZ).mono ?_
      rintro e w61 ⟨rfl, x⟩
      have z15 := x.size
      replace E := E.trans x
      replace HZ := HZ.ext x
      replace R0 := cell_ext (x) R0
      replace R1 := cell_ext (x) R1
      replace HX := HX.trans x
      replace RB5 := RB5.ext x
      replace RB7 := RB7.ext x
      clear x
      go_wp2_with fail
      exact ⟨⟨1, by omega, rfl, HX⟩, by simp [intOf]⟩
    · have q20 := fun w (h : Zer w B) => get_zero w s hs B h
      have q26 := fun w (h : Zer w B) => fun_zero w s hs B h
      have q37 := fun w (h : Zer w B) v hv => set_zero w s hs B h v hv
      have q44 := fun w (h : Zer w B) v hv => bind_zero w s hs B h v hv
      have q49 := fun w (h : Zer w B) => names_zero w B h
      have q55 := fun w (h : Zer w B) => funs_zero w B h
      have q61 := fun w (h : Zer w B) => deep_zero w B h
      go_wp2_with fail
      refine (q20 _ HZ).mono ?_
      rintro e w20 ⟨rfl, x⟩
      have z16 := x.size
      replace E := E.trans x
      replace HZ := HZ.ext x
      replace R0 := cell_ext (x) R0
      replace R1 := cell_ext (x) R1
      replace HX := HX.trans x
      clear x
      have TB5 : True := trivial
      have TG18 : True := trivial
      go_wp2_with (first | (clear TB5; refine allocsA rfl rfl ?_; intro B5 w5 bB5 cB5 XB5 LB5 RB5; have z17 := XB5.size; replace E := E.trans XB5; replace HZ := HZ.ext XB5; replace R0 := cell_ext (XB5) R0; replace R1 := cell_ext (XB5) R1; replace HX := HX.trans XB5; clear LB5) | (clear TG18; have hRl := (RB5).lt (Nat.zero_lt_succ _); refine storesA (B := B5) rfl rfl rfl (v := zeroArr) rfl RB5 zeroArr_flat ?_; intro s18 G18 LB5 RQ; have z19 := G18.size; replace E := grown_ext E G18 (by omega); replace HZ := HZ.grown G18 (by omega); replace R0 := cell_grown (G18) R0 (by show B + 1 ≠ _; omega); replace R1 := cell_grown (G18) R1 (by show B + 1 ≠ _; omega); replace HX := grown_ext HX G18 (by omega); clear RB5; have RB5 := RQ; clear RQ hRl; clear LB5 RB5))
      refine (q26 _ HZ).mono ?_
      rintro e w26 ⟨rfl, x⟩
      have z20 := x.size
      replace E := E.trans x
      replace HZ := HZ.ext x
      replace R0 := cell_ext (x) R0
      replace R1 := cell_ext (x) R1
      replace HX := HX.trans x
      clear x
      have TB7 : True := trivial
      have TG22 : True := trivial
      go_wp2_with (first | (clear TB7; refine allocsC rfl rfl ?_; intro B7 w7 bB7 cB7 XB7 LB7 RB7; have z21 := XB7.size; replace E := E.trans XB7; replace HZ := HZ.ext XB7; replace R0 := cell_ext (XB7) R0; replace R1 := cell_ext (XB7) R1; replace HX := HX.trans XB7; clear LB7) | (clear TG22; have hRl := (RB7).lt (Nat.zero_lt_succ _); refine storesC (B := B7) rfl rfl rfl (v := zeroClo) rfl RB7 zeroClo_flat ?_; intro s22 G22 LB7 RQ; have z23 := G22.size; replace E := grown_ext E G22 (by omega); replace HZ := HZ.grown G22 (by omega); replace R0 := cell_grown (G22) R0 (by show B + 1 ≠ _; omega); replace R1 := cell_grown (G22) R1 (by show B + 1 ≠ _; omega); replace HX := grown_ext HX G22 (by omega); clear RB7; have RB7 := RQ; clear RQ hRl; clear LB7 RB7))
      refine (cn _).mono ?_
      rintro e w36 ⟨k, A1, n1, k1, bn, A3, n3, k3, A4, n4, k4, A5, n5, k5, A6, n6, k6, A7, n7, k7, rfl, x⟩
      have z24 := x.size
      replace E := E.trans x
      replace HZ := HZ.ext x
      replace R0 := cell_ext (x) R0
      replace R1 := cell_ext (x) R1
      replace HX := HX.trans x
      clear x
      go_wp2_with fail
      refine (q37 _ HZ (.agg #[.slice none 0 0, .int .i64 (k : Nat), .slice A1 n1 k1, .int .i64 bn, .slice A3 n3 k3, .slice A4 n4 k4, .slice A5 n5 k5, .slice A6 n6 k6, .slice A7 n7 k7]) (arr_flat _ _ _ _ _ _ _ _ _ _ _ _ _ _ _ _ _ _ _ _ _ _ _)).mono ?_
      rintro e w37 ⟨rfl, x⟩
      have z25 := x.size
      replace E := E.trans x
      replace HZ := HZ.ext x
      replace R0 := cell_ext (x) R0
      replace R1 := cell_ext (x) R1
      replace HX := HX.trans x
      clear x
      go_wp2_with fail
      refine (q44 _ HZ zeroNode zeroNode_flat).mono ?_
      rintro e w44 ⟨rfl, x⟩
      have z26 := x.size
      replace E := E.trans x
      replace HZ := HZ.ext x
      replace R0 := cell_ext (x) R0
      replace R1 := cell_ext (x) R1
      replace HX := HX.trans x
      clear x
      go_wp2_with fail
      refine (q49 _ HZ).mono ?_
      rintro e w49 ⟨rfl, x⟩
      have z27 := x.size
      replace E := E.trans x
      replace HZ := HZ.ext x
      replace R0 := cell_ext (x) R0
      replace R1 := cell_ext (x) R1
      replace HX := HX.trans x
      clear x
      go_wp2_with fail
      refine (q55 _ HZ).mono ?_
      rintro e w55 ⟨rfl, x⟩
      have z28 := x.size
      replace E := E.trans x
      replace HZ := HZ.ext x
      replace R0 := cell_ext (x) R0
      replace R1 := cell_ext (x) R1
      replace HX := HX.trans x
      clear x
      go_wp2_with fail
      refine (q61 _ HZ).mono ?_
      rintro e w61 ⟨rfl, x⟩
      have z29 := x.size
      replace E := E.trans x
      replace HZ := HZ.ext x
      replace R0 := cell_ext (x) R0
      replace R1 := cell_ext (x) R1
      replace HX := HX.trans x
      clear x
      go_wp2_with fail
      exact ⟨⟨2, by omega, rfl, HX⟩, by simp [intOf]⟩
    · clear HX
      go_wp2_with fail
      refine (aw _).mono ?_
      rintro e w65 ⟨rfl, x⟩
      have z30 := x.size
      replace E := E.trans x
      replace HZ := HZ.ext x
      replace R0 := cell_ext (x) R0
      replace R1 := cell_ext (x) R1
      clear x
      go_wp2_with fail
      go_ret
      exact ⟨rfl, E⟩
end Go.Proofs.Ytdkgiklbmbkdaaa
