/- VecApart: the walk. -/
import Derived.Test.YtmjikdkdccnbaaaKe
namespace Go.Proofs.Ytmjikdkdccnbaaa
open Go.ChangeShapes Go.WideShapes Go.RowKit Bv Fl
set_option maxHeartbeats 2000000
set_option maxRecDepth 100000
theorem vapart_main (A : Option Addr) (n c : Nat) (A' : Option Addr) (m c' : Nat) (A'' : Option Addr) (q c'' : Nat) (s r l : List Int) (w : World) (hn : Hid (n = s.length)) (hq : Hid (q = l.length))
    (HS : Hid (Sl w 1 A n (i8s s))) (HS' : Hid (Sl w 1 A' m (i32s r))) (HS'' : Hid (Sl w 1 A'' q (i64s l))) (o1 : ∀ u ∈ i8s s, u.oneCell' = true) (o2 : ∀ u ∈ i32s r, u.oneCell' = true) (o3 : ∀ u ∈ i64s l, u.oneCell' = true)
    (cs : ∀ w', Ext w w' → Calls Try.prog 19 #[.slice A'' q c''] w' fun e w2 => e = .returned (.bool true) ∧ Ext w' w2)
    (cU : ∀ B b w' S, SlS w' 1 B n (i8s s) S → Calls Try.prog 20 #[.slice B n b] w' fun e w2 => ∃ v, e = .returned v ∧ VecS w2 v (VD.smalls s) (New w'.heap.size) ∧ Ext w' w2)
    (cV : ∀ B b w' S, SlS w' 1 B m (i32s r) S → Calls Try.prog 9 #[.slice B m b] w' fun e w2 => ∃ v, e = .returned v ∧ VecS w2 v (VD.chars r) (New w'.heap.size) ∧ Ext w' w2)
    (cW : ∀ B b w' S, SlS w' 1 B q (i64s l) S → Calls Try.prog 21 #[.slice B q b] w' fun e w2 => ∃ v, e = .returned (.tuple #[v, .bool true]) ∧ VecS w2 v (VD.ints l) (New w'.heap.size) ∧ Ext w' w2)
    (cT : ∀ v w', IsVec w' v (VD.chars r) → Calls Try.prog 18 #[v] w' fun e w2 => ∃ B b g, e = .returned (.slice B m b) ∧ w'.heap.size ≤ g ∧ g ≤ w2.heap.size ∧ RowN 21 w2 g B m b ∧ SlS w2 1 B m (i32s r) (New w'.heap.size) ∧ Ext w' w2)
    (cM : ∀ v w', IsVec w' v (VD.ints l) → Calls Try.prog 22 #[v] w' fun e w2 => ∃ B b g, e = .returned (.tuple #[.slice B q b, .bool true]) ∧ w'.heap.size ≤ g ∧ g ≤ w2.heap.size ∧ RowN 2 w2 g B q b ∧ SlS w2 1 B q (i64s l) (New w'.heap.size) ∧ Ext w' w2)
    (cL : ∀ v w', IsVec w' v (VD.smalls s) → Calls Try.prog 13 #[v] w' fun e w2 => e = .returned (.int .i64 (n : Int)) ∧ Ext w' w2)
    (cR : ∀ B b w', Sl w' 1 B m (i32s r) → Sl w' 1 A' m (i32s r) → Calls Try.prog 16 #[.slice B m b, .slice A' m c'] w' fun e w2 => e = .returned (.bool true) ∧ Ext w' w2)
    (cN : ∀ v w' k, IsVec w' v (VD.smalls s) → k < n → Calls Try.prog 23 #[v, .int .i64 (k : Int)] w' fun e w2 => e = .returned (.float .f64 (fi (s.getD k 0))) ∧ Ext w' w2)
    (aw : ∀ w', Calls Try.prog 8 #[] w' fun e w2 => e = .returned (.bool true) ∧ Ext w' w2)
    (hfi : Hid (∀ k, k < n → FloatKind.f64.format.order (fi (s.getD k 0)) (floatOfInt FloatKind.f64 (s.getD k 0)) = some .eq)) (h1 : n ≤ 200) (h2 : m ≤ 200) (h3 : q ≤ 200) : Calls Try.prog 4 #[.slice A n c, .slice A' m c', .slice A'' q c''] w fun e w' => e = .returned (.bool true) ∧ Ext w w' := by
  have hb8 := fun w : World => run_buildSlice_none (P := Try.prog) 30 50 Try.underlying30 (by kernel_rfl) w
  have hb3 := fun w : World => run_buildSlice_none (P := Try.prog) 25 21 Try.underlying25 (by kernel_rfl) w
  have hb6 := fun w : World => run_buildSlice_none (P := Try.prog) 31 2 Try.underlying31 (by kernel_rfl) w
  have E := Ext.refl w
  go_enter Try.func4, Try.ntmps4
  go_wp2_with fail
  refine (cs _ E).mono ?_
  rintro e w41 ⟨rfl, x⟩
  have z1 := x.size
  replace E := E.trans x
  clear x
  have TA47 : True := trivial
  have TA50 : True := trivial
  have TA53 : True := trivial
  go_wp2_with (first | (clear TA47; refine appn_i8 (w := w41) rfl rfl rfl rfl rfl (HS.out.ext E) o1 (by omega) ?_; intro A47 c47 g47 w47 bg47 cg47 N47 S47 X47; have z2 := X47.size; replace E := E.trans X47; clear X47) | (clear TA50; refine appn_i32 (w := w47) rfl rfl rfl rfl rfl (HS'.out.ext E) o2 (by omega) ?_; intro A50 c50 g50 w50 bg50 cg50 N50 S50 X50; have z3 := X50.size; replace E := E.trans X50; replace N47 := N47.ext X50; replace S47 := S47.ext X50; clear X50) | (clear TA53; refine appn_i64 (w := w50) rfl rfl rfl rfl rfl (HS''.out.ext E) o3 (by omega) ?_; intro A53 c53 g53 w53 bg53 cg53 N53 S53 X53; have z4 := X53.size; replace E := E.trans X53; replace N47 := N47.ext X53; replace S47 := S47.ext X53; replace N50 := N50.ext X53; replace S50 := S50.ext X53; clear X53))
  refine (cU A47 c47 _ _ S47).mono ?_
  rintro e w55 ⟨u, rfl, hq, x⟩
  have HU := hq.now
  clear hq
  have z5 := x.size
  replace E := E.trans x
  replace N47 := N47.ext x
  replace S47 := S47.ext x
  replace N50 := N50.ext x
  replace S50 := S50.ext x
  replace N53 := N53.ext x
  replace S53 := S53.ext x
  clear x
  go_wp2_with fail
  refine (cV A50 c50 _ _ S50).mono ?_
  rintro e w57 ⟨v, rfl, hq, x⟩
  have HV := hq.now
  clear hq
  have z6 := x.size
  replace E := E.trans x
  replace N47 := N47.ext x
  replace S47 := S47.ext x
  replace N50 := N50.ext x
  replace S50 := S50.ext x
  replace N53 := N53.ext x
  replace S53 := S53.ext x
  replace HU := HU.ext x
  clear x
  have TB10 : True := trivial
  have TB11 : True := trivial
  have TG9 : True := trivial
  have TG11 : True := trivial
  go_wp2_with (first | (clear TB10; refine allocsV rfl rfl ?_; intro B10 w10 bB10 cB10 XB10 LB10 RB10; have z7 := XB10.size; replace E := E.trans XB10; replace N47 := N47.ext XB10; replace S47 := S47.ext XB10; replace N50 := N50.ext XB10; replace S50 := S50.ext XB10; replace N53 := N53.ext XB10; replace S53 := S53.ext XB10; replace HU := HU.ext XB10; replace HV := HV.ext XB10) | (clear TB11; refine allocsV rfl rfl ?_; intro B11 w11 bB11 cB11 XB11 LB11 RB11; have z8 := XB11.size; replace E := E.trans XB11; replace N47 := N47.ext XB11; replace S47 := S47.ext XB11; replace N50 := N50.ext XB11; replace S50 := S50.ext XB11; replace N53 := N53.ext XB11; replace S53 := S53.ext XB11; replace HU := HU.ext XB11; replace HV := HV.ext XB11; replace LB10 := LB10.ext XB11; replace RB10 := RB10.ext XB11) | (clear TG9; have hRl := (RB10).lt (Nat.zero_lt_succ _); refine storesV (B := B10) rfl rfl rfl (v := u) rfl RB10 HU.is.flat ?_; clear LB10; intro s9 G9 LB10 RQ; have z10 := G9.size; replace E := grown_ext E G9 (by omega); replace N47 := N47.grown G9 (by omega); replace S47 := S47.grown G9 (by first | omega | (dsimp only [New]; omega)); replace N50 := N50.grown G9 (by omega); replace S50 := S50.grown G9 (by first | omega | (dsimp only [New]; omega)); replace N53 := N53.grown G9 (by omega); replace S53 := S53.grown G9 (by first | omega | (dsimp only [New]; omega)); replace HU := HU.grown G9 (by first | omega | (dsimp only [New]; omega)); replace HV := HV.grown G9 (by first | omega | (dsimp only [New]; omega)); replace LB11 := LB11.grown G9 (by omega); replace RB11 := RB11.grown G9 (by omega); clear RB10; have RB10 := RQ; clear RQ hRl; clear RB10) | (clear TG11; have hRl := (RB11).lt (Nat.zero_lt_succ _); refine storesV (B := B11) rfl rfl rfl (v := v) rfl RB11 HV.is.flat ?_; clear LB11; intro s11 G11 LB11 RQ; have z12 := G11.size; replace E := grown_ext E G11 (by omega); replace N47 := N47.grown G11 (by omega); replace S47 := S47.grown G11 (by first | omega | (dsimp only [New]; omega)); replace N50 := N50.grown G11 (by omega); replace S50 := S50.grown G11 (by first | omega | (dsimp only [New]; omega)); replace N53 := N53.grown G11 (by omega); replace S53 := S53.grown G11 (by first | omega | (dsimp only [New]; omega)); replace HU := HU.grown G11 (by first | omega | (dsimp only [New]; omega)); replace HV := HV.grown G11 (by first | omega | (dsimp only [New]; omega)); replace LB10 := LB10.grown G11 (by omega); clear RB11; have RB11 := RQ; clear RQ hRl; clear RB11))
  refine (cW A53 c53 _ _ S53).mono ?_
  rintro e w60 ⟨z, rfl, hq, x⟩
  have HZ := hq.now
  clear hq
  have z13 := x.size
  replace E := E.trans x
  replace N47 := N47.ext x
  replace S47 := S47.ext x
  replace N50 := N50.ext x
  replace S50 := S50.ext x
  replace N53 := N53.ext x
  replace S53 := S53.ext x
  replace HU := HU.ext x
  replace HV := HV.ext x
  replace LB10 := LB10.ext x
  replace LB11 := LB11.ext x
  clear x
  clear S47 S50 S53
  have TB12 : True := trivial
  have TG15 : True := trivial
  go_wp2_with (first | (clear TB12; refine allocsV rfl rfl ?_; intro B12 w12 bB12 cB12 XB12 LB12 RB12; have z14 := XB12.size; replace E := E.trans XB12; replace N47 := N47.ext XB12; replace N50 := N50.ext XB12; replace N53 := N53.ext XB12; replace HU := HU.ext XB12; replace HV := HV.ext XB12; replace LB10 := LB10.ext XB12; replace LB11 := LB11.ext XB12; replace HZ := HZ.ext XB12) | (clear TG15; have hRl := (RB12).lt (Nat.zero_lt_succ _); refine storesV (B := B12) rfl rfl rfl (v := z) rfl RB12 HZ.is.flat ?_; clear LB12; intro s15 G15 LB12 RQ; have z16 := G15.size; replace E := grown_ext E G15 (by omega); replace N47 := N47.grown G15 (by omega); replace N50 := N50.grown G15 (by omega); replace N53 := N53.grown G15 (by omega); replace HU := HU.grown G15 (by first | omega | (dsimp only [New]; omega)); replace HV := HV.grown G15 (by first | omega | (dsimp only [New]; omega)); replace LB10 := LB10.grown G15 (by omega); replace LB11 := LB11.grown G15 (by omega); replace HZ := HZ.grown G15 (by first | omega | (dsimp only [New]; omega)); clear RB12; have RB12 := RQ; clear RQ hRl; clear RB12))
  go_loopw [14] (fun i wr => ∃ k : Nat, k ≤ n ∧ i = .int .i64 k ∧ Grw s15 g47 wr ∧ RowN 50 wr g47 A47 n c47) (fun i _ => n - (intOf i).toNat)
  case atStart => exact ⟨0, Nat.zero_le _, rfl, Grw.refl _ _, N47⟩
  case round =>
    obtain ⟨k, hk, rfl, HG, HN⟩ := hrel
    clear N47
    have z17 := HG.out.size
    replace E := grown_ext E HG.out (by omega)
    replace N50 := N50.grown HG.out (by omega)
    replace N53 := N53.grown HG.out (by omega)
    replace HU := HU.grown HG.out (by first | omega | (dsimp only [New]; omega))
    replace HV := HV.grown HG.out (by first | omega | (dsimp only [New]; omega))
    replace LB10 := LB10.grown HG.out (by omega)
    replace LB11 := LB11.grown HG.out (by omega)
    replace HZ := HZ.grown HG.out (by first | omega | (dsimp only [New]; omega))
    replace LB12 := LB12.grown HG.out (by omega)
    by_cases hlt : k < n
    · obtain ⟨xs, rfl, O1⟩ := HN.yes (by omega)
      clear HN
      have TG18 : True := trivial
      go_wp2_with (clear TG18; have hRl := O1.lt; refine storesc_i8 rfl rfl (g := g47) (k := k) (n := n) (by rfl) rfl (by rfl) O1 hlt ?_; clear O1; intro s18 G18 O1; have z19 := G18.size; replace E := grown_ext E G18 (by omega); replace N50 := N50.grown G18 (by omega); replace N53 := N53.grown G18 (by omega); replace HU := HU.grown G18 (by first | omega | (dsimp only [New]; omega)); replace HV := HV.grown G18 (by first | omega | (dsimp only [New]; omega)); replace LB10 := LB10.grown G18 (by omega); replace LB11 := LB11.grown G18 (by omega); replace HZ := HZ.grown G18 (by first | omega | (dsimp only [New]; omega)); replace LB12 := LB12.grown G18 (by omega); replace HG := HG.grown G18 (by omega); clear hRl G18)
      exact ⟨⟨k + 1, by omega, by go_num, HG, .inr ⟨_, rfl, O1⟩⟩, by simp [intOf]; omega⟩
    · clear HG HN
      go_wp2_with fail
      generalize wr = wq20 at *
      go_loopw [15] (fun i wr => ∃ k : Nat, k ≤ m ∧ i = .int .i64 k ∧ Grw wq20 g50 wr ∧ RowN 21 wr g50 A50 m c50) (fun i _ => m - (intOf i).toNat)
      case atStart => exact ⟨0, Nat.zero_le _, rfl, Grw.refl _ _, N50⟩
      case round =>
        obtain ⟨k, hk, rfl, HG, HN⟩ := hrel
        clear N50
        have z21 := HG.out.size
        replace E := grown_ext E HG.out (by omega)
        replace N53 := N53.grown HG.out (by omega)
        replace HU := HU.grown HG.out (by first | omega | (dsimp only [New]; omega))
        replace HV := HV.grown HG.out (by first | omega | (dsimp only [New]; omega))
        replace LB10 := LB10.grown HG.out (by omega)
        replace LB11 := LB11.grown HG.out (by omega)
        replace HZ := HZ.grown HG.out (by first | omega | (dsimp only [New]; omega))
        replace LB12 := LB12.grown HG.out (by omega)
        by_cases hlt : k < m
        · obtain ⟨xs, rfl, O2⟩ := HN.yes (by omega)
          clear HN
          have TG22 : True := trivial
          go_wp2_with (clear TG22; have hRl := O2.lt; refine storesc_i32 rfl rfl (g := g50) (k := k) (n := m) (by rfl) rfl (by rfl) O2 hlt ?_; clear O2; intro s22 G22 O2; have z23 := G22.size; replace E := grown_ext E G22 (by omega); replace N53 := N53.grown G22 (by omega); replace HU := HU.grown G22 (by first | omega | (dsimp only [New]; omega)); replace HV := HV.grown G22 (by first | omega | (dsimp only [New]; omega)); replace LB10 := LB10.grown G22 (by omega); replace LB11 := LB11.grown G22 (by omega); replace HZ := HZ.grown G22 (by first | omega | (dsimp only [New]; omega)); replace LB12 := LB12.grown G22 (by omega); replace HG := HG.grown G22 (by omega); clear hRl G22)
          exact ⟨⟨k + 1, by omega, by go_num, HG, .inr ⟨_, rfl, O2⟩⟩, by simp [intOf]; omega⟩
        · clear HG HN
          go_wp2_with fail
          generalize wr = wq24 at *
          go_loopw [16] (fun i wr => ∃ k : Nat, k ≤ q ∧ i = .int .i64 k ∧ Grw wq24 g53 wr ∧ RowN 2 wr g53 A53 q c53) (fun i _ => q - (intOf i).toNat)
          case atStart => exact ⟨0, Nat.zero_le _, rfl, Grw.refl _ _, N53⟩
          case round =>
            obtain ⟨k, hk, rfl, HG, HN⟩ := hrel
            clear N53
            have z25 := HG.out.size
            replace E := grown_ext E HG.out (by omega)
            replace HU := HU.grown HG.out (by first | omega | (dsimp only [New]; omega))
            replace HV := HV.grown HG.out (by first | omega | (dsimp only [New]; omega))
            replace LB10 := LB10.grown HG.out (by omega)
            replace LB11 := LB11.grown HG.out (by omega)
            replace HZ := HZ.grown HG.out (by first | omega | (dsimp only [New]; omega))
            replace LB12 := LB12.grown HG.out (by omega)
            by_cases hlt : k < q
            · obtain ⟨xs, rfl, O3⟩ := HN.yes (by omega)
              clear HN
              have TG26 : True := trivial
              go_wp2_with (clear TG26; have hRl := O3.lt; refine storesc_i64 rfl rfl (g := g53) (k := k) (n := q) (by rfl) rfl (by rfl) O3 hlt ?_; clear O3; intro s26 G26 O3; have z27 := G26.size; replace E := grown_ext E G26 (by omega); replace HU := HU.grown G26 (by first | omega | (dsimp only [New]; omega)); replace HV := HV.grown G26 (by first | omega | (dsimp only [New]; omega)); replace LB10 := LB10.grown G26 (by omega); replace LB11 := LB11.grown G26 (by omega); replace HZ := HZ.grown G26 (by first | omega | (dsimp only [New]; omega)); replace LB12 := LB12.grown G26 (by omega); replace HG := HG.grown G26 (by omega); clear hRl G26)
              exact ⟨⟨k + 1, by omega, by go_num, HG, .inr ⟨_, rfl, O3⟩⟩, by simp [intOf]; omega⟩
            · clear HG HN
              go_wp2_with (refine loadsV (B := B11) (by rfl) rfl rfl LB11 ?_)
              refine (cT v _ HV.is).mono ?_
              rintro e w91 ⟨AT, bT, gT, rfl, hgT, hgT2, NT, hq, x⟩
              clear hq
              have z28 := x.size
              replace E := E.trans x
              replace HU := HU.ext x
              replace HV := HV.ext x
              replace LB10 := LB10.ext x
              replace LB11 := LB11.ext x
              replace HZ := HZ.ext x
              replace LB12 := LB12.ext x
              clear x
              go_wp2_with fail
              go_loopw [18] (fun i wr => ∃ k : Nat, k ≤ m ∧ i = .int .i64 k ∧ Grw w91 gT wr ∧ RowN 21 wr gT AT m bT) (fun i _ => m - (intOf i).toNat)
              case atStart => exact ⟨0, Nat.zero_le _, rfl, Grw.refl _ _, NT⟩
              case round =>
                obtain ⟨k, hk, rfl, HG, HN⟩ := hrel
                clear NT
                have z29 := HG.out.size
                replace E := grown_ext E HG.out (by omega)
                replace HU := HU.grown HG.out (by first | omega | (dsimp only [New]; omega))
                replace HV := HV.grown HG.out (by first | omega | (dsimp only [New]; omega))
                replace LB10 := LB10.grown HG.out (by omega)
                replace LB11 := LB11.grown HG.out (by omega)
                replace HZ := HZ.grown HG.out (by first | omega | (dsimp only [New]; omega))
                replace LB12 := LB12.grown HG.out (by omega)
                by_cases hlt : k < m
                · obtain ⟨xs, rfl, O4⟩ := HN.yes (by omega)
                  clear HN
                  have TG30 : True := trivial
                  go_wp2_with (clear TG30; have hRl := O4.lt; refine storesc_i32 rfl rfl (g := gT) (k := k) (n := m) (by rfl) rfl (by rfl) O4 hlt ?_; clear O4; intro s30 G30 O4; have z31 := G30.size; replace E := grown_ext E G30 (by omega); replace HU := HU.grown G30 (by first | omega | (dsimp only [New]; omega)); replace HV := HV.grown G30 (by first | omega | (dsimp only [New]; omega)); replace LB10 := LB10.grown G30 (by omega); replace LB11 := LB11.grown G30 (by omega); replace HZ := HZ.grown G30 (by first | omega | (dsimp only [New]; omega)); replace LB12 := LB12.grown G30 (by omega); replace HG := HG.grown G30 (by omega); clear hRl G30)
                  exact ⟨⟨k + 1, by omega, by go_num, HG, .inr ⟨_, rfl, O4⟩⟩, by simp [intOf]; omega⟩
                · clear HG HN
                  go_wp2_with (refine loadsV (B := B12) (by rfl) rfl rfl LB12 ?_)
                  refine (cM z _ HZ.is).mono ?_
                  rintro e w103 ⟨AM, bM, gM, rfl, hgM, hgM2, NM, hq, x⟩
                  clear hq
                  have z32 := x.size
                  replace E := E.trans x
                  replace HU := HU.ext x
                  replace HV := HV.ext x
                  replace LB10 := LB10.ext x
                  replace LB11 := LB11.ext x
                  replace HZ := HZ.ext x
                  replace LB12 := LB12.ext x
                  clear x
                  go_wp2_with fail
                  go_loopw [21] (fun i wr => ∃ k : Nat, k ≤ q ∧ i = .int .i64 k ∧ Grw w103 gM wr ∧ RowN 2 wr gM AM q bM) (fun i _ => q - (intOf i).toNat)
                  case atStart => exact ⟨0, Nat.zero_le _, rfl, Grw.refl _ _, NM⟩
                  case round =>
                    obtain ⟨k, hk, rfl, HG, HN⟩ := hrel
                    clear NM
                    have z33 := HG.out.size
                    replace E := grown_ext E HG.out (by omega)
                    replace HU := HU.grown HG.out (by first | omega | (dsimp only [New]; omega))
                    replace HV := HV.grown HG.out (by first | omega | (dsimp only [New]; omega))
                    replace LB10 := LB10.grown HG.out (by omega)
                    replace LB11 := LB11.grown HG.out (by omega)
                    replace HZ := HZ.grown HG.out (by first | omega | (dsimp only [New]; omega))
                    replace LB12 := LB12.grown HG.out (by omega)
                    by_cases hlt : k < q
                    · obtain ⟨xs, rfl, O5⟩ := HN.yes (by omega)
                      clear HN
                      have TG34 : True := trivial
                      go_wp2_with (clear TG34; have hRl := O5.lt; refine storesc_i64 rfl rfl (g := gM) (k := k) (n := q) (by rfl) rfl (by rfl) O5 hlt ?_; clear O5; intro s34 G34 O5; have z35 := G34.size; replace E := grown_ext E G34 (by omega); replace HU := HU.grown G34 (by first | omega | (dsimp only [New]; omega)); replace HV := HV.grown G34 (by first | omega | (dsimp only [New]; omega)); replace LB10 := LB10.grown G34 (by omega); replace LB11 := LB11.grown G34 (by omega); replace HZ := HZ.grown G34 (by first | omega | (dsimp only [New]; omega)); replace LB12 := LB12.grown G34 (by omega); replace HG := HG.grown G34 (by omega); clear hRl G34)
                      exact ⟨⟨k + 1, by omega, by go_num, HG, .inr ⟨_, rfl, O5⟩⟩, by simp [intOf]; omega⟩
                    · clear HG HN
                      go_wp2_with (refine loadsV (B := B12) (by rfl) rfl rfl LB12 ?_)
                      refine (cM z _ HZ.is).mono ?_
                      rintro e w117 ⟨AR, bR, gR, rfl, hgR, hgR2, hN, hq, x⟩
                      have SR := hq.now
                      clear hq hN
                      have z36 := x.size
                      replace E := E.trans x
                      replace HU := HU.ext x
                      replace HV := HV.ext x
                      replace LB10 := LB10.ext x
                      replace LB11 := LB11.ext x
                      replace HZ := HZ.ext x
                      replace LB12 := LB12.ext x
                      clear x
                      go_wp2_with (refine loadgV (B := B10) (by rfl) rfl rfl LB10 ?_)
                      refine (cL u _ HU.is).mono ?_
                      rintro e w135 ⟨rfl, x⟩
                      have z37 := x.size
                      replace E := E.trans x
                      replace HU := HU.ext x
                      replace HV := HV.ext x
                      replace LB10 := LB10.ext x
                      replace LB11 := LB11.ext x
                      replace HZ := HZ.ext x
                      replace LB12 := LB12.ext x
                      replace SR := SR.ext x
                      clear x
                      go_wp2_with (refine loadgV (B := B11) (by rfl) rfl rfl LB11 ?_)
                      refine (cT v _ HV.is).mono ?_
                      rintro e w142 ⟨AQ, bQ, gQ, rfl, hgQ, hgQ2, hN, hq, x⟩
                      have SQ := hq.now
                      clear hq hN
                      have z38 := x.size
                      replace E := E.trans x
                      replace HU := HU.ext x
                      replace HV := HV.ext x
                      replace LB10 := LB10.ext x
                      replace LB11 := LB11.ext x
                      replace HZ := HZ.ext x
                      replace LB12 := LB12.ext x
                      replace SR := SR.ext x
                      clear x
                      go_wp2_with fail
                      refine (cR AQ bQ _ SQ.is (HS'.out.ext E)).mono ?_
                      rintro e w144 ⟨rfl, x⟩
                      have z39 := x.size
                      replace E := E.trans x
                      replace HU := HU.ext x
                      replace HV := HV.ext x
                      replace LB10 := LB10.ext x
                      replace LB11 := LB11.ext x
                      replace HZ := HZ.ext x
                      replace LB12 := LB12.ext x
                      replace SR := SR.ext x
                      replace SQ := SQ.ext x
                      clear x
                      go_wp2_with fail
                      go_loopw [24] (fun i wr => ∃ k : Nat, k ≤ q ∧ i = .int .i64 k ∧ Ext w144 wr) (fun i _ => q - (intOf i).toNat)
                      case atStart => exact ⟨0, Nat.zero_le _, rfl, Ext.refl _⟩
                      case round =>
                        obtain ⟨k, hk, rfl, HX⟩ := hrel
                        have z40 := HX.size
                        replace E := E.trans HX
                        replace HU := HU.ext HX
                        replace HV := HV.ext HX
                        replace LB10 := LB10.ext HX
                        replace LB11 := LB11.ext HX
                        replace HZ := HZ.ext HX
                        replace LB12 := LB12.ext HX
                        replace SR := SR.ext HX
                        replace SQ := SQ.ext HX
                        by_cases hlt : k < q
                        · obtain ⟨a1, u, ea1, -, hu, D0⟩ := (SR.is).at1 hlt
                          rw [i64s_get (by have h1 := hq.out; omega)] at hu
                          cases hu
                          subst ea1
                          obtain ⟨a2, u, ea2, -, hu, D1⟩ := (HS''.out.ext E).at1 hlt
                          rw [i64s_get (by have h1 := hq.out; omega)] at hu
                          cases hu
                          subst ea2
                          clear HS''
                          generalize l.getD k 0 = y at *
                          have hki : (k : Int) < (q : Int) := by omega
                          have hk0 : (0 : Int) ≤ (k : Int) := by omega
                          go_wp2_with fail
                          go_quiet (fail)
                          have hq41 : wr.heap.size ≤ wr.drew.heap.size := Nat.le_refl _
                          have z42 := (Ext.refl wr).drew.size
                          replace E := E.trans (Ext.refl wr).drew
                          replace HU := HU.ext (Ext.refl wr).drew
                          replace HV := HV.ext (Ext.refl wr).drew
                          replace LB10 := LB10.ext (Ext.refl wr).drew
                          replace LB11 := LB11.ext (Ext.refl wr).drew
                          replace HZ := HZ.ext (Ext.refl wr).drew
                          replace LB12 := LB12.ext (Ext.refl wr).drew
                          replace SR := SR.ext (Ext.refl wr).drew
                          replace SQ := SQ.ext (Ext.refl wr).drew
                          generalize wr.drew = wd41 at *
                          go_wp2_with fail
                          exact ⟨⟨k + 1, by omega, by go_num, HX.trans (Ext.of_drewN ⟨_, rfl⟩)⟩, by simp [intOf]; omega⟩
                        · clear HX
                          go_wp2_with fail
                          generalize wr = wq43 at *
                          go_loopw [25] (fun i wr => ∃ k : Nat, k ≤ n ∧ i = .int .i64 k ∧ Ext wq43 wr) (fun i _ => n - (intOf i).toNat)
                          case atStart => exact ⟨0, Nat.zero_le _, rfl, Ext.refl _⟩
                          case round =>
                            obtain ⟨k, hk, rfl, HX⟩ := hrel
                            have z44 := HX.size
                            replace E := E.trans HX
                            replace HU := HU.ext HX
                            replace HV := HV.ext HX
                            replace LB10 := LB10.ext HX
                            replace LB11 := LB11.ext HX
                            replace HZ := HZ.ext HX
                            replace LB12 := LB12.ext HX
                            replace SR := SR.ext HX
                            replace SQ := SQ.ext HX
                            by_cases hlt : k < n
                            · have hcn := fun v w' h => cN v w' k h hlt
                              obtain ⟨a2, u, ea2, -, hu, D1⟩ := (HS.out.ext E).at1 hlt
                              rw [i8s_get (by have h1 := hn.out; omega)] at hu
                              cases hu
                              subst ea2
                              clear HS
                              have hfy := hfi.out k hlt
                              generalize s.getD k 0 = y at D1 hcn hfy
                              go_wp2_with fail
                              try simp only [Act.put, List.setIfInBounds_toArray, List.set_cons_zero, List.set_cons_succ]
                              have hq45 : wr.heap.size ≤ wr.drew.heap.size := Nat.le_refl _
                              have z46 := (Ext.refl wr).drew.size
                              replace E := E.trans (Ext.refl wr).drew
                              replace HU := HU.ext (Ext.refl wr).drew
                              replace HV := HV.ext (Ext.refl wr).drew
                              replace LB10 := LB10.ext (Ext.refl wr).drew
                              replace LB11 := LB11.ext (Ext.refl wr).drew
                              replace HZ := HZ.ext (Ext.refl wr).drew
                              replace LB12 := LB12.ext (Ext.refl wr).drew
                              replace SR := SR.ext (Ext.refl wr).drew
                              replace SQ := SQ.ext (Ext.refl wr).drew
                              replace D1 := cell_ext ((Ext.refl wr).drew) D1
                              replace HX := HX.trans (Ext.refl wr).drew
                              refine wp_region_held_drew (S := (fun w' => Lay 8 w' B10 u ∧ w'.cell? (a2.add k) = some (.int .i8 y))) (by kernel_rfl) ⟨LB10, (D1)⟩ (fun hHeld => ?_)
                              refine wpAnyH_take (i := 0) (oi := { dst := some 168, op := Go.Op.load 34 (Go.Operand.tmp 10), type := 34, pos := "law.go:159", after := #[], guard := none }) (v := u) rfl (by kernel_rfl) (by kernel_rfl) (by kernel_rfl) (fun _ _ _ h => h) (yieldV (by rfl) rfl rfl fun w' hx => hx.1) hHeld ?_
                              try simp only [Act.put, List.setIfInBounds_toArray, List.set_cons_zero, List.set_cons_succ]
                              refine wpAnyH_take (i := 1) (oi := { dst := some 169, op := Go.Op.move (Go.Operand.tmp 25), type := 3, pos := "law.go:159", after := #[], guard := none }) (v := ?v48) rfl (by kernel_rfl) (by kernel_rfl) (by kernel_rfl) (fun _ _ _ h => h) (Or.inl ⟨by rfl, ?hy48⟩) hHeld ?rest48
                              case hy48 => (intro w hSw; (try dsimp only at hSw); obtain ⟨hS0, hS1⟩ := hSw; go_simp; (first | done | with_reducible rfl))
                              try simp only [Act.put, List.setIfInBounds_toArray, List.set_cons_zero, List.set_cons_succ]
                              refine wpAnyH_take (i := 3) (oi := { dst := some 171, op := Go.Op.move (Go.Operand.tmp 0), type := 30, pos := "law.go:159", after := #[], guard := none }) (v := ?v49) rfl (by kernel_rfl) (by kernel_rfl) (by kernel_rfl) (fun _ _ _ h => h) (Or.inl ⟨by rfl, ?hy49⟩) hHeld ?rest49
                              case hy49 => (intro w hSw; (try dsimp only at hSw); obtain ⟨hS0, hS1⟩ := hSw; go_simp; (first | done | with_reducible rfl))
                              try simp only [Act.put, List.setIfInBounds_toArray, List.set_cons_zero, List.set_cons_succ]
                              refine wpAnyH_take (i := 4) (oi := { dst := some 172, op := Go.Op.move (Go.Operand.tmp 25), type := 3, pos := "law.go:159", after := #[], guard := none }) (v := ?v50) rfl (by kernel_rfl) (by kernel_rfl) (by kernel_rfl) (fun _ _ _ h => h) (Or.inl ⟨by rfl, ?hy50⟩) hHeld ?rest50
                              case hy50 => (intro w hSw; (try dsimp only at hSw); obtain ⟨hS0, hS1⟩ := hSw; go_simp; (first | done | with_reducible rfl))
                              try simp only [Act.put, List.setIfInBounds_toArray, List.set_cons_zero, List.set_cons_succ]
                              refine wpAnyH_take (i := 5) (oi := { dst := some 173, op := Go.Op.indexAddr 30 (Go.Operand.tmp 171) (Go.Operand.tmp 172), type := 0, pos := "law.go:159", after := #[{ on := 3, ground := Go.Ground.data }, { on := 4, ground := Go.Ground.data }], guard := none }) (v := .pointer (some (a2.add k))) rfl (by kernel_rfl) (by kernel_rfl) (by kernel_rfl) (fun _ _ _ h => h) (Or.inl ⟨by rfl, ?hy51⟩) hHeld ?rest51
                              case hy51 => (intro w hSw; (try dsimp only at hSw); obtain ⟨hS0, hS1⟩ := hSw; go_simp; try rw [if_pos (by omega)]; try rw [Int.toNat_natCast]; (first | done | with_reducible rfl))
                              try simp only [Act.put, List.setIfInBounds_toArray, List.set_cons_zero, List.set_cons_succ]
                              refine wpAnyH_take (i := 6) (oi := { dst := some 174, op := Go.Op.load 50 (Go.Operand.tmp 173), type := 50, pos := "law.go:159", after := #[{ on := 5, ground := Go.Ground.data }], guard := none }) (v := .int .i8 y) rfl (by kernel_rfl) (by kernel_rfl) (by kernel_rfl) (fun _ _ _ h => h) (Or.inl ⟨by rfl, ?hy52⟩) hHeld ?rest52
                              case hy52 => (intro w hSw; (try dsimp only at hSw); obtain ⟨hS0, hS1⟩ := hSw; go_simp; (first | done | with_reducible rfl))
                              try simp only [Act.put, List.setIfInBounds_toArray, List.set_cons_zero, List.set_cons_succ]
                              refine wpAnyH_take (i := 7) (oi := { dst := some 175, op := Go.Op.convert 50 53 (Go.Operand.tmp 174), type := 53, pos := "law.go:159", after := #[{ on := 6, ground := Go.Ground.data }], guard := none }) (v := ?v53) rfl (by kernel_rfl) (by kernel_rfl) (by kernel_rfl) (fun _ _ _ h => h) (Or.inl ⟨by rfl, ?hy53⟩) hHeld ?rest53
                              case hy53 => (intro w hSw; (try dsimp only at hSw); obtain ⟨hS0, hS1⟩ := hSw; go_simp; (first | done | with_reducible rfl))
                              try simp only [Act.put, List.setIfInBounds_toArray, List.set_cons_zero, List.set_cons_succ]
                              refine wpAnyH_ready (rs := [2]) (by kernel_rfl) (by simp) ?_
                              refine AllReadyH.cons (o := { dst := some 170, op := Go.Op.call { callee := Go.Callee.value (Go.Operand.func 23), args := #[Go.Operand.tmp 168, Go.Operand.tmp 169], argTypes := #[34, 3] }, type := 53, pos := "law.go:159", after := #[{ on := 0, ground := Go.Ground.data }, { on := 1, ground := Go.Ground.data }], guard := none }) rfl (fun K hK => ?_) (AllReadyH.nil)
                              go_simp
                              refine (hcn u _ HU.is).mono ?_
                              rintro e w170 ⟨rfl, x⟩
                              have z54 := x.size
                              replace E := E.trans x
                              replace HU := HU.ext x
                              replace HV := HV.ext x
                              replace LB10 := LB10.ext x
                              replace LB11 := LB11.ext x
                              replace HZ := HZ.ext x
                              replace LB12 := LB12.ext x
                              replace SR := SR.ext x
                              replace SQ := SQ.ext x
                              replace D1 := cell_ext (x) D1
                              replace HX := HX.trans x
                              clear x
                              clear hHeld
                              have hHeld := And.intro LB10 ((D1))
                              refine hK.out _ _ hHeld (fun _ => ?_)
                              clear hK K
                              try simp only [Act.put, List.setIfInBounds_toArray, List.set_cons_zero, List.set_cons_succ]
                              refine wpAnyH_take (i := 8) (oi := { dst := some 176, op := Go.Op.binOp Go.BinOp.neq 53 (Go.Operand.tmp 170) (Go.Operand.tmp 175) 53, type := 4, pos := "law.go:159", after := #[{ on := 2, ground := Go.Ground.data }, { on := 7, ground := Go.Ground.data }], guard := none }) (v := .bool false) rfl (by kernel_rfl) (by kernel_rfl) (by kernel_rfl) (fun _ _ _ h => h) (Or.inl ⟨by rfl, ?hy55⟩) hHeld ?rest55
                              case hy55 => (intro w hSw; (try dsimp only at hSw); obtain ⟨hS0, hS1⟩ := hSw; go_simp; try (first | done | (simp [hfy]; done)); (first | done | with_reducible rfl))
                              try simp only [Act.put, List.setIfInBounds_toArray, List.set_cons_zero, List.set_cons_succ]
                              refine wpAnyH_done (by kernel_rfl) ?_ _
                              go_wp2_with fail
                              exact ⟨⟨k + 1, by omega, by go_num, HX⟩, by simp [intOf]; omega⟩
                            · clear HX
                              go_wp2_with fail
                              refine (aw _).mono ?_
                              rintro e w177 ⟨rfl, x⟩
                              have z56 := x.size
                              replace E := E.trans x
                              replace HU := HU.ext x
                              replace HV := HV.ext x
                              replace LB10 := LB10.ext x
                              replace LB11 := LB11.ext x
                              replace HZ := HZ.ext x
                              replace LB12 := LB12.ext x
                              replace SR := SR.ext x
                              replace SQ := SQ.ext x
                              clear x
                              go_wp2_with fail
                              go_ret
                              exact ⟨rfl, E⟩
end Go.Proofs.Ytmjikdkdccnbaaa
