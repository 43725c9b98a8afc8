/- The chapter's example of squeeze. -/
import Derived.Test.YtdfhefnjoekgbaaQl
namespace Go.Proofs.Ytdfhefnjoekgbaa
open Go.RowKit Bv Fl
attribute [local go_sem ↓] Go.wp_at_zero Go.wp_at_succ
/-- what a literal slice leaves -/
theorem Sl.lit (w : World) (us : Array Value) (t : TypeId) : Sl (w.alloc (.cells us t)) 1 (some ⟨w.heap.size, 0, none⟩) us.size us.toList := by
  refine ⟨by simp, fun _ => ⟨_, rfl, by simp, fun j u hu => ?_⟩⟩
  rw [show (Addr.add ⟨w.heap.size, 0, none⟩ j) = ⟨w.heap.size, j, none⟩ by unfold Addr.add; split <;> simp_all]
  rw [World.cell?_alloc_new]
  simpa using hu
set_option maxHeartbeats 1000000
set_option maxRecDepth 100000 in
theorem awake_any (w : World) : Calls Try.prog 13 #[] w fun e w' => e = .returned (.bool true) ∧ Ext w w' := by
  have E := Ext.refl w
  have n1 : ∀ A w, Sl w 1 A 2 (f64s [4607182418800017408, 0]) → Calls Try.prog 24 #[.slice A 2 2] w (NewNum 1 (dnL [4607182418800017408, 0]) w) := fun A w hs => by
    have h := numbers_yes A [4607182418800017408, 0] 2 rfl (by intro x hx; simp at hx; omega) (by kernel_rfl) 2 w (by omega) hs
    rwa [show leastL (dnL [4607182418800017408, 0]) = 1 by kernel_rfl] at h
  have n2 : ∀ A w, Sl w 1 A 2 (f64s [4611686018427387904, 13837309855095848960]) → Calls Try.prog 24 #[.slice A 2 2] w (NewNum 2 (dnL [4611686018427387904, 13837309855095848960]) w) := fun A w hs => by
    have h := numbers_yes A [4611686018427387904, 13837309855095848960] 2 rfl (by intro x hx; simp at hx; omega) (by kernel_rfl) 2 w (by omega) hs
    rwa [show leastL (dnL [4611686018427387904, 13837309855095848960]) = 2 by kernel_rfl] at h
  have n3 : ∀ A w, Sl w 1 A 1 (f64s [4641240890982006784]) → Calls Try.prog 24 #[.slice A 1 1] w (NewNum 3 (dnL [4641240890982006784]) w) := fun A w hs => by
    have h := numbers_yes A [4641240890982006784] 1 rfl (by intro x hx; simp at hx; omega) (by kernel_rfl) 1 w (by omega) hs
    rwa [show leastL (dnL [4641240890982006784]) = 3 by kernel_rfl] at h
  have n4 : ∀ A w, Sl w 1 A 1 (f64s [4602678819172646912]) → Calls Try.prog 24 #[.slice A 1 1] w (NewNum 4 (dnL [4602678819172646912]) w) := fun A w hs => by
    have h := numbers_yes A [4602678819172646912] 1 rfl (by intro x hx; simp at hx; omega) (by kernel_rfl) 1 w (by omega) hs
    rwa [show leastL (dnL [4602678819172646912]) = 4 by kernel_rfl] at h
  generalize dnL [4607182418800017408, 0] = L1 at n1
  generalize dnL [4611686018427387904, 13837309855095848960] = L2 at n2
  generalize dnL [4641240890982006784] = L3 at n3
  generalize dnL [4602678819172646912] = L4 at n4
  go_enter Try.func13, Try.ntmps13
  go_wp2_with fail
  refine (n1 _ _ (Sl.lit _ #[.float .f64 4607182418800017408, .float .f64 0] _)).mono ?_
  rintro e w1 ⟨v1, rfl, N1, x⟩
  replace x := ((Ext.refl _).alloc _).trans x
  have z1 := x.size
  replace E := E.trans x
  have F1 := N1.is.flat
  replace N1 := N1.now
  clear x
  go_wp2_with (first | (refine allocsV rfl rfl ?_; intro B1 u1 bB1 cB1 x K1 R1; have z2 := x.size; replace E := E.trans x; replace N1 := N1.ext x; clear x) | (have hRl := (R1).lt (Nat.zero_lt_succ _); refine storesV (B := B1) rfl rfl rfl (v := v1) rfl R1 F1 ?_; clear K1; intro t1 g K1 R9; have z3 := g.size; replace E := grown_ext E g (by omega); replace N1 := N1.grown g (by dsimp only [New]; omega); clear R1; have R1 := R9; clear R9 hRl; clear g))
  clear n1 F1
  refine (n2 _ _ (Sl.lit _ #[.float .f64 4611686018427387904, .float .f64 13837309855095848960] _)).mono ?_
  rintro e w2 ⟨v2, rfl, N2, x⟩
  replace x := ((Ext.refl _).alloc _).trans x
  have z4 := x.size
  replace E := E.trans x
  replace N1 := N1.ext x
  replace K1 := K1.ext x
  replace R1 := R1.ext x
  have F2 := N2.is.flat
  replace N2 := N2.now
  clear x
  go_wp2_with (first | (refine allocsV rfl rfl ?_; intro B2 u2 bB2 cB2 x K2 R2; have z5 := x.size; replace E := E.trans x; replace N1 := N1.ext x; replace K1 := K1.ext x; replace R1 := R1.ext x; replace N2 := N2.ext x; clear x) | (have hRl := (R2).lt (Nat.zero_lt_succ _); refine storesV (B := B2) rfl rfl rfl (v := v2) rfl R2 F2 ?_; clear K2; intro t2 g K2 R9; have z6 := g.size; replace E := grown_ext E g (by omega); replace N1 := N1.grown g (by dsimp only [New]; omega); replace K1 := K1.grown g (by omega); replace R1 := R1.grown g (by omega); replace N2 := N2.grown g (by dsimp only [New]; omega); clear R2; have R2 := R9; clear R9 hRl; clear g))
  clear n2 F2
  refine (n3 _ _ (Sl.lit _ #[.float .f64 4641240890982006784] _)).mono ?_
  rintro e w3 ⟨v3, rfl, N3, x⟩
  replace x := ((Ext.refl _).alloc _).trans x
  have z7 := x.size
  replace E := E.trans x
  replace N1 := N1.ext x
  replace K1 := K1.ext x
  replace R1 := R1.ext x
  replace N2 := N2.ext x
  replace K2 := K2.ext x
  replace R2 := R2.ext x
  have F3 := N3.is.flat
  replace N3 := N3.now
  clear x
  go_wp2_with (first | (refine allocsV rfl rfl ?_; intro B3 u3 bB3 cB3 x K3 R3; have z8 := x.size; replace E := E.trans x; replace N1 := N1.ext x; replace K1 := K1.ext x; replace R1 := R1.ext x; replace N2 := N2.ext x; replace K2 := K2.ext x; replace R2 := R2.ext x; replace N3 := N3.ext x; clear x) | (have hRl := (R3).lt (Nat.zero_lt_succ _); refine storesV (B := B3) rfl rfl rfl (v := v3) rfl R3 F3 ?_; clear K3; intro t3 g K3 R9; have z9 := g.size; replace E := grown_ext E g (by omega); replace N1 := N1.grown g (by dsimp only [New]; omega); replace K1 := K1.grown g (by omega); replace R1 := R1.grown g (by omega); replace N2 := N2.grown g (by dsimp only [New]; omega); replace K2 := K2.grown g (by omega); replace R2 := R2.grown g (by omega); replace N3 := N3.grown g (by dsimp only [New]; omega); clear R3; have R3 := R9; clear R9 hRl; clear g))
  clear n3 F3
  refine (n4 _ _ (Sl.lit _ #[.float .f64 4602678819172646912] _)).mono ?_
  rintro e w4 ⟨v4, rfl, N4, x⟩
  replace x := ((Ext.refl _).alloc _).trans x
  have z10 := x.size
  replace E := E.trans x
  replace N1 := N1.ext x
  replace K1 := K1.ext x
  replace R1 := R1.ext x
  replace N2 := N2.ext x
  replace K2 := K2.ext x
  replace R2 := R2.ext x
  replace N3 := N3.ext x
  replace K3 := K3.ext x
  replace R3 := R3.ext x
  have F4 := N4.is.flat
  replace N4 := N4.now
  clear x
  go_wp2_with (first | (refine allocsV rfl rfl ?_; intro B4 u4 bB4 cB4 x K4 R4; have z11 := x.size; replace E := E.trans x; replace N1 := N1.ext x; replace K1 := K1.ext x; replace R1 := R1.ext x; replace N2 := N2.ext x; replace K2 := K2.ext x; replace R2 := R2.ext x; replace N3 := N3.ext x; replace K3 := K3.ext x; replace R3 := R3.ext x; replace N4 := N4.ext x; clear x) | (have hRl := (R4).lt (Nat.zero_lt_succ _); refine storesV (B := B4) rfl rfl rfl (v := v4) rfl R4 F4 ?_; clear K4; intro t4 g K4 R9; have z12 := g.size; replace E := grown_ext E g (by omega); replace N1 := N1.grown g (by dsimp only [New]; omega); replace K1 := K1.grown g (by omega); replace R1 := R1.grown g (by omega); replace N2 := N2.grown g (by dsimp only [New]; omega); replace K2 := K2.grown g (by omega); replace R2 := R2.grown g (by omega); replace N3 := N3.grown g (by dsimp only [New]; omega); replace K3 := K3.grown g (by omega); replace R3 := R3.grown g (by omega); replace N4 := N4.grown g (by dsimp only [New]; omega); clear R4; have R4 := R9; clear R9 hRl; clear g) | (refine loadgV (B := B1) (by rfl) rfl rfl K1 ?_))
  clear n4 F4
  refine (nkind_any _ 1 _ _ N1.is).mono ?_
  rintro e w11 ⟨rfl, x⟩
  have z13 := x.size
  replace E := E.trans x
  replace N1 := N1.ext x
  replace K1 := K1.ext x
  replace R1 := R1.ext x
  replace N2 := N2.ext x
  replace K2 := K2.ext x
  replace R2 := R2.ext x
  replace N3 := N3.ext x
  replace K3 := K3.ext x
  replace R3 := R3.ext x
  replace N4 := N4.ext x
  replace K4 := K4.ext x
  replace R4 := R4.ext x
  clear x
  go_wp2_with (refine loadgV (B := B2) (by rfl) rfl rfl K2 ?_)
  refine (nkind_any _ 2 _ _ N2.is).mono ?_
  rintro e w12 ⟨rfl, x⟩
  have z14 := x.size
  replace E := E.trans x
  replace N1 := N1.ext x
  replace K1 := K1.ext x
  replace R1 := R1.ext x
  replace N2 := N2.ext x
  replace K2 := K2.ext x
  replace R2 := R2.ext x
  replace N3 := N3.ext x
  replace K3 := K3.ext x
  replace R3 := R3.ext x
  replace N4 := N4.ext x
  replace K4 := K4.ext x
  replace R4 := R4.ext x
  clear x
  go_wp2_with (refine loadgV (B := B3) (by rfl) rfl rfl K3 ?_)
  refine (nkind_any _ 3 _ _ N3.is).mono ?_
  rintro e w13 ⟨rfl, x⟩
  have z15 := x.size
  replace E := E.trans x
  replace N1 := N1.ext x
  replace K1 := K1.ext x
  replace R1 := R1.ext x
  replace N2 := N2.ext x
  replace K2 := K2.ext x
  replace R2 := R2.ext x
  replace N3 := N3.ext x
  replace K3 := K3.ext x
  replace R3 := R3.ext x
  replace N4 := N4.ext x
  replace K4 := K4.ext x
  replace R4 := R4.ext x
  clear x
  go_wp2_with (refine loadgV (B := B4) (by rfl) rfl rfl K4 ?_)
  refine (nkind_any _ 4 _ _ N4.is).mono ?_
  rintro e w14 ⟨rfl, x⟩
  have z16 := x.size
  replace E := E.trans x
  replace N1 := N1.ext x
  replace K1 := K1.ext x
  replace R1 := R1.ext x
  replace N2 := N2.ext x
  replace K2 := K2.ext x
  replace R2 := R2.ext x
  replace N3 := N3.ext x
  replace K3 := K3.ext x
  replace R3 := R3.ext x
  replace N4 := N4.ext x
  replace K4 := K4.ext x
  replace R4 := R4.ext x
  clear x
  go_wp2
  go_ret
  exact ⟨rfl, E⟩
end Go.Proofs.Ytdfhefnjoekgbaa
