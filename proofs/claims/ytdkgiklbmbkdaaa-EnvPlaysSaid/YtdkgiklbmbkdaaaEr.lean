/- EnvPlays: the walk. -/
import Derived.Test.YtdkgiklbmbkdaaaEo
import Derived.Test.YtdkgiklbmbkdaaaEq
namespace Go.Proofs.Ytdkgiklbmbkdaaa
open Go.ChangeShapes Go.WideShapes Go.RowKit Go.Maps Bv Fl
set_option maxHeartbeats 20000000
set_option maxRecDepth 100000
abbrev evp_14_11 : Go.Oper := { dst := some 68, op := Go.Op.call { callee := Go.Callee.value (Go.Operand.func 6), args := #[Go.Operand.tmp 62, Go.Operand.tmp 64, Go.Operand.tmp 67, Go.Operand.const (Go.Value.bool false)], argTypes := #[33, 9, 3, 4] }, type := 34, pos := "law.go:55", after := #[{ on := 5, ground := Go.Ground.data }, { on := 7, ground := Go.Ground.data }, { on := 10, ground := Go.Ground.data }], guard := none }
abbrev evp_14_16 : Go.Oper := { dst := none, op := Go.Op.store 33 (Go.Operand.tmp 71) (Go.Operand.tmp 69), type := 0, pos := "law.go:55", after := #[{ on := 15, ground := Go.Ground.data }, { on := 13, ground := Go.Ground.data }, { on := 11, ground := Go.Ground.chain }, { on := 0, ground := Go.Ground.phase }, { on := 1, ground := Go.Ground.phase }, { on := 2, ground := Go.Ground.phase }, { on := 3, ground := Go.Ground.phase }, { on := 4, ground := Go.Ground.phase }, { on := 5, ground := Go.Ground.phase }, { on := 6, ground := Go.Ground.phase }, { on := 7, ground := Go.Ground.phase }, { on := 8, ground := Go.Ground.phase }, { on := 9, ground := Go.Ground.phase }, { on := 10, ground := Go.Ground.phase }, { on := 11, ground := Go.Ground.phase }, { on := 12, ground := Go.Ground.phase }, { on := 13, ground := Go.Ground.phase }, { on := 14, ground := Go.Ground.textOnly Go.Departure.lateStores }], guard := none }
abbrev evp_14_5 : Go.Oper := { dst := some 62, op := Go.Op.load 33 (Go.Operand.tmp 61), type := 33, pos := "law.go:55", after := #[{ on := 4, ground := Go.Ground.data }], guard := none }
abbrev evp_15_8 : Go.Oper := { dst := some 80, op := Go.Op.call { callee := Go.Callee.value (Go.Operand.func 8), args := #[Go.Operand.tmp 79], argTypes := #[5] }, type := 49, pos := "law.go:56", after := #[{ on := 7, ground := Go.Ground.data }], guard := none }
abbrev evp_15_9 : Go.Oper := { dst := some 81, op := Go.Op.call { callee := Go.Callee.value (Go.Operand.func 7), args := #[Go.Operand.tmp 75, Go.Operand.tmp 77, Go.Operand.tmp 80], argTypes := #[24, 9, 49] }, type := 30, pos := "law.go:56", after := #[{ on := 3, ground := Go.Ground.data }, { on := 5, ground := Go.Ground.data }, { on := 8, ground := Go.Ground.data }, { on := 8, ground := Go.Ground.chain }], guard := none }
abbrev evp_17_11 : Go.Oper := { dst := some 97, op := Go.Op.call { callee := Go.Callee.value (Go.Operand.func 6), args := #[Go.Operand.tmp 91, Go.Operand.tmp 93, Go.Operand.tmp 96, Go.Operand.const (Go.Value.bool true)], argTypes := #[33, 9, 3, 4] }, type := 34, pos := "law.go:58", after := #[{ on := 5, ground := Go.Ground.data }, { on := 7, ground := Go.Ground.data }, { on := 10, ground := Go.Ground.data }], guard := none }
abbrev evp_17_16 : Go.Oper := { dst := none, op := Go.Op.store 33 (Go.Operand.tmp 100) (Go.Operand.tmp 98), type := 0, pos := "law.go:58", after := #[{ on := 15, ground := Go.Ground.data }, { on := 13, ground := Go.Ground.data }, { on := 11, ground := Go.Ground.chain }, { on := 0, ground := Go.Ground.phase }, { on := 1, ground := Go.Ground.phase }, { on := 2, ground := Go.Ground.phase }, { on := 3, ground := Go.Ground.phase }, { on := 4, ground := Go.Ground.phase }, { on := 5, ground := Go.Ground.phase }, { on := 6, ground := Go.Ground.phase }, { on := 7, ground := Go.Ground.phase }, { on := 8, ground := Go.Ground.phase }, { on := 9, ground := Go.Ground.phase }, { on := 10, ground := Go.Ground.phase }, { on := 11, ground := Go.Ground.phase }, { on := 12, ground := Go.Ground.phase }, { on := 13, ground := Go.Ground.phase }, { on := 14, ground := Go.Ground.textOnly Go.Departure.lateStores }], guard := none }
abbrev evp_17_5 : Go.Oper := { dst := some 91, op := Go.Op.load 33 (Go.Operand.tmp 90), type := 33, pos := "law.go:58", after := #[{ on := 4, ground := Go.Ground.data }], guard := none }
abbrev evp_18_10 : Go.Oper := { dst := some 111, op := Go.Op.call { callee := Go.Callee.value (Go.Operand.func 9), args := #[Go.Operand.tmp 104, Go.Operand.tmp 106, Go.Operand.tmp 110], argTypes := #[24, 9, 54] }, type := 30, pos := "law.go:59", after := #[{ on := 3, ground := Go.Ground.data }, { on := 5, ground := Go.Ground.data }, { on := 9, ground := Go.Ground.data }], guard := none }
theorem envPlays_walk (w : World) (A0 : Option Addr) (l0 : List Ac) (c0 : Nat) (H0 : Sl w 4 A0 l0.length (acc l0)) (W0 : ∀ x ∈ l0, x.ok) (A1 : Option Addr) (l1 : List ByteArray) (c1 : Nat) (H1 : Sl w 1 A1 l1.length (l1.map Value.string)) (W1 : ∀ x ∈ l1, x.size ≤ maxLen) :
    Calls Try.prog 3 #[.slice A0 l0.length c0, .slice A1 l1.length c1] w fun e w' => e = .returned (.bool true) ∧ Ext w w' := by
  have E := Ext.refl w
  go_enter Try.func3, Try.ntmps3
  go_wp2_with fail
  go_wp2_with fail
  refine (newP0 _).mono ?_
  rintro e w14 ⟨B0, m0, f0, rfl, ⟨p0, q0, r0, t0⟩, a00, a01, a02, a03, am0, af0, x⟩
  have zw14 := x.size
  replace E := E.trans x
  clear x
  go_wp2_with fail
  go_wp2_with fail
  obtain ⟨WA, hWA⟩ : ∃ WA, WA = w14.alloc (.cells #[.pointer (some ⟨B0, 0, none⟩)] 24) := ⟨_, rfl⟩
  rw [← hWA]
  have RL : WA.ownsRow 0 24 1 (.slice (some ⟨w14.heap.size, 0, none⟩) 1 1) 1 [.pointer (some ⟨B0, 0, none⟩)] := by subst hWA; exact lit_own w14 _ _
  have x : Ext w14 WA := by subst hWA; exact (Ext.refl _).alloc _
  have zA : w14.heap.size < WA.heap.size := by subst hWA; simp
  clear hWA
  replace E := E.trans x
  replace a00 := cell_ext x a00
  replace a01 := cell_ext x a01
  replace a02 := cell_ext x a02
  replace a03 := cell_ext x a03
  replace am0 := am0.ext x
  replace af0 := af0.ext x
  clear x
  obtain ⟨g1, hg1⟩ : ∃ g, w14.heap.size = g := ⟨_, rfl⟩
  rw [hg1] at RL ⊢
  refine (newP _ B0 0 (by omega) a03).mono ?_
  rintro e w20 ⟨B1, m1, f1, rfl, ⟨p1, q1, r1, t1⟩, a10, a11, a12, a13, am1, af1, x⟩
  have zw20 := x.size
  replace E := E.trans x
  replace a00 := cell_ext x a00
  replace a01 := cell_ext x a01
  replace a02 := cell_ext x a02
  replace a03 := cell_ext x a03
  replace am0 := am0.ext x
  replace af0 := af0.ext x
  replace RL := own_ext RL x
  clear x
  have TA22 : True := trivial
  go_wp2_with (clear TA22; refine app_pe rfl rfl (g := g1) (k := 1) (xs := [.pointer (some ⟨B0, 0, none⟩)]) rfl (own_ext RL ((Ext.refl w20).alloc _)) rfl (cell_one_new _ _ _) rfl (by omega) ?_; clear RL; intro gl cl1 w22 RL X hb0 ht1; have hb1 : gl = g1 ∨ w20.heap.size ≤ gl := hb0.imp id (fun h => by rw [h]; simp); clear hb0; have zq1 : w20.heap.size ≤ w22.heap.size := Nat.le_trans ((Ext.refl w20).alloc _).size X.size; replace E := grown_ext (E.alloc _) X (by omega); replace a00 := cell_grown X (cell_ext ((Ext.refl w20).alloc _) a00) (by show B0 ≠ _; omega); replace a01 := cell_grown X (cell_ext ((Ext.refl w20).alloc _) a01) (by show B0 ≠ _; omega); replace a02 := cell_grown X (cell_ext ((Ext.refl w20).alloc _) a02) (by show B0 ≠ _; omega); replace a03 := cell_grown X (cell_ext ((Ext.refl w20).alloc _) a03) (by show B0 ≠ _; omega); replace am0 := (am0.ext ((Ext.refl w20).alloc _)).grown X (by omega); replace af0 := (af0.ext ((Ext.refl w20).alloc _)).grown X (by omega); replace a10 := cell_grown X (cell_ext ((Ext.refl w20).alloc _) a10) (by show B1 ≠ _; omega); replace a11 := cell_grown X (cell_ext ((Ext.refl w20).alloc _) a11) (by show B1 ≠ _; omega); replace a12 := cell_grown X (cell_ext ((Ext.refl w20).alloc _) a12) (by show B1 ≠ _; omega); replace a13 := cell_grown X (cell_ext ((Ext.refl w20).alloc _) a13) (by show B1 ≠ _; omega); replace am1 := (am1.ext ((Ext.refl w20).alloc _)).grown X (by omega); replace af1 := (af1.ext ((Ext.refl w20).alloc _)).grown X (by omega); clear X; have I1 : w22.cell? ⟨gl, 1, none⟩ = some (.pointer (some ⟨B1, 0, none⟩)) := (by obtain ⟨a_, ea_, _, hc_⟩ := (Sl.own RL).2 (by omega); cases ea_; exact hc_ 1 _ rfl))
  go_wp2_with fail
  refine (newP _ B1 (0 + 1) (by omega) a13).mono ?_
  rintro e w27 ⟨B2, m2, f2, rfl, ⟨p2, q2, r2, t2⟩, a20, a21, a22, a23, am2, af2, x⟩
  have zw27 := x.size
  replace E := E.trans x
  replace a00 := cell_ext x a00
  replace a01 := cell_ext x a01
  replace a02 := cell_ext x a02
  replace a03 := cell_ext x a03
  replace am0 := am0.ext x
  replace af0 := af0.ext x
  replace a10 := cell_ext x a10
  replace a11 := cell_ext x a11
  replace a12 := cell_ext x a12
  replace a13 := cell_ext x a13
  replace am1 := am1.ext x
  replace af1 := af1.ext x
  replace I1 := cell_ext x I1
  replace RL := own_ext RL x
  clear x
  have TA29 : True := trivial
  have TM30 : True := trivial
  go_wp2_with (first | (clear TA29; refine app_peL rfl rfl (g := gl) (k := 2) (xs := [.pointer (some ⟨B0, 0, none⟩), .pointer (some ⟨B1, 0, none⟩)]) rfl (own_ext RL ((Ext.refl w27).alloc _)) rfl (cell_one_new _ _ _) rfl (by omega) ?_; clear RL; intro al cl w29 L2 X hb0 hta; have hb2 : al.block = gl ∨ w27.heap.size ≤ al.block := hb0.imp id (fun h => by rw [h]; simp); clear hb0; have zq2 : w27.heap.size ≤ w29.heap.size := Nat.le_trans ((Ext.refl w27).alloc _).size X.size; replace E := grown_ext (E.alloc _) X (by omega); replace a00 := cell_grown X (cell_ext ((Ext.refl w27).alloc _) a00) (by show B0 ≠ _; omega); replace a01 := cell_grown X (cell_ext ((Ext.refl w27).alloc _) a01) (by show B0 ≠ _; omega); replace a02 := cell_grown X (cell_ext ((Ext.refl w27).alloc _) a02) (by show B0 ≠ _; omega); replace a03 := cell_grown X (cell_ext ((Ext.refl w27).alloc _) a03) (by show B0 ≠ _; omega); replace am0 := (am0.ext ((Ext.refl w27).alloc _)).grown X (by omega); replace af0 := (af0.ext ((Ext.refl w27).alloc _)).grown X (by omega); replace a10 := cell_grown X (cell_ext ((Ext.refl w27).alloc _) a10) (by show B1 ≠ _; omega); replace a11 := cell_grown X (cell_ext ((Ext.refl w27).alloc _) a11) (by show B1 ≠ _; omega); replace a12 := cell_grown X (cell_ext ((Ext.refl w27).alloc _) a12) (by show B1 ≠ _; omega); replace a13 := cell_grown X (cell_ext ((Ext.refl w27).alloc _) a13) (by show B1 ≠ _; omega); replace am1 := (am1.ext ((Ext.refl w27).alloc _)).grown X (by omega); replace af1 := (af1.ext ((Ext.refl w27).alloc _)).grown X (by omega); replace a20 := cell_grown X (cell_ext ((Ext.refl w27).alloc _) a20) (by show B2 ≠ _; omega); replace a21 := cell_grown X (cell_ext ((Ext.refl w27).alloc _) a21) (by show B2 ≠ _; omega); replace a22 := cell_grown X (cell_ext ((Ext.refl w27).alloc _) a22) (by show B2 ≠ _; omega); replace a23 := cell_grown X (cell_ext ((Ext.refl w27).alloc _) a23) (by show B2 ≠ _; omega); replace am2 := (am2.ext ((Ext.refl w27).alloc _)).grown X (by omega); replace af2 := (af2.ext ((Ext.refl w27).alloc _)).grown X (by omega); clear X) | (clear TM30; refine maker_fr rfl rfl rfl ?_; intro ar wM ra0 rb0 x HM HR0; have zM := x.size; replace E := E.trans x; replace a00 := cell_ext x a00; replace a01 := cell_ext x a01; replace a02 := cell_ext x a02; replace a03 := cell_ext x a03; replace am0 := am0.ext x; replace af0 := af0.ext x; replace a10 := cell_ext x a10; replace a11 := cell_ext x a11; replace a12 := cell_ext x a12; replace a13 := cell_ext x a13; replace am1 := am1.ext x; replace af1 := af1.ext x; replace a20 := cell_ext x a20; replace a21 := cell_ext x a21; replace a22 := cell_ext x a22; replace a23 := cell_ext x a23; replace am2 := am2.ext x; replace af2 := af2.ext x; replace L2 : ∀ j u, [.pointer (some ⟨B0, 0, none⟩), .pointer (some ⟨B1, 0, none⟩), .pointer (some ⟨B2, 0, none⟩)][j]? = some u → wM.cell? (al.add j) = some u := fun j u h => cell_ext x (L2 j u h); clear x))
  go_wp2_with fail
  have hn : NumB w.heap.size wM.heap.size (tri B0 B1 B2) (tri m0 m1 m2) (tri f0 f1 f2) al ar := ⟨by show w.heap.size ≤ m0 ∧ m0 < f0 ∧ f0 < B0 ∧ B0 < m1 ∧ m1 < f1 ∧ f1 < B1 ∧ B1 < m2 ∧ m2 < f2 ∧ f2 < B2 ∧ B2 < ar.block ∧ al.block < ar.block ∧ ar.block < wM.heap.size ∧ al.block ≠ m0 ∧ al.block ≠ f0 ∧ al.block ≠ m1 ∧ al.block ≠ f1 ∧ al.block ≠ m2 ∧ al.block ≠ f2; omega⟩
  have HE0 := ee_start (base := wM.heap.size) (show B0 < B1 by omega) (show B1 < B2 by omega) a00 a01 a02 a03 am0 af0 a10 a11 a12 a13 am1 af1 a20 a21 a22 a23 am2 af2 L2
  have HR1 := HR0 wM.heap.size
  clear HR0 L2 a00 a01 a02 a03 a10 a11 a12 a13 a20 a21 a22 a23 am0 af0 am1 af1 am2 af2
  obtain ⟨base, hbase⟩ : ∃ b, wM.heap.size = b := ⟨_, rfl⟩
  have hbM : base ≤ wM.heap.size := by omega
  rw [hbase] at hn HE0 HR1
  have hra : ar.block < base := hn.all.2.2.2.2.2.2.2.2.2.2.2.1
  have hwb : w.heap.size ≤ base := by have := hn.all; omega
  clear hbase p0 q0 r0 t0 zw14 zA p1 q1 r1 t1 zw20 p2 q2 r2 t2 hb1 ht1 zq1 zw27 hb2 hta zq2 ra0 rb0 zM
  generalize tri B0 B1 B2 = B at *
  generalize tri m0 m1 m2 = bm at *
  generalize tri f0 f1 f2 = bf at *
  obtain ⟨N0, hN0⟩ : ∃ N : Nat, N = 0 := ⟨_, rfl⟩
  go_wp2_with fail
  go_loopw [7] (fun i wr => ∃ (j : Nat) (V F : Nat → List Pr) (DV DF : Nat → DataW Value), j ≤ l0.length ∧ j ≤ 150 ∧ i = .int .i64 j ∧ EE wr base B bm bf al V F j DV DF ∧ RF wr ar V F base ∧ RM wr ar ∧ (∀ i, i < 3 → (V i).length + (F i).length ≤ 64) ∧ base ≤ wr.heap.size ∧ Ext w wr) (fun i _ => 150 - (intOf i).toNat)
  case atStart => exact ⟨0, _, _, _, _, Nat.zero_le _, by omega, rfl, HE0, HR1, HM, fun i hi => by simp, hbM, E⟩
  case round =>
    obtain ⟨j, V, F, DV, DF, hj1, hj2, rfl, HE, HR, HM, hlen, hbw, E'⟩ := hrel
    clear E HE0 HR1
    have E := E'
    clear E'
    have z1 := E.size
    have hcs : ((j < l0.length ∧ j < 150) ∧ 100 < (l0.getD j default).nm.size) ∨ ((j < l0.length ∧ j < 150) ∧ (l0.getD j default).nm.size ≤ 100 ∧ (l0.getD j default).k = 0) ∨ ((j < l0.length ∧ j < 150) ∧ (l0.getD j default).nm.size ≤ 100 ∧ (l0.getD j default).k = 1) ∨ ((j < l0.length ∧ j < 150) ∧ (l0.getD j default).nm.size ≤ 100 ∧ (l0.getD j default).k ≠ 0 ∧ (l0.getD j default).k ≠ 1) ∨ ¬ (j < l0.length ∧ j < 150) := by omega
    rcases hcs with ⟨hlt, hq⟩ | ⟨hlt, hq, hkk⟩ | ⟨hlt, hq, hkk⟩ | ⟨hlt, hq, hk0, hk1⟩ | hlt
    · obtain ⟨hl0, hl1⟩ := hlt
      obtain ⟨a, ea, hA⟩ := act_at rfl (H0.ext E) hl0
      subst ea
      have hok := W0 _ (show l0.getD j default ∈ l0 by simp [List.getD, hl0])
      generalize l0.getD j default = x at hA hok hq
      obtain ⟨xk, xf, xn, xz⟩ := x
      obtain ⟨-, ok2, ok3, ok4⟩ := hok
      dsimp only at ok2 ok3 ok4 hq
      obtain ⟨yf, rfl, hyf⟩ := wf_u8 ok2
      obtain ⟨yz, rfl, hyz⟩ := wf_u8 ok4
      clear ok2 ok4 W0 H0 H1 W1
      have EX := Ext.refl wr
      obtain ⟨k, hk3, hk⟩ : ∃ k : Nat, (yf : Int) % 3 = k ∧ k < 3 := ⟨yf % 3, by omega, by omega⟩
      have TA44 : True := trivial
      have TB8 : True := trivial
      have TG3 : True := trivial
      go_wp2_with (first | (clear TA44; refine loads_act rfl rfl rfl (hA) ?_) | (clear TB8; refine allocsT rfl rfl ?_; intro B8 w8 bB8 cB8 XB8 LB8 RB8; have z2 := XB8.size; replace E := E.trans XB8; replace EX := EX.trans XB8; have cB8_0 := lay_cell LB8 (j := 0) rfl; have cB8_1 := lay_cell LB8 (j := 1) rfl; have cB8_2 := lay_cell LB8 (j := 2) rfl; have cB8_3 := lay_cell LB8 (j := 3) rfl) | (clear TG3; have hRl := (RB8).lt (Nat.zero_lt_succ _); refine storesT (B := B8) rfl rfl rfl (v := (.agg #[.int .i64 xk, .int .u8 yf, .string xn, .int .u8 yz])) rfl RB8 (act_flat _ _ _ _) ?_; clear LB8; clear cB8_0; clear cB8_1; clear cB8_2; clear cB8_3; intro s3 G3 LB8 RQ; have z4 := G3.size; replace E := grown_ext E G3 (by omega); replace EX := grown_ext EX G3 (by omega); clear RB8; have RB8 := RQ; clear RQ hRl; have cB8_0 := lay_cell LB8 (j := 0) rfl; have cB8_1 := lay_cell LB8 (j := 1) rfl; have cB8_2 := lay_cell LB8 (j := 2) rfl; have cB8_3 := lay_cell LB8 (j := 3) rfl; clear RB8))
      replace HE := (HE.ext EX).more (Nat.le_succ j)
      replace HR := HR.ext EX
      replace HM := HM.ext EX
      exact ⟨⟨j + 1, V, F, DV, DF, by omega, by omega, by go_num, HE, HR, HM, hlen, by omega, E⟩, by simp [intOf]; omega⟩
    · obtain ⟨hl0, hl1⟩ := hlt
      obtain ⟨a, ea, hA⟩ := act_at rfl (H0.ext E) hl0
      subst ea
      have hok := W0 _ (show l0.getD j default ∈ l0 by simp [List.getD, hl0])
      generalize l0.getD j default = x at hA hok hq hkk
      obtain ⟨xk, xf, xn, xz⟩ := x
      obtain ⟨-, ok2, ok3, ok4⟩ := hok
      dsimp only at ok2 ok3 ok4 hq hkk
      obtain ⟨yf, rfl, hyf⟩ := wf_u8 ok2
      obtain ⟨yz, rfl, hyz⟩ := wf_u8 ok4
      clear ok2 ok4 W0 H0 H1 W1
      have EX := Ext.refl wr
      obtain ⟨k, hk3, hk⟩ : ∃ k : Nat, (yf : Int) % 3 = k ∧ k < 3 := ⟨yf % 3, by omega, by omega⟩
      subst hkk
      have TA44 : True := trivial
      have TB8 : True := trivial
      have TG3 : True := trivial
      go_wp2_with (first | (clear TA44; refine loads_act rfl rfl rfl (hA) ?_) | (clear TB8; refine allocsT rfl rfl ?_; intro B8 w8 bB8 cB8 XB8 LB8 RB8; have z2 := XB8.size; replace E := E.trans XB8; replace EX := EX.trans XB8; have cB8_0 := lay_cell LB8 (j := 0) rfl; have cB8_1 := lay_cell LB8 (j := 1) rfl; have cB8_2 := lay_cell LB8 (j := 2) rfl; have cB8_3 := lay_cell LB8 (j := 3) rfl) | (clear TG3; have hRl := (RB8).lt (Nat.zero_lt_succ _); refine storesT (B := B8) rfl rfl rfl (v := (.agg #[.int .i64 0, .int .u8 yf, .string xn, .int .u8 yz])) rfl RB8 (act_flat _ _ _ _) ?_; clear LB8; clear cB8_0; clear cB8_1; clear cB8_2; clear cB8_3; intro s3 G3 LB8 RQ; have z4 := G3.size; replace E := grown_ext E G3 (by omega); replace EX := grown_ext EX G3 (by omega); clear RB8; have RB8 := RQ; clear RQ hRl; have cB8_0 := lay_cell LB8 (j := 0) rfl; have cB8_1 := lay_cell LB8 (j := 1) rfl; have cB8_2 := lay_cell LB8 (j := 2) rfl; have cB8_3 := lay_cell LB8 (j := 3) rfl; clear RB8))
      obtain ⟨hb1, hb2, hb3, hb4, hb5, hb6, hb7, hb8⟩ := (hn.at hk).1
      replace HE := HE.ext EX
      replace HR := HR.ext EX
      replace HM := HM.ext EX
      clear EX
      have LK := HE.l k hk
      obtain ⟨A, n, c, A2, n2, c2, R0, R1, hn1, hn2, SV, SF⟩ := HR k hk
      have FV : FL _ A n (V k) base := ⟨hn1, SV⟩
      have FF : FL _ A2 n2 (F k) base := ⟨hn2, SF⟩
      clear hn1 hn2 SV SF
      go_wp2_with fail
      try simp only [Act.put, List.setIfInBounds_toArray, List.set_cons_zero, List.set_cons_succ]
      have hq5 : s3.heap.size ≤ s3.drew.heap.size := Nat.le_refl _
      have z6 := (Ext.refl s3).drew.size
      replace E := E.trans (Ext.refl s3).drew
      replace LB8 := LB8.ext (Ext.refl s3).drew
      replace cB8_0 := cell_ext ((Ext.refl s3).drew) cB8_0
      replace cB8_1 := cell_ext ((Ext.refl s3).drew) cB8_1
      replace cB8_2 := cell_ext ((Ext.refl s3).drew) cB8_2
      replace cB8_3 := cell_ext ((Ext.refl s3).drew) cB8_3
      replace HE := HE.ext (Ext.refl s3).drew
      replace HR := HR.ext (Ext.refl s3).drew
      replace HM := HM.ext (Ext.refl s3).drew
      replace LK := cell_ext ((Ext.refl s3).drew) LK
      replace R0 := cell_ext ((Ext.refl s3).drew) R0
      replace R1 := cell_ext ((Ext.refl s3).drew) R1
      replace FV := FV.ext (Ext.refl s3).drew
      replace FF := FF.ext (Ext.refl s3).drew
      refine wp_region_held_drew (S := (fun w' => w'.cell? ⟨B8, 2, none⟩ = some (.string xn) ∧ w'.cell? ⟨B8, 3, none⟩ = some (.int .u8 (yz : Nat)))) (by kernel_rfl) ⟨(cB8_2), (cB8_3)⟩ (fun hHeld => ?_)
      refine wpAnyH_take (i := 0) (oi := { dst := some 57, op := Go.Op.move (Go.Operand.tmp 6), type := 27, pos := "law.go:55", after := #[], guard := none }) (v := ?v7k1) rfl (by kernel_rfl) (by kernel_rfl) (by kernel_rfl) (fun _ _ _ h => h) (Or.inl ⟨by rfl, ?hy7k1⟩) hHeld ?rest7k1
      case hy7k1 => (intro w hSw; (try dsimp only at hSw); obtain ⟨hS0, hS1⟩ := hSw; go_simp; (first | done | with_reducible rfl))
      try simp only [Act.put, List.setIfInBounds_toArray, List.set_cons_zero, List.set_cons_succ]
      refine wpAnyH_take (i := 1) (oi := { dst := some 58, op := Go.Op.move (Go.Operand.tmp 9), type := 3, pos := "law.go:55", after := #[], guard := none }) (v := ?v8k1) rfl (by kernel_rfl) (by kernel_rfl) (by kernel_rfl) (fun _ _ _ h => h) (Or.inl ⟨by rfl, ?hy8k1⟩) hHeld ?rest8k1
      case hy8k1 => (intro w hSw; (try dsimp only at hSw); obtain ⟨hS0, hS1⟩ := hSw; go_simp; (first | done | with_reducible rfl))
      try simp only [Act.put, List.setIfInBounds_toArray, List.set_cons_zero, List.set_cons_succ]
      refine wpAnyH_take (i := 2) (oi := { dst := some 59, op := Go.Op.move (Go.Operand.tmp 6), type := 27, pos := "law.go:55", after := #[], guard := none }) (v := ?v9k1) rfl (by kernel_rfl) (by kernel_rfl) (by kernel_rfl) (fun _ _ _ h => h) (Or.inl ⟨by rfl, ?hy9k1⟩) hHeld ?rest9k1
      case hy9k1 => (intro w hSw; (try dsimp only at hSw); obtain ⟨hS0, hS1⟩ := hSw; go_simp; (first | done | with_reducible rfl))
      try simp only [Act.put, List.setIfInBounds_toArray, List.set_cons_zero, List.set_cons_succ]
      refine wpAnyH_take (i := 3) (oi := { dst := some 60, op := Go.Op.move (Go.Operand.tmp 9), type := 3, pos := "law.go:55", after := #[], guard := none }) (v := ?v10k1) rfl (by kernel_rfl) (by kernel_rfl) (by kernel_rfl) (fun _ _ _ h => h) (Or.inl ⟨by rfl, ?hy10k1⟩) hHeld ?rest10k1
      case hy10k1 => (intro w hSw; (try dsimp only at hSw); obtain ⟨hS0, hS1⟩ := hSw; go_simp; (first | done | with_reducible rfl))
      try simp only [Act.put, List.setIfInBounds_toArray, List.set_cons_zero, List.set_cons_succ]
      refine wpAnyH_take (i := 4) (oi := { dst := some 61, op := Go.Op.indexAddr 27 (Go.Operand.tmp 59) (Go.Operand.tmp 60), type := 0, pos := "law.go:55", after := #[{ on := 2, ground := Go.Ground.data }, { on := 3, ground := Go.Ground.data }], guard := none }) (v := .pointer (some (ar.add (k * 2)))) rfl (by kernel_rfl) (by kernel_rfl) (by kernel_rfl) (fun _ _ _ h => h) (Or.inl ⟨by rfl, ?hy11k1⟩) hHeld ?rest11k1
      case hy11k1 => (intro w hSw; (try dsimp only at hSw); obtain ⟨hS0, hS1⟩ := hSw; go_simp; try (first | done | (intro hk3_; exfalso; omega) | (rw [if_pos]; omega) | (simp; omega)); (first | done | with_reducible rfl))
      try simp only [Act.put, List.setIfInBounds_toArray, List.set_cons_zero, List.set_cons_succ]
      refine wpAnyH_take (i := 6) (oi := { dst := some 63, op := Go.Op.fieldAddr 29 (Go.Operand.tmp 8) 2, type := 0, pos := "law.go:55", after := #[], guard := none }) (v := ?v12k1) rfl (by kernel_rfl) (by kernel_rfl) (by kernel_rfl) (fun _ _ _ h => h) (Or.inl ⟨by rfl, ?hy12k1⟩) hHeld ?rest12k1
      case hy12k1 => (intro w hSw; (try dsimp only at hSw); obtain ⟨hS0, hS1⟩ := hSw; go_simp; (first | done | with_reducible rfl))
      try simp only [Act.put, List.setIfInBounds_toArray, List.set_cons_zero, List.set_cons_succ]
      refine wpAnyH_take (i := 7) (oi := { dst := some 64, op := Go.Op.load 9 (Go.Operand.tmp 63), type := 9, pos := "law.go:55", after := #[{ on := 6, ground := Go.Ground.data }], guard := none }) (v := .string xn) rfl (by kernel_rfl) (by kernel_rfl) (by kernel_rfl) (fun _ _ _ h => h) (Or.inl ⟨by rfl, ?hy13k1⟩) hHeld ?rest13k1
      case hy13k1 => (intro w hSw; (try dsimp only at hSw); obtain ⟨hS0, hS1⟩ := hSw; go_simp; try (first | done | (simp [hS0]; done) | (simp [hS1]; done) | (simp; omega) | omega); (first | done | with_reducible rfl))
      try simp only [Act.put, List.setIfInBounds_toArray, List.set_cons_zero, List.set_cons_succ]
      refine wpAnyH_take (i := 8) (oi := { dst := some 65, op := Go.Op.fieldAddr 29 (Go.Operand.tmp 8) 3, type := 0, pos := "law.go:55", after := #[], guard := none }) (v := ?v14k1) rfl (by kernel_rfl) (by kernel_rfl) (by kernel_rfl) (fun _ _ _ h => h) (Or.inl ⟨by rfl, ?hy14k1⟩) hHeld ?rest14k1
      case hy14k1 => (intro w hSw; (try dsimp only at hSw); obtain ⟨hS0, hS1⟩ := hSw; go_simp; (first | done | with_reducible rfl))
      try simp only [Act.put, List.setIfInBounds_toArray, List.set_cons_zero, List.set_cons_succ]
      refine wpAnyH_take (i := 9) (oi := { dst := some 66, op := Go.Op.load 5 (Go.Operand.tmp 65), type := 5, pos := "law.go:55", after := #[{ on := 8, ground := Go.Ground.data }], guard := none }) (v := .int .u8 yz) rfl (by kernel_rfl) (by kernel_rfl) (by kernel_rfl) (fun _ _ _ h => h) (Or.inl ⟨by rfl, ?hy15k1⟩) hHeld ?rest15k1
      case hy15k1 => (intro w hSw; (try dsimp only at hSw); obtain ⟨hS0, hS1⟩ := hSw; go_simp; try (first | done | (simp [hS0]; done) | (simp [hS1]; done) | (simp; omega) | omega); (first | done | with_reducible rfl))
      try simp only [Act.put, List.setIfInBounds_toArray, List.set_cons_zero, List.set_cons_succ]
      refine wpAnyH_take (i := 10) (oi := { dst := some 67, op := Go.Op.convert 5 3 (Go.Operand.tmp 66), type := 3, pos := "law.go:55", after := #[{ on := 9, ground := Go.Ground.data }], guard := none }) (v := .int .i64 yz) rfl (by kernel_rfl) (by kernel_rfl) (by kernel_rfl) (fun _ _ _ h => h) (Or.inl ⟨by rfl, ?hy16k1⟩) hHeld ?rest16k1
      case hy16k1 => (intro w hSw; (try dsimp only at hSw); obtain ⟨hS0, hS1⟩ := hSw; go_simp; try (first | done | exact wrap_small (by omega) (by omega) | (rw [wrap_small (by omega) (by omega)]; done)); (first | done | with_reducible rfl))
      try simp only [Act.put, List.setIfInBounds_toArray, List.set_cons_zero, List.set_cons_succ]
      refine wpAnyH_ready (rs := [5]) (by kernel_rfl) (by simp) ?_
      refine AllReadyH.cons (o := evp_14_5) rfl (fun K hK => ?_) (AllReadyH.nil)
      dsimp only [evp_14_5]
      rw [if_pos (by rfl)]
      refine load_fr rfl rfl (⟨R0, R1⟩) ?_
      clear hHeld
      have hHeld := And.intro (cB8_2) ((cB8_3))
      refine hK.out _ _ hHeld (fun _ => ?_)
      clear hK K
      try simp only [Act.put, List.setIfInBounds_toArray, List.set_cons_zero, List.set_cons_succ]
      refine wpAnyH_ready (rs := [11]) (by kernel_rfl) (by simp) ?_
      refine AllReadyH.cons (o := evp_14_11) rfl (fun K hK => ?_) (AllReadyH.nil)
      dsimp only [evp_14_11]
      go_simp
      refine (rset_V A n c A2 n2 c2 (V k) (F k) xn yz base _ FV FF (by omega) (hlen k hk)).mono ?_
      rintro e w68 ⟨A3, n3, c3, A4, n4, c4, rfl, GV, GF, x⟩
      clear FV FF
      have z17 := x.size
      replace E := E.trans x
      replace LB8 := LB8.ext x
      replace cB8_0 := cell_ext (x) cB8_0
      replace cB8_1 := cell_ext (x) cB8_1
      replace cB8_2 := cell_ext (x) cB8_2
      replace cB8_3 := cell_ext (x) cB8_3
      replace HE := HE.ext x
      replace HR := HR.ext x
      replace HM := HM.ext x
      replace LK := cell_ext (x) LK
      replace R0 := cell_ext (x) R0
      replace R1 := cell_ext (x) R1
      clear x
      clear hHeld
      have hHeld := And.intro (cB8_2) ((cB8_3))
      refine hK.out _ _ hHeld (fun _ => ?_)
      clear hK K
      try simp only [Act.put, List.setIfInBounds_toArray, List.set_cons_zero, List.set_cons_succ]
      refine wpAnyH_take (i := 12) (oi := { dst := some 56, op := Go.Op.move (Go.Operand.tmp 68), type := 34, pos := "law.go:55", after := #[{ on := 11, ground := Go.Ground.data }], guard := none }) (v := ?v18k1) rfl (by kernel_rfl) (by kernel_rfl) (by kernel_rfl) (fun _ _ _ h => h) (Or.inl ⟨by rfl, ?hy18k1⟩) hHeld ?rest18k1
      case hy18k1 => (intro w hSw; (try dsimp only at hSw); obtain ⟨hS0, hS1⟩ := hSw; go_simp; (first | done | with_reducible rfl))
      try simp only [Act.put, List.setIfInBounds_toArray, List.set_cons_zero, List.set_cons_succ]
      refine wpAnyH_take (i := 13) (oi := { dst := some 69, op := Go.Op.extract (Go.Operand.tmp 56) 0, type := 33, pos := "law.go:55", after := #[{ on := 12, ground := Go.Ground.data }], guard := none }) (v := ?v19k1) rfl (by kernel_rfl) (by kernel_rfl) (by kernel_rfl) (fun _ _ _ h => h) (Or.inl ⟨by rfl, ?hy19k1⟩) hHeld ?rest19k1
      case hy19k1 => (intro w hSw; (try dsimp only at hSw); obtain ⟨hS0, hS1⟩ := hSw; go_simp; (first | done | with_reducible rfl))
      try simp only [Act.put, List.setIfInBounds_toArray, List.set_cons_zero, List.set_cons_succ]
      refine wpAnyH_take (i := 14) (oi := { dst := some 70, op := Go.Op.extract (Go.Operand.tmp 56) 1, type := 3, pos := "law.go:55", after := #[{ on := 12, ground := Go.Ground.data }, { on := 16, ground := Go.Ground.gcOnly Go.Departure.lateStores }], guard := none }) (v := ?v20k1) rfl (by kernel_rfl) (by kernel_rfl) (by kernel_rfl) (fun _ _ _ h => h) (Or.inl ⟨by rfl, ?hy20k1⟩) hHeld ?rest20k1
      case hy20k1 => (intro w hSw; (try dsimp only at hSw); obtain ⟨hS0, hS1⟩ := hSw; go_simp; (first | done | with_reducible rfl))
      try simp only [Act.put, List.setIfInBounds_toArray, List.set_cons_zero, List.set_cons_succ]
      refine wpAnyH_take (i := 15) (oi := { dst := some 71, op := Go.Op.indexAddr 27 (Go.Operand.tmp 57) (Go.Operand.tmp 58), type := 0, pos := "law.go:55", after := #[{ on := 0, ground := Go.Ground.data }, { on := 1, ground := Go.Ground.data }, { on := 0, ground := Go.Ground.phase }, { on := 1, ground := Go.Ground.phase }, { on := 2, ground := Go.Ground.phase }, { on := 3, ground := Go.Ground.phase }, { on := 4, ground := Go.Ground.phase }, { on := 5, ground := Go.Ground.phase }, { on := 6, ground := Go.Ground.phase }, { on := 7, ground := Go.Ground.phase }, { on := 8, ground := Go.Ground.phase }, { on := 9, ground := Go.Ground.phase }, { on := 10, ground := Go.Ground.phase }, { on := 11, ground := Go.Ground.phase }, { on := 12, ground := Go.Ground.phase }, { on := 13, ground := Go.Ground.phase }, { on := 14, ground := Go.Ground.textOnly Go.Departure.lateStores }], guard := none }) (v := .pointer (some (ar.add (k * 2)))) rfl (by kernel_rfl) (by kernel_rfl) (by kernel_rfl) (fun _ _ _ h => h) (Or.inl ⟨by rfl, ?hy21k1⟩) hHeld ?rest21k1
      case hy21k1 => (intro w hSw; (try dsimp only at hSw); obtain ⟨hS0, hS1⟩ := hSw; go_simp; try (first | done | (intro hk3_; exfalso; omega) | (rw [if_pos]; omega) | (simp; omega)); (first | done | with_reducible rfl))
      try simp only [Act.put, List.setIfInBounds_toArray, List.set_cons_zero, List.set_cons_succ]
      refine wpAnyH_ready (rs := [16]) (by kernel_rfl) (by simp) ?_
      refine AllReadyH.cons (o := evp_14_16) rfl (fun K hK => ?_) (AllReadyH.nil)
      dsimp only [evp_14_16]
      rw [if_pos (by rfl)]
      refine store_fr (by rfl) hk (by rfl) (by rfl) HM HR hra GV GF ?_
      clear HM HR GV GF R0 R1
      intro wst71 G HM HR
      rw [updF_self] at HR
      have z22 := G.size
      replace E := grown_ext E G (by omega)
      replace LB8 := LB8.grown G (by omega)
      replace cB8_0 := cell_grown (G) cB8_0 (by show B8 ≠ _; omega)
      replace cB8_1 := cell_grown (G) cB8_1 (by show B8 ≠ _; omega)
      replace cB8_2 := cell_grown (G) cB8_2 (by show B8 ≠ _; omega)
      replace cB8_3 := cell_grown (G) cB8_3 (by show B8 ≠ _; omega)
      replace HE := HE.grown G ⟨hn, rfl⟩
      replace LK := cell_grown (G) LK (by rw [addr_block]; omega)
      clear G
      clear hHeld
      have hHeld := And.intro (cB8_2) ((cB8_3))
      refine hK.out _ _ hHeld (fun _ => ?_)
      clear hK K
      try simp only [Act.put]
      refine wpAnyH_take (i := 17) (oi := { dst := some 10, op := Go.Op.assign (Go.Operand.tmp 70), type := 3, pos := "law.go:55", after := #[{ on := 14, ground := Go.Ground.data }, { on := 16, ground := Go.Ground.chain }, { on := 0, ground := Go.Ground.phase }, { on := 1, ground := Go.Ground.phase }, { on := 2, ground := Go.Ground.phase }, { on := 3, ground := Go.Ground.phase }, { on := 4, ground := Go.Ground.phase }, { on := 5, ground := Go.Ground.phase }, { on := 6, ground := Go.Ground.phase }, { on := 7, ground := Go.Ground.phase }, { on := 8, ground := Go.Ground.phase }, { on := 9, ground := Go.Ground.phase }, { on := 10, ground := Go.Ground.phase }, { on := 11, ground := Go.Ground.phase }, { on := 12, ground := Go.Ground.phase }, { on := 13, ground := Go.Ground.phase }, { on := 14, ground := Go.Ground.phase }, { on := 15, ground := Go.Ground.phase }, { on := 16, ground := Go.Ground.phase }], guard := none }) (v := ?v23k1) rfl (by kernel_rfl) (by kernel_rfl) (by kernel_rfl) (fun _ _ _ h => h) (Or.inl ⟨by rfl, ?hy23k1⟩) hHeld ?rest23k1
      case hy23k1 => (intro w hSw; (try dsimp only at hSw); obtain ⟨hS0, hS1⟩ := hSw; go_simp; (first | done | with_reducible rfl))
      try simp only [Act.put, List.setIfInBounds_toArray, List.set_cons_zero, List.set_cons_succ]
      refine wpAnyH_done (by kernel_rfl) ?_ _
      go_wp2_with fail
      try simp only [Act.put, List.setIfInBounds_toArray, List.set_cons_zero, List.set_cons_succ]
      have hq24 : wst71.heap.size ≤ wst71.drew.heap.size := Nat.le_refl _
      have z25 := (Ext.refl wst71).drew.size
      replace E := E.trans (Ext.refl wst71).drew
      replace LB8 := LB8.ext (Ext.refl wst71).drew
      replace cB8_0 := cell_ext ((Ext.refl wst71).drew) cB8_0
      replace cB8_1 := cell_ext ((Ext.refl wst71).drew) cB8_1
      replace cB8_2 := cell_ext ((Ext.refl wst71).drew) cB8_2
      replace cB8_3 := cell_ext ((Ext.refl wst71).drew) cB8_3
      replace HE := HE.ext (Ext.refl wst71).drew
      replace LK := cell_ext ((Ext.refl wst71).drew) LK
      replace HR := HR.ext (Ext.refl wst71).drew
      replace HM := HM.ext (Ext.refl wst71).drew
      refine wp_region_held_drew (S := (fun w' => w'.cell? (al.add k) = some (.pointer (some ⟨B k, 0, none⟩)) ∧ w'.cell? ⟨B8, 2, none⟩ = some (.string xn) ∧ w'.cell? ⟨B8, 3, none⟩ = some (.int .u8 (yz : Nat)))) (by kernel_rfl) ⟨(LK), (cB8_2), (cB8_3)⟩ (fun hHeld => ?_)
      refine wpAnyH_take (i := 0) (oi := { dst := some 72, op := Go.Op.move (Go.Operand.tmp 5), type := 26, pos := "law.go:56", after := #[], guard := none }) (v := ?v26k1) rfl (by kernel_rfl) (by kernel_rfl) (by kernel_rfl) (fun _ _ _ h => h) (Or.inl ⟨by rfl, ?hy26k1⟩) hHeld ?rest26k1
      case hy26k1 => (intro w hSw; (try dsimp only at hSw); obtain ⟨hS0, hS1, hS2⟩ := hSw; go_simp; (first | done | with_reducible rfl))
      try simp only [Act.put, List.setIfInBounds_toArray, List.set_cons_zero, List.set_cons_succ]
      refine wpAnyH_take (i := 1) (oi := { dst := some 73, op := Go.Op.move (Go.Operand.tmp 9), type := 3, pos := "law.go:56", after := #[], guard := none }) (v := ?v27k1) rfl (by kernel_rfl) (by kernel_rfl) (by kernel_rfl) (fun _ _ _ h => h) (Or.inl ⟨by rfl, ?hy27k1⟩) hHeld ?rest27k1
      case hy27k1 => (intro w hSw; (try dsimp only at hSw); obtain ⟨hS0, hS1, hS2⟩ := hSw; go_simp; (first | done | with_reducible rfl))
      try simp only [Act.put, List.setIfInBounds_toArray, List.set_cons_zero, List.set_cons_succ]
      refine wpAnyH_take (i := 2) (oi := { dst := some 74, op := Go.Op.indexAddr 26 (Go.Operand.tmp 72) (Go.Operand.tmp 73), type := 0, pos := "law.go:56", after := #[{ on := 0, ground := Go.Ground.data }, { on := 1, ground := Go.Ground.data }], guard := none }) (v := .pointer (some (al.add k))) rfl (by kernel_rfl) (by kernel_rfl) (by kernel_rfl) (fun _ _ _ h => h) (Or.inl ⟨by rfl, ?hy28k1⟩) hHeld ?rest28k1
      case hy28k1 => (intro w hSw; (try dsimp only at hSw); obtain ⟨hS0, hS1, hS2⟩ := hSw; go_simp; try (first | done | (intro hk3_; exfalso; omega) | (rw [if_pos]; omega) | (simp; omega)); (first | done | with_reducible rfl))
      try simp only [Act.put, List.setIfInBounds_toArray, List.set_cons_zero, List.set_cons_succ]
      refine wpAnyH_take (i := 3) (oi := { dst := some 75, op := Go.Op.load 24 (Go.Operand.tmp 74), type := 24, pos := "law.go:56", after := #[{ on := 2, ground := Go.Ground.data }], guard := none }) (v := .pointer (some ⟨B k, 0, none⟩)) rfl (by kernel_rfl) (by kernel_rfl) (by kernel_rfl) (fun _ _ _ h => h) (Or.inl ⟨by rfl, ?hy29k1⟩) hHeld ?rest29k1
      case hy29k1 => (intro w hSw; (try dsimp only at hSw); obtain ⟨hS0, hS1, hS2⟩ := hSw; go_simp; try (first | done | (simp [hS0]; done) | (simp [hS1]; done) | (simp [hS2]; done) | (simp; omega) | omega); (first | done | with_reducible rfl))
      try simp only [Act.put, List.setIfInBounds_toArray, List.set_cons_zero, List.set_cons_succ]
      refine wpAnyH_take (i := 4) (oi := { dst := some 76, op := Go.Op.fieldAddr 29 (Go.Operand.tmp 8) 2, type := 0, pos := "law.go:56", after := #[], guard := none }) (v := ?v30k1) rfl (by kernel_rfl) (by kernel_rfl) (by kernel_rfl) (fun _ _ _ h => h) (Or.inl ⟨by rfl, ?hy30k1⟩) hHeld ?rest30k1
      case hy30k1 => (intro w hSw; (try dsimp only at hSw); obtain ⟨hS0, hS1, hS2⟩ := hSw; go_simp; (first | done | with_reducible rfl))
      try simp only [Act.put, List.setIfInBounds_toArray, List.set_cons_zero, List.set_cons_succ]
      refine wpAnyH_take (i := 5) (oi := { dst := some 77, op := Go.Op.load 9 (Go.Operand.tmp 76), type := 9, pos := "law.go:56", after := #[{ on := 4, ground := Go.Ground.data }], guard := none }) (v := .string xn) rfl (by kernel_rfl) (by kernel_rfl) (by kernel_rfl) (fun _ _ _ h => h) (Or.inl ⟨by rfl, ?hy31k1⟩) hHeld ?rest31k1
      case hy31k1 => (intro w hSw; (try dsimp only at hSw); obtain ⟨hS0, hS1, hS2⟩ := hSw; go_simp; try (first | done | (simp [hS0]; done) | (simp [hS1]; done) | (simp [hS2]; done) | (simp; omega) | omega); (first | done | with_reducible rfl))
      try simp only [Act.put, List.setIfInBounds_toArray, List.set_cons_zero, List.set_cons_succ]
      refine wpAnyH_take (i := 6) (oi := { dst := some 78, op := Go.Op.fieldAddr 29 (Go.Operand.tmp 8) 3, type := 0, pos := "law.go:56", after := #[], guard := none }) (v := ?v32k1) rfl (by kernel_rfl) (by kernel_rfl) (by kernel_rfl) (fun _ _ _ h => h) (Or.inl ⟨by rfl, ?hy32k1⟩) hHeld ?rest32k1
      case hy32k1 => (intro w hSw; (try dsimp only at hSw); obtain ⟨hS0, hS1, hS2⟩ := hSw; go_simp; (first | done | with_reducible rfl))
      try simp only [Act.put, List.setIfInBounds_toArray, List.set_cons_zero, List.set_cons_succ]
      refine wpAnyH_take (i := 7) (oi := { dst := some 79, op := Go.Op.load 5 (Go.Operand.tmp 78), type := 5, pos := "law.go:56", after := #[{ on := 6, ground := Go.Ground.data }], guard := none }) (v := .int .u8 yz) rfl (by kernel_rfl) (by kernel_rfl) (by kernel_rfl) (fun _ _ _ h => h) (Or.inl ⟨by rfl, ?hy33k1⟩) hHeld ?rest33k1
      case hy33k1 => (intro w hSw; (try dsimp only at hSw); obtain ⟨hS0, hS1, hS2⟩ := hSw; go_simp; try (first | done | (simp [hS0]; done) | (simp [hS1]; done) | (simp [hS2]; done) | (simp; omega) | omega); (first | done | with_reducible rfl))
      try simp only [Act.put, List.setIfInBounds_toArray, List.set_cons_zero, List.set_cons_succ]
      refine wpAnyH_ready (rs := [8]) (by kernel_rfl) (by simp) ?_
      refine AllReadyH.cons (o := evp_15_8) rfl (fun K hK => ?_) (AllReadyH.nil)
      dsimp only [evp_15_8]
      go_simp
      refine (number_av yz hyz base _ (by omega)).mono ?_
      rintro e w80 ⟨v, rfl, hav, x⟩
      have z34 := x.size
      replace E := E.trans x
      replace LB8 := LB8.ext x
      replace cB8_0 := cell_ext (x) cB8_0
      replace cB8_1 := cell_ext (x) cB8_1
      replace cB8_2 := cell_ext (x) cB8_2
      replace cB8_3 := cell_ext (x) cB8_3
      replace HE := HE.ext x
      replace LK := cell_ext (x) LK
      replace HR := HR.ext x
      replace HM := HM.ext x
      clear x
      clear hHeld
      have hHeld := And.intro (LK) (And.intro (cB8_2) ((cB8_3)))
      refine hK.out _ _ hHeld (fun _ => ?_)
      clear hK K
      try simp only [Act.put, List.setIfInBounds_toArray, List.set_cons_zero, List.set_cons_succ]
      refine wpAnyH_ready (rs := [9]) (by kernel_rfl) (by simp) ?_
      refine AllReadyH.cons (o := evp_15_9) rfl (fun K hK => ?_) (AllReadyH.nil)
      dsimp only [evp_15_9]
      go_simp
      refine (eset E hn HE hk (by omega) (hlen k hk) ok3 (z := yz) ⟨by omega, by omega⟩ hav).mono ?_
      rintro e w81 ⟨rfl, hg0, DV2, HE2⟩
      have hg := hg0.out
      clear hg0 hav HE
      have HE := HE2
      clear HE2
      have z35 := hg.size
      replace E := grown_ext E hg (by omega)
      replace LB8 := LB8.grown hg (by omega)
      replace cB8_0 := cell_grown (hg) cB8_0 (by show B8 ≠ _; omega)
      replace cB8_1 := cell_grown (hg) cB8_1 (by show B8 ≠ _; omega)
      replace cB8_2 := cell_grown (hg) cB8_2 (by show B8 ≠ _; omega)
      replace cB8_3 := cell_grown (hg) cB8_3 (by show B8 ≠ _; omega)
      replace LK := cell_grown (hg) LK (by rw [addr_block]; omega)
      replace HR := HR.grown hg (by omega) (fun i => by rw [addr_block]; omega)
      replace HM := HM.grown hg (by omega)
      clear hg
      clear hHeld
      have hHeld := And.intro (LK) (And.intro (cB8_2) ((cB8_3)))
      refine hK.out _ _ hHeld (fun _ => ?_)
      clear hK K
      try simp only [Act.put, List.setIfInBounds_toArray, List.set_cons_zero, List.set_cons_succ]
      refine wpAnyH_take (i := 10) (oi := { dst := some 11, op := Go.Op.assign (Go.Operand.tmp 81), type := 30, pos := "law.go:56", after := #[{ on := 9, ground := Go.Ground.data }, { on := 9, ground := Go.Ground.chain }, { on := 0, ground := Go.Ground.phase }, { on := 1, ground := Go.Ground.phase }, { on := 2, ground := Go.Ground.phase }, { on := 3, ground := Go.Ground.phase }, { on := 4, ground := Go.Ground.phase }, { on := 5, ground := Go.Ground.phase }, { on := 6, ground := Go.Ground.phase }, { on := 7, ground := Go.Ground.phase }, { on := 8, ground := Go.Ground.phase }, { on := 9, ground := Go.Ground.phase }], guard := none }) (v := ?v36k1) rfl (by kernel_rfl) (by kernel_rfl) (by kernel_rfl) (fun _ _ _ h => h) (Or.inl ⟨by rfl, ?hy36k1⟩) hHeld ?rest36k1
      case hy36k1 => (intro w hSw; (try dsimp only at hSw); obtain ⟨hS0, hS1, hS2⟩ := hSw; go_simp; (first | done | with_reducible rfl))
      try simp only [Act.put, List.setIfInBounds_toArray, List.set_cons_zero, List.set_cons_succ]
      refine wpAnyH_done (by kernel_rfl) ?_ _
      go_wp2_with fail
      replace hlen := (upd_len hlen hk xn yz).1
      refine (agrees_any _ base B bm bf al ar (updF V k (upL (V k) (F k) xn yz)) F (j + 1) DV2 DF cl k hk xn ok3 (HE.es HR hlen)).mono ?_
      rintro e w121 ⟨rfl, x⟩
      have z37 := x.size
      replace E := E.trans x
      replace LB8 := LB8.ext x
      replace cB8_0 := cell_ext (x) cB8_0
      replace cB8_1 := cell_ext (x) cB8_1
      replace cB8_2 := cell_ext (x) cB8_2
      replace cB8_3 := cell_ext (x) cB8_3
      replace LK := cell_ext (x) LK
      replace HR := HR.ext x
      replace HM := HM.ext x
      replace HE := HE.ext x
      clear x
      go_wp2_with fail
      exact ⟨⟨j + 1, (updF V k (upL (V k) (F k) xn yz)), F, DV2, DF, by omega, by omega, by go_num, HE, HR, HM, hlen, by omega, E⟩, by simp [intOf]; omega⟩
    · obtain ⟨hl0, hl1⟩ := hlt
      obtain ⟨a, ea, hA⟩ := act_at rfl (H0.ext E) hl0
      subst ea
      have hok := W0 _ (show l0.getD j default ∈ l0 by simp [List.getD, hl0])
      generalize l0.getD j default = x at hA hok hq hkk
      obtain ⟨xk, xf, xn, xz⟩ := x
      obtain ⟨-, ok2, ok3, ok4⟩ := hok
      dsimp only at ok2 ok3 ok4 hq hkk
      obtain ⟨yf, rfl, hyf⟩ := wf_u8 ok2
      obtain ⟨yz, rfl, hyz⟩ := wf_u8 ok4
      clear ok2 ok4 W0 H0 H1 W1
      have EX := Ext.refl wr
      obtain ⟨k, hk3, hk⟩ : ∃ k : Nat, (yf : Int) % 3 = k ∧ k < 3 := ⟨yf % 3, by omega, by omega⟩
      subst hkk
      have TA44 : True := trivial
      have TB8 : True := trivial
      have TG3 : True := trivial
      go_wp2_with (first | (clear TA44; refine loads_act rfl rfl rfl (hA) ?_) | (clear TB8; refine allocsT rfl rfl ?_; intro B8 w8 bB8 cB8 XB8 LB8 RB8; have z2 := XB8.size; replace E := E.trans XB8; replace EX := EX.trans XB8; have cB8_0 := lay_cell LB8 (j := 0) rfl; have cB8_1 := lay_cell LB8 (j := 1) rfl; have cB8_2 := lay_cell LB8 (j := 2) rfl; have cB8_3 := lay_cell LB8 (j := 3) rfl) | (clear TG3; have hRl := (RB8).lt (Nat.zero_lt_succ _); refine storesT (B := B8) rfl rfl rfl (v := (.agg #[.int .i64 1, .int .u8 yf, .string xn, .int .u8 yz])) rfl RB8 (act_flat _ _ _ _) ?_; clear LB8; clear cB8_0; clear cB8_1; clear cB8_2; clear cB8_3; intro s3 G3 LB8 RQ; have z4 := G3.size; replace E := grown_ext E G3 (by omega); replace EX := grown_ext EX G3 (by omega); clear RB8; have RB8 := RQ; clear RQ hRl; have cB8_0 := lay_cell LB8 (j := 0) rfl; have cB8_1 := lay_cell LB8 (j := 1) rfl; have cB8_2 := lay_cell LB8 (j := 2) rfl; have cB8_3 := lay_cell LB8 (j := 3) rfl; clear RB8))
      obtain ⟨hb1, hb2, hb3, hb4, hb5, hb6, hb7, hb8⟩ := (hn.at hk).1
      replace HE := HE.ext EX
      replace HR := HR.ext EX
      replace HM := HM.ext EX
      clear EX
      have LK := HE.l k hk
      obtain ⟨A, n, c, A2, n2, c2, R0, R1, hn1, hn2, SV, SF⟩ := HR k hk
      have FV : FL _ A n (V k) base := ⟨hn1, SV⟩
      have FF : FL _ A2 n2 (F k) base := ⟨hn2, SF⟩
      clear hn1 hn2 SV SF
      go_wp2_with fail
      try simp only [Act.put, List.setIfInBounds_toArray, List.set_cons_zero, List.set_cons_succ]
      have hq5 : s3.heap.size ≤ s3.drew.heap.size := Nat.le_refl _
      have z6 := (Ext.refl s3).drew.size
      replace E := E.trans (Ext.refl s3).drew
      replace LB8 := LB8.ext (Ext.refl s3).drew
      replace cB8_0 := cell_ext ((Ext.refl s3).drew) cB8_0
      replace cB8_1 := cell_ext ((Ext.refl s3).drew) cB8_1
      replace cB8_2 := cell_ext ((Ext.refl s3).drew) cB8_2
      replace cB8_3 := cell_ext ((Ext.refl s3).drew) cB8_3
      replace HE := HE.ext (Ext.refl s3).drew
      replace HR := HR.ext (Ext.refl s3).drew
      replace HM := HM.ext (Ext.refl s3).drew
      replace LK := cell_ext ((Ext.refl s3).drew) LK
      replace R0 := cell_ext ((Ext.refl s3).drew) R0
      replace R1 := cell_ext ((Ext.refl s3).drew) R1
      replace FV := FV.ext (Ext.refl s3).drew
      replace FF := FF.ext (Ext.refl s3).drew
      refine wp_region_held_drew (S := (fun w' => w'.cell? ⟨B8, 2, none⟩ = some (.string xn) ∧ w'.cell? ⟨B8, 3, none⟩ = some (.int .u8 (yz : Nat)))) (by kernel_rfl) ⟨(cB8_2), (cB8_3)⟩ (fun hHeld => ?_)
      refine wpAnyH_take (i := 0) (oi := { dst := some 86, op := Go.Op.move (Go.Operand.tmp 6), type := 27, pos := "law.go:58", after := #[], guard := none }) (v := ?v7k2) rfl (by kernel_rfl) (by kernel_rfl) (by kernel_rfl) (fun _ _ _ h => h) (Or.inl ⟨by rfl, ?hy7k2⟩) hHeld ?rest7k2
      case hy7k2 => (intro w hSw; (try dsimp only at hSw); obtain ⟨hS0, hS1⟩ := hSw; go_simp; (first | done | with_reducible rfl))
      try simp only [Act.put, List.setIfInBounds_toArray, List.set_cons_zero, List.set_cons_succ]
      refine wpAnyH_take (i := 1) (oi := { dst := some 87, op := Go.Op.move (Go.Operand.tmp 9), type := 3, pos := "law.go:58", after := #[], guard := none }) (v := ?v8k2) rfl (by kernel_rfl) (by kernel_rfl) (by kernel_rfl) (fun _ _ _ h => h) (Or.inl ⟨by rfl, ?hy8k2⟩) hHeld ?rest8k2
      case hy8k2 => (intro w hSw; (try dsimp only at hSw); obtain ⟨hS0, hS1⟩ := hSw; go_simp; (first | done | with_reducible rfl))
      try simp only [Act.put, List.setIfInBounds_toArray, List.set_cons_zero, List.set_cons_succ]
      refine wpAnyH_take (i := 2) (oi := { dst := some 88, op := Go.Op.move (Go.Operand.tmp 6), type := 27, pos := "law.go:58", after := #[], guard := none }) (v := ?v9k2) rfl (by kernel_rfl) (by kernel_rfl) (by kernel_rfl) (fun _ _ _ h => h) (Or.inl ⟨by rfl, ?hy9k2⟩) hHeld ?rest9k2
      case hy9k2 => (intro w hSw; (try dsimp only at hSw); obtain ⟨hS0, hS1⟩ := hSw; go_simp; (first | done | with_reducible rfl))
      try simp only [Act.put, List.setIfInBounds_toArray, List.set_cons_zero, List.set_cons_succ]
      refine wpAnyH_take (i := 3) (oi := { dst := some 89, op := Go.Op.move (Go.Operand.tmp 9), type := 3, pos := "law.go:58", after := #[], guard := none }) (v := ?v10k2) rfl (by kernel_rfl) (by kernel_rfl) (by kernel_rfl) (fun _ _ _ h => h) (Or.inl ⟨by rfl, ?hy10k2⟩) hHeld ?rest10k2
      case hy10k2 => (intro w hSw; (try dsimp only at hSw); obtain ⟨hS0, hS1⟩ := hSw; go_simp; (first | done | with_reducible rfl))
      try simp only [Act.put, List.setIfInBounds_toArray, List.set_cons_zero, List.set_cons_succ]
      refine wpAnyH_take (i := 4) (oi := { dst := some 90, op := Go.Op.indexAddr 27 (Go.Operand.tmp 88) (Go.Operand.tmp 89), type := 0, pos := "law.go:58", after := #[{ on := 2, ground := Go.Ground.data }, { on := 3, ground := Go.Ground.data }], guard := none }) (v := .pointer (some (ar.add (k * 2)))) rfl (by kernel_rfl) (by kernel_rfl) (by kernel_rfl) (fun _ _ _ h => h) (Or.inl ⟨by rfl, ?hy11k2⟩) hHeld ?rest11k2
      case hy11k2 => (intro w hSw; (try dsimp only at hSw); obtain ⟨hS0, hS1⟩ := hSw; go_simp; try (first | done | (intro hk3_; exfalso; omega) | (rw [if_pos]; omega) | (simp; omega)); (first | done | with_reducible rfl))
      try simp only [Act.put, List.setIfInBounds_toArray, List.set_cons_zero, List.set_cons_succ]
      refine wpAnyH_take (i := 6) (oi := { dst := some 92, op := Go.Op.fieldAddr 29 (Go.Operand.tmp 8) 2, type := 0, pos := "law.go:58", after := #[], guard := none }) (v := ?v12k2) rfl (by kernel_rfl) (by kernel_rfl) (by kernel_rfl) (fun _ _ _ h => h) (Or.inl ⟨by rfl, ?hy12k2⟩) hHeld ?rest12k2
      case hy12k2 => (intro w hSw; (try dsimp only at hSw); obtain ⟨hS0, hS1⟩ := hSw; go_simp; (first | done | with_reducible rfl))
      try simp only [Act.put, List.setIfInBounds_toArray, List.set_cons_zero, List.set_cons_succ]
      refine wpAnyH_take (i := 7) (oi := { dst := some 93, op := Go.Op.load 9 (Go.Operand.tmp 92), type := 9, pos := "law.go:58", after := #[{ on := 6, ground := Go.Ground.data }], guard := none }) (v := .string xn) rfl (by kernel_rfl) (by kernel_rfl) (by kernel_rfl) (fun _ _ _ h => h) (Or.inl ⟨by rfl, ?hy13k2⟩) hHeld ?rest13k2
      case hy13k2 => (intro w hSw; (try dsimp only at hSw); obtain ⟨hS0, hS1⟩ := hSw; go_simp; try (first | done | (simp [hS0]; done) | (simp [hS1]; done) | (simp; omega) | omega); (first | done | with_reducible rfl))
      try simp only [Act.put, List.setIfInBounds_toArray, List.set_cons_zero, List.set_cons_succ]
      refine wpAnyH_take (i := 8) (oi := { dst := some 94, op := Go.Op.fieldAddr 29 (Go.Operand.tmp 8) 3, type := 0, pos := "law.go:58", after := #[], guard := none }) (v := ?v14k2) rfl (by kernel_rfl) (by kernel_rfl) (by kernel_rfl) (fun _ _ _ h => h) (Or.inl ⟨by rfl, ?hy14k2⟩) hHeld ?rest14k2
      case hy14k2 => (intro w hSw; (try dsimp only at hSw); obtain ⟨hS0, hS1⟩ := hSw; go_simp; (first | done | with_reducible rfl))
      try simp only [Act.put, List.setIfInBounds_toArray, List.set_cons_zero, List.set_cons_succ]
      refine wpAnyH_take (i := 9) (oi := { dst := some 95, op := Go.Op.load 5 (Go.Operand.tmp 94), type := 5, pos := "law.go:58", after := #[{ on := 8, ground := Go.Ground.data }], guard := none }) (v := .int .u8 yz) rfl (by kernel_rfl) (by kernel_rfl) (by kernel_rfl) (fun _ _ _ h => h) (Or.inl ⟨by rfl, ?hy15k2⟩) hHeld ?rest15k2
      case hy15k2 => (intro w hSw; (try dsimp only at hSw); obtain ⟨hS0, hS1⟩ := hSw; go_simp; try (first | done | (simp [hS0]; done) | (simp [hS1]; done) | (simp; omega) | omega); (first | done | with_reducible rfl))
      try simp only [Act.put, List.setIfInBounds_toArray, List.set_cons_zero, List.set_cons_succ]
      refine wpAnyH_take (i := 10) (oi := { dst := some 96, op := Go.Op.convert 5 3 (Go.Operand.tmp 95), type := 3, pos := "law.go:58", after := #[{ on := 9, ground := Go.Ground.data }], guard := none }) (v := .int .i64 yz) rfl (by kernel_rfl) (by kernel_rfl) (by kernel_rfl) (fun _ _ _ h => h) (Or.inl ⟨by rfl, ?hy16k2⟩) hHeld ?rest16k2
      case hy16k2 => (intro w hSw; (try dsimp only at hSw); obtain ⟨hS0, hS1⟩ := hSw; go_simp; try (first | done | exact wrap_small (by omega) (by omega) | (rw [wrap_small (by omega) (by omega)]; done)); (first | done | with_reducible rfl))
      try simp only [Act.put, List.setIfInBounds_toArray, List.set_cons_zero, List.set_cons_succ]
      refine wpAnyH_ready (rs := [5]) (by kernel_rfl) (by simp) ?_
      refine AllReadyH.cons (o := evp_17_5) rfl (fun K hK => ?_) (AllReadyH.nil)
      dsimp only [evp_17_5]
      rw [if_pos (by rfl)]
      refine load_fr rfl rfl (⟨R0, R1⟩) ?_
      clear hHeld
      have hHeld := And.intro (cB8_2) ((cB8_3))
      refine hK.out _ _ hHeld (fun _ => ?_)
      clear hK K
      try simp only [Act.put, List.setIfInBounds_toArray, List.set_cons_zero, List.set_cons_succ]
      refine wpAnyH_ready (rs := [11]) (by kernel_rfl) (by simp) ?_
      refine AllReadyH.cons (o := evp_17_11) rfl (fun K hK => ?_) (AllReadyH.nil)
      dsimp only [evp_17_11]
      go_simp
      refine (rset_F A n c A2 n2 c2 (V k) (F k) xn yz base _ FV FF (by omega) (hlen k hk)).mono ?_
      rintro e w97 ⟨A3, n3, c3, A4, n4, c4, rfl, GV, GF, x⟩
      clear FV FF
      have z17 := x.size
      replace E := E.trans x
      replace LB8 := LB8.ext x
      replace cB8_0 := cell_ext (x) cB8_0
      replace cB8_1 := cell_ext (x) cB8_1
      replace cB8_2 := cell_ext (x) cB8_2
      replace cB8_3 := cell_ext (x) cB8_3
      replace HE := HE.ext x
      replace HR := HR.ext x
      replace HM := HM.ext x
      replace LK := cell_ext (x) LK
      replace R0 := cell_ext (x) R0
      replace R1 := cell_ext (x) R1
      clear x
      clear hHeld
      have hHeld := And.intro (cB8_2) ((cB8_3))
      refine hK.out _ _ hHeld (fun _ => ?_)
      clear hK K
      try simp only [Act.put, List.setIfInBounds_toArray, List.set_cons_zero, List.set_cons_succ]
      refine wpAnyH_take (i := 12) (oi := { dst := some 85, op := Go.Op.move (Go.Operand.tmp 97), type := 34, pos := "law.go:58", after := #[{ on := 11, ground := Go.Ground.data }], guard := none }) (v := ?v18k2) rfl (by kernel_rfl) (by kernel_rfl) (by kernel_rfl) (fun _ _ _ h => h) (Or.inl ⟨by rfl, ?hy18k2⟩) hHeld ?rest18k2
      case hy18k2 => (intro w hSw; (try dsimp only at hSw); obtain ⟨hS0, hS1⟩ := hSw; go_simp; (first | done | with_reducible rfl))
      try simp only [Act.put, List.setIfInBounds_toArray, List.set_cons_zero, List.set_cons_succ]
      refine wpAnyH_take (i := 13) (oi := { dst := some 98, op := Go.Op.extract (Go.Operand.tmp 85) 0, type := 33, pos := "law.go:58", after := #[{ on := 12, ground := Go.Ground.data }], guard := none }) (v := ?v19k2) rfl (by kernel_rfl) (by kernel_rfl) (by kernel_rfl) (fun _ _ _ h => h) (Or.inl ⟨by rfl, ?hy19k2⟩) hHeld ?rest19k2
      case hy19k2 => (intro w hSw; (try dsimp only at hSw); obtain ⟨hS0, hS1⟩ := hSw; go_simp; (first | done | with_reducible rfl))
      try simp only [Act.put, List.setIfInBounds_toArray, List.set_cons_zero, List.set_cons_succ]
      refine wpAnyH_take (i := 14) (oi := { dst := some 99, op := Go.Op.extract (Go.Operand.tmp 85) 1, type := 3, pos := "law.go:58", after := #[{ on := 12, ground := Go.Ground.data }, { on := 16, ground := Go.Ground.gcOnly Go.Departure.lateStores }], guard := none }) (v := ?v20k2) rfl (by kernel_rfl) (by kernel_rfl) (by kernel_rfl) (fun _ _ _ h => h) (Or.inl ⟨by rfl, ?hy20k2⟩) hHeld ?rest20k2
      case hy20k2 => (intro w hSw; (try dsimp only at hSw); obtain ⟨hS0, hS1⟩ := hSw; go_simp; (first | done | with_reducible rfl))
      try simp only [Act.put, List.setIfInBounds_toArray, List.set_cons_zero, List.set_cons_succ]
      refine wpAnyH_take (i := 15) (oi := { dst := some 100, op := Go.Op.indexAddr 27 (Go.Operand.tmp 86) (Go.Operand.tmp 87), type := 0, pos := "law.go:58", after := #[{ on := 0, ground := Go.Ground.data }, { on := 1, ground := Go.Ground.data }, { on := 0, ground := Go.Ground.phase }, { on := 1, ground := Go.Ground.phase }, { on := 2, ground := Go.Ground.phase }, { on := 3, ground := Go.Ground.phase }, { on := 4, ground := Go.Ground.phase }, { on := 5, ground := Go.Ground.phase }, { on := 6, ground := Go.Ground.phase }, { on := 7, ground := Go.Ground.phase }, { on := 8, ground := Go.Ground.phase }, { on := 9, ground := Go.Ground.phase }, { on := 10, ground := Go.Ground.phase }, { on := 11, ground := Go.Ground.phase }, { on := 12, ground := Go.Ground.phase }, { on := 13, ground := Go.Ground.phase }, { on := 14, ground := Go.Ground.textOnly Go.Departure.lateStores }], guard := none }) (v := .pointer (some (ar.add (k * 2)))) rfl (by kernel_rfl) (by kernel_rfl) (by kernel_rfl) (fun _ _ _ h => h) (Or.inl ⟨by rfl, ?hy21k2⟩) hHeld ?rest21k2
      case hy21k2 => (intro w hSw; (try dsimp only at hSw); obtain ⟨hS0, hS1⟩ := hSw; go_simp; try (first | done | (intro hk3_; exfalso; omega) | (rw [if_pos]; omega) | (simp; omega)); (first | done | with_reducible rfl))
      try simp only [Act.put, List.setIfInBounds_toArray, List.set_cons_zero, List.set_cons_succ]
      refine wpAnyH_ready (rs := [16]) (by kernel_rfl) (by simp) ?_
      refine AllReadyH.cons (o := evp_17_16) rfl (fun K hK => ?_) (AllReadyH.nil)
      dsimp only [evp_17_16]
      rw [if_pos (by rfl)]
      refine store_fr (by rfl) hk (by rfl) (by rfl) HM HR hra GV GF ?_
      clear HM HR GV GF R0 R1
      intro wst100 G HM HR
      rw [updF_self] at HR
      have z22 := G.size
      replace E := grown_ext E G (by omega)
      replace LB8 := LB8.grown G (by omega)
      replace cB8_0 := cell_grown (G) cB8_0 (by show B8 ≠ _; omega)
      replace cB8_1 := cell_grown (G) cB8_1 (by show B8 ≠ _; omega)
      replace cB8_2 := cell_grown (G) cB8_2 (by show B8 ≠ _; omega)
      replace cB8_3 := cell_grown (G) cB8_3 (by show B8 ≠ _; omega)
      replace HE := HE.grown G ⟨hn, rfl⟩
      replace LK := cell_grown (G) LK (by rw [addr_block]; omega)
      clear G
      clear hHeld
      have hHeld := And.intro (cB8_2) ((cB8_3))
      refine hK.out _ _ hHeld (fun _ => ?_)
      clear hK K
      try simp only [Act.put]
      refine wpAnyH_take (i := 17) (oi := { dst := some 10, op := Go.Op.assign (Go.Operand.tmp 99), type := 3, pos := "law.go:58", after := #[{ on := 14, ground := Go.Ground.data }, { on := 16, ground := Go.Ground.chain }, { on := 0, ground := Go.Ground.phase }, { on := 1, ground := Go.Ground.phase }, { on := 2, ground := Go.Ground.phase }, { on := 3, ground := Go.Ground.phase }, { on := 4, ground := Go.Ground.phase }, { on := 5, ground := Go.Ground.phase }, { on := 6, ground := Go.Ground.phase }, { on := 7, ground := Go.Ground.phase }, { on := 8, ground := Go.Ground.phase }, { on := 9, ground := Go.Ground.phase }, { on := 10, ground := Go.Ground.phase }, { on := 11, ground := Go.Ground.phase }, { on := 12, ground := Go.Ground.phase }, { on := 13, ground := Go.Ground.phase }, { on := 14, ground := Go.Ground.phase }, { on := 15, ground := Go.Ground.phase }, { on := 16, ground := Go.Ground.phase }], guard := none }) (v := ?v23k2) rfl (by kernel_rfl) (by kernel_rfl) (by kernel_rfl) (fun _ _ _ h => h) (Or.inl ⟨by rfl, ?hy23k2⟩) hHeld ?rest23k2
      case hy23k2 => (intro w hSw; (try dsimp only at hSw); obtain ⟨hS0, hS1⟩ := hSw; go_simp; (first | done | with_reducible rfl))
      try simp only [Act.put, List.setIfInBounds_toArray, List.set_cons_zero, List.set_cons_succ]
      refine wpAnyH_done (by kernel_rfl) ?_ _
      go_wp2_with fail
      try simp only [Act.put, List.setIfInBounds_toArray, List.set_cons_zero, List.set_cons_succ]
      have hq24 : wst100.heap.size ≤ wst100.drew.heap.size := Nat.le_refl _
      have z25 := (Ext.refl wst100).drew.size
      replace E := E.trans (Ext.refl wst100).drew
      replace LB8 := LB8.ext (Ext.refl wst100).drew
      replace cB8_0 := cell_ext ((Ext.refl wst100).drew) cB8_0
      replace cB8_1 := cell_ext ((Ext.refl wst100).drew) cB8_1
      replace cB8_2 := cell_ext ((Ext.refl wst100).drew) cB8_2
      replace cB8_3 := cell_ext ((Ext.refl wst100).drew) cB8_3
      replace HE := HE.ext (Ext.refl wst100).drew
      replace LK := cell_ext ((Ext.refl wst100).drew) LK
      replace HR := HR.ext (Ext.refl wst100).drew
      replace HM := HM.ext (Ext.refl wst100).drew
      refine wp_region_held_drew (S := (fun w' => w'.cell? (al.add k) = some (.pointer (some ⟨B k, 0, none⟩)) ∧ w'.cell? ⟨B8, 2, none⟩ = some (.string xn) ∧ w'.cell? ⟨B8, 3, none⟩ = some (.int .u8 (yz : Nat)))) (by kernel_rfl) ⟨(LK), (cB8_2), (cB8_3)⟩ (fun hHeld => ?_)
      refine wpAnyH_take (i := 0) (oi := { dst := some 101, op := Go.Op.move (Go.Operand.tmp 5), type := 26, pos := "law.go:59", after := #[], guard := none }) (v := ?v26k2) rfl (by kernel_rfl) (by kernel_rfl) (by kernel_rfl) (fun _ _ _ h => h) (Or.inl ⟨by rfl, ?hy26k2⟩) hHeld ?rest26k2
      case hy26k2 => (intro w hSw; (try dsimp only at hSw); obtain ⟨hS0, hS1, hS2⟩ := hSw; go_simp; (first | done | with_reducible rfl))
      try simp only [Act.put, List.setIfInBounds_toArray, List.set_cons_zero, List.set_cons_succ]
      refine wpAnyH_take (i := 1) (oi := { dst := some 102, op := Go.Op.move (Go.Operand.tmp 9), type := 3, pos := "law.go:59", after := #[], guard := none }) (v := ?v27k2) rfl (by kernel_rfl) (by kernel_rfl) (by kernel_rfl) (fun _ _ _ h => h) (Or.inl ⟨by rfl, ?hy27k2⟩) hHeld ?rest27k2
      case hy27k2 => (intro w hSw; (try dsimp only at hSw); obtain ⟨hS0, hS1, hS2⟩ := hSw; go_simp; (first | done | with_reducible rfl))
      try simp only [Act.put, List.setIfInBounds_toArray, List.set_cons_zero, List.set_cons_succ]
      refine wpAnyH_take (i := 2) (oi := { dst := some 103, op := Go.Op.indexAddr 26 (Go.Operand.tmp 101) (Go.Operand.tmp 102), type := 0, pos := "law.go:59", after := #[{ on := 0, ground := Go.Ground.data }, { on := 1, ground := Go.Ground.data }], guard := none }) (v := .pointer (some (al.add k))) rfl (by kernel_rfl) (by kernel_rfl) (by kernel_rfl) (fun _ _ _ h => h) (Or.inl ⟨by rfl, ?hy28k2⟩) hHeld ?rest28k2
      case hy28k2 => (intro w hSw; (try dsimp only at hSw); obtain ⟨hS0, hS1, hS2⟩ := hSw; go_simp; try (first | done | (intro hk3_; exfalso; omega) | (rw [if_pos]; omega) | (simp; omega)); (first | done | with_reducible rfl))
      try simp only [Act.put, List.setIfInBounds_toArray, List.set_cons_zero, List.set_cons_succ]
      refine wpAnyH_take (i := 3) (oi := { dst := some 104, op := Go.Op.load 24 (Go.Operand.tmp 103), type := 24, pos := "law.go:59", after := #[{ on := 2, ground := Go.Ground.data }], guard := none }) (v := .pointer (some ⟨B k, 0, none⟩)) rfl (by kernel_rfl) (by kernel_rfl) (by kernel_rfl) (fun _ _ _ h => h) (Or.inl ⟨by rfl, ?hy29k2⟩) hHeld ?rest29k2
      case hy29k2 => (intro w hSw; (try dsimp only at hSw); obtain ⟨hS0, hS1, hS2⟩ := hSw; go_simp; try (first | done | (simp [hS0]; done) | (simp [hS1]; done) | (simp [hS2]; done) | (simp; omega) | omega); (first | done | with_reducible rfl))
      try simp only [Act.put, List.setIfInBounds_toArray, List.set_cons_zero, List.set_cons_succ]
      refine wpAnyH_take (i := 4) (oi := { dst := some 105, op := Go.Op.fieldAddr 29 (Go.Operand.tmp 8) 2, type := 0, pos := "law.go:59", after := #[], guard := none }) (v := ?v30k2) rfl (by kernel_rfl) (by kernel_rfl) (by kernel_rfl) (fun _ _ _ h => h) (Or.inl ⟨by rfl, ?hy30k2⟩) hHeld ?rest30k2
      case hy30k2 => (intro w hSw; (try dsimp only at hSw); obtain ⟨hS0, hS1, hS2⟩ := hSw; go_simp; (first | done | with_reducible rfl))
      try simp only [Act.put, List.setIfInBounds_toArray, List.set_cons_zero, List.set_cons_succ]
      refine wpAnyH_take (i := 5) (oi := { dst := some 106, op := Go.Op.load 9 (Go.Operand.tmp 105), type := 9, pos := "law.go:59", after := #[{ on := 4, ground := Go.Ground.data }], guard := none }) (v := .string xn) rfl (by kernel_rfl) (by kernel_rfl) (by kernel_rfl) (fun _ _ _ h => h) (Or.inl ⟨by rfl, ?hy31k2⟩) hHeld ?rest31k2
      case hy31k2 => (intro w hSw; (try dsimp only at hSw); obtain ⟨hS0, hS1, hS2⟩ := hSw; go_simp; try (first | done | (simp [hS0]; done) | (simp [hS1]; done) | (simp [hS2]; done) | (simp; omega) | omega); (first | done | with_reducible rfl))
      try simp only [Act.put, List.setIfInBounds_toArray, List.set_cons_zero, List.set_cons_succ]
      refine wpAnyH_take (i := 6) (oi := { dst := some 107, op := Go.Op.fieldAddr 29 (Go.Operand.tmp 8) 3, type := 0, pos := "law.go:59", after := #[], guard := none }) (v := ?v32k2) rfl (by kernel_rfl) (by kernel_rfl) (by kernel_rfl) (fun _ _ _ h => h) (Or.inl ⟨by rfl, ?hy32k2⟩) hHeld ?rest32k2
      case hy32k2 => (intro w hSw; (try dsimp only at hSw); obtain ⟨hS0, hS1, hS2⟩ := hSw; go_simp; (first | done | with_reducible rfl))
      try simp only [Act.put, List.setIfInBounds_toArray, List.set_cons_zero, List.set_cons_succ]
      refine wpAnyH_take (i := 7) (oi := { dst := some 108, op := Go.Op.load 5 (Go.Operand.tmp 107), type := 5, pos := "law.go:59", after := #[{ on := 6, ground := Go.Ground.data }], guard := none }) (v := .int .u8 yz) rfl (by kernel_rfl) (by kernel_rfl) (by kernel_rfl) (fun _ _ _ h => h) (Or.inl ⟨by rfl, ?hy33k2⟩) hHeld ?rest33k2
      case hy33k2 => (intro w hSw; (try dsimp only at hSw); obtain ⟨hS0, hS1, hS2⟩ := hSw; go_simp; try (first | done | (simp [hS0]; done) | (simp [hS1]; done) | (simp [hS2]; done) | (simp; omega) | omega); (first | done | with_reducible rfl))
      try simp only [Act.put, List.setIfInBounds_toArray, List.set_cons_zero, List.set_cons_succ]
      refine wpAnyH_take (i := 8) (oi := { dst := some 109, op := Go.Op.convert 5 21 (Go.Operand.tmp 108), type := 21, pos := "law.go:59", after := #[{ on := 7, ground := Go.Ground.data }], guard := none }) (v := .int .i32 yz) rfl (by kernel_rfl) (by kernel_rfl) (by kernel_rfl) (fun _ _ _ h => h) (Or.inl ⟨by rfl, ?hy34k2⟩) hHeld ?rest34k2
      case hy34k2 => (intro w hSw; (try dsimp only at hSw); obtain ⟨hS0, hS1, hS2⟩ := hSw; go_simp; try (first | done | exact i32_small (by omega) (by omega) | (rw [i32_small (by omega) (by omega)]; done)); (first | done | with_reducible rfl))
      try simp only [Act.put, List.setIfInBounds_toArray, List.set_cons_zero, List.set_cons_succ]
      refine wpAnyH_take (i := 9) (oi := { dst := some 110, op := Go.Op.build 54 #[(0, Go.Operand.const (Go.Value.int Go.IntKind.i64 13)), (5, Go.Operand.tmp 109)], type := 54, pos := "law.go:59", after := #[{ on := 8, ground := Go.Ground.data }], guard := none }) (v := ?v35k2) rfl (by kernel_rfl) (by kernel_rfl) (by kernel_rfl) (fun _ _ _ h => h) (Or.inl ⟨by rfl, ?hy35k2⟩) hHeld ?rest35k2
      case hy35k2 => (intro w hSw; (try dsimp only at hSw); obtain ⟨hS0, hS1, hS2⟩ := hSw; go_simp; (first | done | with_reducible rfl))
      try simp only [Act.put, List.setIfInBounds_toArray, List.set_cons_zero, List.set_cons_succ]
      refine wpAnyH_ready (rs := [10]) (by kernel_rfl) (by simp) ?_
      refine AllReadyH.cons (o := evp_18_10) rfl (fun K hK => ?_) (AllReadyH.nil)
      dsimp only [evp_18_10]
      go_simp
      refine (ebind E hn HE hk (by omega) (hlen k hk) ok3 (z := yz) ⟨by omega, by omega⟩).mono ?_
      rintro e w111 ⟨rfl, hg0, DF2, HE2⟩
      have hg := hg0.out
      clear hg0 HE
      have HE := HE2
      clear HE2
      have z36 := hg.size
      replace E := grown_ext E hg (by omega)
      replace LB8 := LB8.grown hg (by omega)
      replace cB8_0 := cell_grown (hg) cB8_0 (by show B8 ≠ _; omega)
      replace cB8_1 := cell_grown (hg) cB8_1 (by show B8 ≠ _; omega)
      replace cB8_2 := cell_grown (hg) cB8_2 (by show B8 ≠ _; omega)
      replace cB8_3 := cell_grown (hg) cB8_3 (by show B8 ≠ _; omega)
      replace LK := cell_grown (hg) LK (by rw [addr_block]; omega)
      replace HR := HR.grown hg (by omega) (fun i => by rw [addr_block]; omega)
      replace HM := HM.grown hg (by omega)
      clear hg
      clear hHeld
      have hHeld := And.intro (LK) (And.intro (cB8_2) ((cB8_3)))
      refine hK.out _ _ hHeld (fun _ => ?_)
      clear hK K
      try simp only [Act.put, List.setIfInBounds_toArray, List.set_cons_zero, List.set_cons_succ]
      refine wpAnyH_take (i := 11) (oi := { dst := some 11, op := Go.Op.assign (Go.Operand.tmp 111), type := 30, pos := "law.go:59", after := #[{ on := 10, ground := Go.Ground.data }, { on := 10, ground := Go.Ground.chain }, { on := 0, ground := Go.Ground.phase }, { on := 1, ground := Go.Ground.phase }, { on := 2, ground := Go.Ground.phase }, { on := 3, ground := Go.Ground.phase }, { on := 4, ground := Go.Ground.phase }, { on := 5, ground := Go.Ground.phase }, { on := 6, ground := Go.Ground.phase }, { on := 7, ground := Go.Ground.phase }, { on := 8, ground := Go.Ground.phase }, { on := 9, ground := Go.Ground.phase }, { on := 10, ground := Go.Ground.phase }], guard := none }) (v := ?v37k2) rfl (by kernel_rfl) (by kernel_rfl) (by kernel_rfl) (fun _ _ _ h => h) (Or.inl ⟨by rfl, ?hy37k2⟩) hHeld ?rest37k2
      case hy37k2 => (intro w hSw; (try dsimp only at hSw); obtain ⟨hS0, hS1, hS2⟩ := hSw; go_simp; (first | done | with_reducible rfl))
      try simp only [Act.put, List.setIfInBounds_toArray, List.set_cons_zero, List.set_cons_succ]
      refine wpAnyH_done (by kernel_rfl) ?_ _
      go_wp2_with fail
      replace hlen := (upd_len hlen hk xn yz).2
      refine (agrees_any _ base B bm bf al ar V (updF F k (upL (F k) (V k) xn yz)) (j + 1) DV DF2 cl k hk xn ok3 (HE.es HR hlen)).mono ?_
      rintro e w121 ⟨rfl, x⟩
      have z38 := x.size
      replace E := E.trans x
      replace LB8 := LB8.ext x
      replace cB8_0 := cell_ext (x) cB8_0
      replace cB8_1 := cell_ext (x) cB8_1
      replace cB8_2 := cell_ext (x) cB8_2
      replace cB8_3 := cell_ext (x) cB8_3
      replace LK := cell_ext (x) LK
      replace HR := HR.ext x
      replace HM := HM.ext x
      replace HE := HE.ext x
      clear x
      go_wp2_with fail
      exact ⟨⟨j + 1, V, (updF F k (upL (F k) (V k) xn yz)), DV, DF2, by omega, by omega, by go_num, HE, HR, HM, hlen, by omega, E⟩, by simp [intOf]; omega⟩
    · obtain ⟨hl0, hl1⟩ := hlt
      obtain ⟨a, ea, hA⟩ := act_at rfl (H0.ext E) hl0
      subst ea
      have hok := W0 _ (show l0.getD j default ∈ l0 by simp [List.getD, hl0])
      generalize l0.getD j default = x at hA hok hq hk0 hk1
      obtain ⟨xk, xf, xn, xz⟩ := x
      obtain ⟨-, ok2, ok3, ok4⟩ := hok
      dsimp only at ok2 ok3 ok4 hq hk0 hk1
      obtain ⟨yf, rfl, hyf⟩ := wf_u8 ok2
      obtain ⟨yz, rfl, hyz⟩ := wf_u8 ok4
      clear ok2 ok4 W0 H0 H1 W1
      have EX := Ext.refl wr
      obtain ⟨k, hk3, hk⟩ : ∃ k : Nat, (yf : Int) % 3 = k ∧ k < 3 := ⟨yf % 3, by omega, by omega⟩
      have TA44 : True := trivial
      have TB8 : True := trivial
      have TG3 : True := trivial
      go_wp2_with (first | (clear TA44; refine loads_act rfl rfl rfl (hA) ?_) | (clear TB8; refine allocsT rfl rfl ?_; intro B8 w8 bB8 cB8 XB8 LB8 RB8; have z2 := XB8.size; replace E := E.trans XB8; replace EX := EX.trans XB8; have cB8_0 := lay_cell LB8 (j := 0) rfl; have cB8_1 := lay_cell LB8 (j := 1) rfl; have cB8_2 := lay_cell LB8 (j := 2) rfl; have cB8_3 := lay_cell LB8 (j := 3) rfl) | (clear TG3; have hRl := (RB8).lt (Nat.zero_lt_succ _); refine storesT (B := B8) rfl rfl rfl (v := (.agg #[.int .i64 xk, .int .u8 yf, .string xn, .int .u8 yz])) rfl RB8 (act_flat _ _ _ _) ?_; clear LB8; clear cB8_0; clear cB8_1; clear cB8_2; clear cB8_3; intro s3 G3 LB8 RQ; have z4 := G3.size; replace E := grown_ext E G3 (by omega); replace EX := grown_ext EX G3 (by omega); clear RB8; have RB8 := RQ; clear RQ hRl; have cB8_0 := lay_cell LB8 (j := 0) rfl; have cB8_1 := lay_cell LB8 (j := 1) rfl; have cB8_2 := lay_cell LB8 (j := 2) rfl; have cB8_3 := lay_cell LB8 (j := 3) rfl; clear RB8))
      obtain ⟨hb1, hb2, hb3, hb4, hb5, hb6, hb7, hb8⟩ := (hn.at hk).1
      replace HE := HE.ext EX
      replace HR := HR.ext EX
      replace HM := HM.ext EX
      clear EX
      replace HE := HE.more (Nat.le_succ j)
      go_wp2_with fail
      refine (agrees_any _ base B bm bf al ar V F (j + 1) DV DF cl k hk xn ok3 (HE.es HR hlen)).mono ?_
      rintro e w121 ⟨rfl, x⟩
      have z5 := x.size
      replace E := E.trans x
      replace LB8 := LB8.ext x
      replace cB8_0 := cell_ext (x) cB8_0
      replace cB8_1 := cell_ext (x) cB8_1
      replace cB8_2 := cell_ext (x) cB8_2
      replace cB8_3 := cell_ext (x) cB8_3
      replace HE := HE.ext x
      replace HR := HR.ext x
      replace HM := HM.ext x
      clear x
      go_wp2_with fail
      exact ⟨⟨j + 1, V, F, DV, DF, by omega, by omega, by go_num, HE, HR, HM, hlen, by omega, E⟩, by simp [intOf]; omega⟩
    · have HS := HE.es HR hlen
      clear HE HR HM hlen W0 H0
      have D2 : wr.cell? ⟨B 2, 3, none⟩ = some (.int .i64 2) := HS.c3 2 (by omega)
      have D0 : wr.cell? ⟨B 0, 3, none⟩ = some (.int .i64 0) := HS.c3 0 (by omega)
      have P2 : wr.cell? ⟨al.block, al.off + 2, none⟩ = some (.pointer (some ⟨B 2, 0, none⟩)) := HS.l 2 (by omega)
      have P0 : wr.cell? al = some (.pointer (some ⟨B 0, 0, none⟩)) := by rw [← addr_add0 al]; exact HS.l 0 (by omega)
      have P00 : wr.cell? (al.add 0) = some (.pointer (some ⟨B 0, 0, none⟩)) := HS.l 0 (by omega)
      rcases (show l0.length ≤ j ∨ (j < l0.length ∧ 150 ≤ j) by omega) with hex | ⟨hex, hex2⟩
      all_goals
        go_wp2_with fail
        generalize wr = wq2 at *
        go_loopw [12] (fun i wr => ∃ q : Nat, q ≤ l1.length ∧ q ≤ 20 ∧ i = .int .i64 q ∧ Ext wq2 wr) (fun i _ => 20 - (intOf i).toNat)
        case atStart => exact ⟨0, Nat.zero_le _, by omega, rfl, Ext.refl _⟩
        case round =>
          obtain ⟨q, hq1, hq2, rfl, HX⟩ := hrel
          have z3 := HX.size
          replace E := E.trans HX
          replace HS := HS.ext HX
          replace D2 := cell_ext (HX) D2
          replace D0 := cell_ext (HX) D0
          replace P2 := cell_ext (HX) P2
          replace P0 := cell_ext (HX) P0
          replace P00 := cell_ext (HX) P00
          by_cases hlt2 : q < l1.length ∧ q < 20
          · obtain ⟨hlq, hlq2⟩ := hlt2
            have hdq : decide ((q : Int) < 20) = true := decide_eq_true (by omega)
            obtain ⟨a, ea, CS, hmem⟩ := str_at (H1.ext E) rfl hlq
            subst ea
            have hS1 := W1 _ hmem
            clear H1 W1 hmem
            generalize l1.getD q ByteArray.empty = xs at CS hS1
            go_wp2_with fail
            generalize wr = wq4 at *
            go_loopw [13] (fun i wr => ∃ k : Nat, k ≤ 3 ∧ i = .int .i64 k ∧ Ext wq4 wr) (fun i _ => 3 - (intOf i).toNat)
            case atStart => exact ⟨0, by omega, rfl, Ext.refl _⟩
            case round =>
              obtain ⟨k, hk, rfl, HX2⟩ := hrel
              have z5 := HX2.size
              replace E := E.trans HX2
              replace HS := HS.ext HX2
              replace D2 := cell_ext (HX2) D2
              replace D0 := cell_ext (HX2) D0
              replace P2 := cell_ext (HX2) P2
              replace P0 := cell_ext (HX2) P0
              replace P00 := cell_ext (HX2) P00
              replace HX := HX.trans HX2
              replace CS := cell_ext (HX2) CS
              by_cases hk3 : k < 3
              · clear P2 P0 P00 D2 D0
                go_wp2_with fail
                refine (agrees_any _ base B bm bf al ar V F j DV DF cl k hk3 xs hS1 HS).mono ?_
                rintro e w145 ⟨rfl, x⟩
                have z6 := x.size
                replace E := E.trans x
                replace HS := HS.ext x
                replace HX := HX.trans x
                replace CS := cell_ext (x) CS
                replace HX2 := HX2.trans x
                clear x
                go_wp2_with fail
                exact ⟨⟨k + 1, by omega, by go_num, HX2⟩, by simp [intOf]; omega⟩
              · clear HX2
                go_wp2_with fail
                exact ⟨⟨q + 1, by omega, by omega, by go_num, HX⟩, by simp [intOf]; omega⟩
          · clear HX
            rcases (show l1.length ≤ q ∨ (q < l1.length ∧ 20 ≤ q) by omega) with hey | ⟨hey, hey2⟩
            all_goals
              go_wp2_with fail
              refine (deep_any _ (B 2) _ D2).mono ?_
              rintro e w150 ⟨rfl, x⟩
              have z7 := x.size
              replace E := E.trans x
              replace HS := HS.ext x
              replace D2 := cell_ext (x) D2
              replace D0 := cell_ext (x) D0
              replace P2 := cell_ext (x) P2
              replace P0 := cell_ext (x) P0
              replace P00 := cell_ext (x) P00
              clear x
              go_wp2_with fail
              refine (deep_any _ (B 0) _ D0).mono ?_
              rintro e w156 ⟨rfl, x⟩
              have z8 := x.size
              replace E := E.trans x
              replace HS := HS.ext x
              replace D2 := cell_ext (x) D2
              replace D0 := cell_ext (x) D0
              replace P2 := cell_ext (x) P2
              replace P0 := cell_ext (x) P0
              replace P00 := cell_ext (x) P00
              clear x
              go_wp2_with fail
              refine (eawake_any _).mono ?_
              rintro e w160 ⟨rfl, x⟩
              have z9 := x.size
              replace E := E.trans x
              replace HS := HS.ext x
              replace D2 := cell_ext (x) D2
              replace D0 := cell_ext (x) D0
              replace P2 := cell_ext (x) P2
              replace P0 := cell_ext (x) P0
              replace P00 := cell_ext (x) P00
              clear x
              go_wp2_with fail
              go_ret
              exact ⟨rfl, E⟩
    
end Go.Proofs.Ytdkgiklbmbkdaaa
