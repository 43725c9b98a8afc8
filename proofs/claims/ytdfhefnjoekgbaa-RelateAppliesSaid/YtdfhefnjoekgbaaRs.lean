/- RelateApplies. -/
import Derived.Test.YtdfhefnjoekgbaaRq
namespace Go.Proofs.Ytdfhefnjoekgbaa
open Go.ChangeShapes Go.WideShapes Go.RowKit Bv Fl
set_option maxHeartbeats 2000000
set_option maxRecDepth 100000
theorem SlS.mono {w : World} {s n : Nat} {A : Option Addr} {xs : List Value} {S S' : Nat → Prop} (h : SlS w s A n xs S) (hS : ∀ i, i < w.heap.size → S i → S' i) : SlS w s A n xs S' := fun w2 hs hk => h w2 hs fun i hi hs => hk i hi (hS i hi hs)
theorem SlS.now {w : World} {s n : Nat} {A : Option Addr} {xs : List Value} {S : Nat → Prop} (h : SlS w s A n xs S) : SlS w s A n xs (fun i => S i ∧ i < w.heap.size) := h.mono fun _ hi h => ⟨h, hi⟩
theorem joinK4 {A0 A1 A2 A3 : Type} {F KA : World → A0 → A1 → A2 → A3 → Prop} {G : Prop} (h : (∀ w a0 a1 a2 a3, F w a0 a1 a2 a3 → KA w a0 a1 a2 a3) → G) (t : ∀ w a0 a1 a2 a3, F w a0 a1 a2 a3 → KA w a0 a1 a2 a3) : G := h t
theorem joinK5 {A0 A1 A2 A3 A4 : Type} {F KA : World → A0 → A1 → A2 → A3 → A4 → Prop} {G : Prop} (h : (∀ w a0 a1 a2 a3 a4, F w a0 a1 a2 a3 a4 → KA w a0 a1 a2 a3 a4) → G) (t : ∀ w a0 a1 a2 a3 a4, F w a0 a1 a2 a3 a4 → KA w a0 a1 a2 a3 a4) : G := h t
theorem joinK7 {A0 A1 A2 A3 A4 A5 A6 : Type} {F KA : World → A0 → A1 → A2 → A3 → A4 → A5 → A6 → Prop} {G : Prop} (h : (∀ w a0 a1 a2 a3 a4 a5 a6, F w a0 a1 a2 a3 a4 a5 a6 → KA w a0 a1 a2 a3 a4 a5 a6) → G) (t : ∀ w a0 a1 a2 a3 a4 a5 a6, F w a0 a1 a2 a3 a4 a5 a6 → KA w a0 a1 a2 a3 a4 a5 a6) : G := h t
theorem joinK8 {A0 A1 A2 A3 A4 A5 A6 A7 : Type} {F KA : World → A0 → A1 → A2 → A3 → A4 → A5 → A6 → A7 → Prop} {G : Prop} (h : (∀ w a0 a1 a2 a3 a4 a5 a6 a7, F w a0 a1 a2 a3 a4 a5 a6 a7 → KA w a0 a1 a2 a3 a4 a5 a6 a7) → G) (t : ∀ w a0 a1 a2 a3 a4 a5 a6 a7, F w a0 a1 a2 a3 a4 a5 a6 a7 → KA w a0 a1 a2 a3 a4 a5 a6 a7) : G := h t
theorem joinK10 {A0 A1 A2 A3 A4 A5 A6 A7 A8 A9 : Type} {F KA : World → A0 → A1 → A2 → A3 → A4 → A5 → A6 → A7 → A8 → A9 → Prop} {G : Prop} (h : (∀ w a0 a1 a2 a3 a4 a5 a6 a7 a8 a9, F w a0 a1 a2 a3 a4 a5 a6 a7 a8 a9 → KA w a0 a1 a2 a3 a4 a5 a6 a7 a8 a9) → G) (t : ∀ w a0 a1 a2 a3 a4 a5 a6 a7 a8 a9, F w a0 a1 a2 a3 a4 a5 a6 a7 a8 a9 → KA w a0 a1 a2 a3 a4 a5 a6 a7 a8 a9) : G := h t
theorem joinK19 {A0 A1 A2 A3 A4 A5 A6 A7 A8 A9 A10 A11 A12 A13 A14 A15 A16 A17 A18 : Type} {F KA : World → A0 → A1 → A2 → A3 → A4 → A5 → A6 → A7 → A8 → A9 → A10 → A11 → A12 → A13 → A14 → A15 → A16 → A17 → A18 → Prop} {G : Prop} (h : (∀ w a0 a1 a2 a3 a4 a5 a6 a7 a8 a9 a10 a11 a12 a13 a14 a15 a16 a17 a18, F w a0 a1 a2 a3 a4 a5 a6 a7 a8 a9 a10 a11 a12 a13 a14 a15 a16 a17 a18 → KA w a0 a1 a2 a3 a4 a5 a6 a7 a8 a9 a10 a11 a12 a13 a14 a15 a16 a17 a18) → G) (t : ∀ w a0 a1 a2 a3 a4 a5 a6 a7 a8 a9 a10 a11 a12 a13 a14 a15 a16 a17 a18, F w a0 a1 a2 a3 a4 a5 a6 a7 a8 a9 a10 a11 a12 a13 a14 a15 a16 a17 a18 → KA w a0 a1 a2 a3 a4 a5 a6 a7 a8 a9 a10 a11 a12 a13 a14 a15 a16 a17 a18) : G := h t
theorem joinK20 {A0 A1 A2 A3 A4 A5 A6 A7 A8 A9 A10 A11 A12 A13 A14 A15 A16 A17 A18 A19 : Type} {F KA : World → A0 → A1 → A2 → A3 → A4 → A5 → A6 → A7 → A8 → A9 → A10 → A11 → A12 → A13 → A14 → A15 → A16 → A17 → A18 → A19 → Prop} {G : Prop} (h : (∀ w a0 a1 a2 a3 a4 a5 a6 a7 a8 a9 a10 a11 a12 a13 a14 a15 a16 a17 a18 a19, F w a0 a1 a2 a3 a4 a5 a6 a7 a8 a9 a10 a11 a12 a13 a14 a15 a16 a17 a18 a19 → KA w a0 a1 a2 a3 a4 a5 a6 a7 a8 a9 a10 a11 a12 a13 a14 a15 a16 a17 a18 a19) → G) (t : ∀ w a0 a1 a2 a3 a4 a5 a6 a7 a8 a9 a10 a11 a12 a13 a14 a15 a16 a17 a18 a19, F w a0 a1 a2 a3 a4 a5 a6 a7 a8 a9 a10 a11 a12 a13 a14 a15 a16 a17 a18 a19 → KA w a0 a1 a2 a3 a4 a5 a6 a7 a8 a9 a10 a11 a12 a13 a14 a15 a16 a17 a18 a19) : G := h t
abbrev rapl_3_1 : Go.Oper := { dst := some 25, op := Go.Op.call { callee := Go.Callee.value (Go.Operand.func 51), args := #[Go.Operand.tmp 24], argTypes := #[89] }, type := 89, pos := "law.go:56", after := #[{ on := 0, ground := Go.Ground.data }], guard := none }
abbrev rapl_3_3 : Go.Oper := { dst := some 27, op := Go.Op.call { callee := Go.Callee.value (Go.Operand.func 51), args := #[Go.Operand.tmp 26], argTypes := #[89] }, type := 89, pos := "law.go:56", after := #[{ on := 2, ground := Go.Ground.data }, { on := 1, ground := Go.Ground.chain }], guard := none }
abbrev rapl_3_4 : Go.Oper := { dst := some 7, op := Go.Op.alloc 89, type := 0, pos := "law.go:56", after := #[], guard := none }
abbrev rapl_3_5 : Go.Oper := { dst := some 8, op := Go.Op.alloc 89, type := 0, pos := "law.go:56", after := #[], guard := none }
abbrev rapl_3_6 : Go.Oper := { dst := none, op := Go.Op.store 89 (Go.Operand.tmp 7) (Go.Operand.tmp 25), type := 0, pos := "law.go:56", after := #[{ on := 4, ground := Go.Ground.data }, { on := 1, ground := Go.Ground.data }, { on := 3, ground := Go.Ground.chain }, { on := 0, ground := Go.Ground.phase }, { on := 1, ground := Go.Ground.phase }, { on := 2, ground := Go.Ground.textOnly Go.Departure.lateStores }, { on := 3, ground := Go.Ground.textOnly Go.Departure.lateStoresUnsure }, { on := 4, ground := Go.Ground.phase }, { on := 5, ground := Go.Ground.phase }], guard := none }
abbrev rapl_3_7 : Go.Oper := { dst := none, op := Go.Op.store 89 (Go.Operand.tmp 8) (Go.Operand.tmp 27), type := 0, pos := "law.go:56", after := #[{ on := 5, ground := Go.Ground.data }, { on := 3, ground := Go.Ground.data }, { on := 6, ground := Go.Ground.chain }, { on := 0, ground := Go.Ground.phase }, { on := 1, ground := Go.Ground.phase }, { on := 2, ground := Go.Ground.phase }, { on := 3, ground := Go.Ground.phase }, { on := 4, ground := Go.Ground.phase }, { on := 5, ground := Go.Ground.phase }, { on := 6, ground := Go.Ground.phase }], guard := none }
abbrev rapl_4_11 : Go.Oper := { dst := some 9, op := Go.Op.alloc 34, type := 0, pos := "law.go:57", after := #[], guard := none }
abbrev rapl_4_12 : Go.Oper := { dst := none, op := Go.Op.store 34 (Go.Operand.tmp 9) (Go.Operand.tmp 37), type := 0, pos := "law.go:57", after := #[{ on := 11, ground := Go.Ground.data }, { on := 9, ground := Go.Ground.data }, { on := 7, ground := Go.Ground.chain }, { on := 0, ground := Go.Ground.phase }, { on := 1, ground := Go.Ground.phase }, { on := 2, ground := Go.Ground.phase }, { on := 3, ground := Go.Ground.phase }, { on := 4, ground := Go.Ground.phase }, { on := 5, ground := Go.Ground.phase }, { on := 6, ground := Go.Ground.phase }, { on := 7, ground := Go.Ground.phase }, { on := 8, ground := Go.Ground.phase }, { on := 9, ground := Go.Ground.phase }, { on := 10, ground := Go.Ground.textOnly Go.Departure.lateStores }, { on := 11, ground := Go.Ground.phase }], guard := none }
abbrev rapl_4_2 : Go.Oper := { dst := some 31, op := Go.Op.call { callee := Go.Callee.value (Go.Operand.func 52), args := #[Go.Operand.tmp 30], argTypes := #[89] }, type := 52, pos := "law.go:57", after := #[{ on := 1, ground := Go.Ground.data }], guard := none }
abbrev rapl_4_5 : Go.Oper := { dst := some 34, op := Go.Op.call { callee := Go.Callee.value (Go.Operand.func 52), args := #[Go.Operand.tmp 33], argTypes := #[89] }, type := 52, pos := "law.go:57", after := #[{ on := 4, ground := Go.Ground.data }, { on := 2, ground := Go.Ground.chain }], guard := none }
abbrev rapl_4_7 : Go.Oper := { dst := some 36, op := Go.Op.call { callee := Go.Callee.value (Go.Operand.func 49), args := #[Go.Operand.tmp 29, Go.Operand.tmp 32, Go.Operand.tmp 35], argTypes := #[3, 34, 34] }, type := 60, pos := "law.go:57", after := #[{ on := 0, ground := Go.Ground.data }, { on := 3, ground := Go.Ground.data }, { on := 6, ground := Go.Ground.data }, { on := 5, ground := Go.Ground.chain }], guard := none }
def GoodR (zc : Int) (w : World) (e : Ending) (w' : World) : Prop := ∃ g, e = .returned (.bool g) ∧ (g = true → zc = 0) ∧ Ext w w'
theorem rgood_any (sA : Option Addr) (ns sc : Nat) (iA : Option Addr) (m ic : Nat) (fl zc : Int) (w : World)
    (cn : ∀ w', Ext w w' → Calls Try.prog 82 #[(.agg #[.slice sA ns sc, .slice iA m ic, .int .i64 fl]), .int .i64 3000] w' fun e w2 => ∃ z, e = .returned (.int .i64 z) ∧ Ext w' w2)
    (ck : ∀ w', Ext w w' → Calls Try.prog 83 #[(.agg #[.slice sA ns sc, .slice iA m ic, .int .i64 fl])] w' fun e w2 => e = .returned (.int .i64 zc) ∧ Ext w' w2) :
    Calls Try.prog 50 #[(.agg #[.slice sA ns sc, .slice iA m ic, .int .i64 fl])] w (GoodR zc w) := by
  have hF := pl_flat sA ns sc iA m ic fl
  have E := Ext.refl w
  have no : ∀ {P : Prop}, (false = true → P) := fun h => by cases h
  go_enter Try.func50, Try.ntmps50
  have TB1 : True := trivial
  go_wp2_with (first | (clear TB1; refine boxsP (v := (.agg #[.slice sA ns sc, .slice iA m ic, .int .i64 fl])) rfl rfl rfl hF ?_; intro B1 w1 bB1 cB1 XB1 LB1 RB1; have z1 := XB1.size; replace E := E.trans XB1) | (refine loadsP (B := B1) (by rfl) rfl rfl LB1 ?_))
  refine (cn _ E).mono ?_
  rintro e w4 ⟨z, rfl, x⟩
  have hz : decide (z ≤ 2000) = false ∨ decide (z ≤ 2000) = true := by cases decide (z ≤ 2000) <;> simp
  rcases hz with hz | hz
  · have z2 := x.size
    replace E := E.trans x
    replace LB1 := LB1.ext x
    replace RB1 := RB1.ext x
    clear x
    go_wp2_with fail
    go_ret
    exact ⟨_, rfl, no, E⟩
  · have z2 := x.size
    replace E := E.trans x
    replace LB1 := LB1.ext x
    replace RB1 := RB1.ext x
    clear x
    go_wp2_with (refine loadgP (B := B1) (by rfl) rfl rfl LB1 ?_)
    refine (ck _ E).mono ?_
    rintro e w8 ⟨rfl, x⟩
    have z3 := x.size
    replace E := E.trans x
    replace LB1 := LB1.ext x
    replace RB1 := RB1.ext x
    clear x
    go_wp2_with fail
    go_ret
    exact ⟨_, rfl, fun h => by simpa using h, E⟩
theorem rappl_out (sA : Option Addr) (ns sc : Nat) (iA : Option Addr) (m ic : Nat) (fl : Int) (tA : Option Addr) (nt tc : Nat) (jA : Option Addr) (r jc : Nat) (fq : Int) (f : Int) (w : World) (P1 : Prop) (rg1 : ∀ w', Ext w w' → Calls Try.prog 50 #[(.agg #[.slice sA ns sc, .slice iA m ic, .int .i64 fl])] w' fun e w2 => ∃ g, e = .returned (.bool g) ∧ (g = true → P1) ∧ Ext w' w2) (P2 : Prop) (rg2 : ∀ w', Ext w w' → Calls Try.prog 50 #[(.agg #[.slice tA nt tc, .slice jA r jc, .int .i64 fq])] w' fun e w2 => ∃ g, e = .returned (.bool g) ∧ (g = true → P2) ∧ Ext w' w2) (hP : P1 → P2 → False) : Calls Try.prog 12 #[.int .i64 f, (.agg #[.slice sA ns sc, .slice iA m ic, .int .i64 fl]), (.agg #[.slice tA nt tc, .slice jA r jc, .int .i64 fq])] w fun e w' => e = .returned (.bool true) ∧ Ext w w' := by
  have hF := pl_flat sA ns sc iA m ic fl
  have hG := pl_flat tA nt tc jA r jc fq
  have E := Ext.refl w
  go_enter Try.func12, Try.ntmps12
  have TB4 : True := trivial
  have TB5 : True := trivial
  go_wp2_with (first | (clear TB4; refine boxsP (v := (.agg #[.slice sA ns sc, .slice iA m ic, .int .i64 fl])) rfl rfl rfl hF ?_; intro B4 w4 bB4 cB4 XB4 LB4 RB4; have z1 := XB4.size; replace E := E.trans XB4) | (clear TB5; refine boxsP (v := (.agg #[.slice tA nt tc, .slice jA r jc, .int .i64 fq])) rfl rfl rfl hG ?_; intro B5 w5 bB5 cB5 XB5 LB5 RB5; have z2 := XB5.size; replace E := E.trans XB5; replace LB4 := LB4.ext XB5; replace RB4 := RB4.ext XB5) | (refine loadsP (B := B4) (by rfl) rfl rfl LB4 ?_))
  refine (rg1 _ E).mono ?_
  rintro e w16 ⟨g1, rfl, hp1, x⟩
  cases g1
  · have z3 := x.size
    replace E := E.trans x
    replace LB4 := LB4.ext x
    replace RB4 := RB4.ext x
    replace LB5 := LB5.ext x
    replace RB5 := RB5.ext x
    clear x
    go_wp2_with fail
    refine (rawake_any _).mono ?_
    rintro e w23 ⟨rfl, x⟩
    have z4 := x.size
    replace E := E.trans x
    replace LB4 := LB4.ext x
    replace RB4 := RB4.ext x
    replace LB5 := LB5.ext x
    replace RB5 := RB5.ext x
    clear x
    go_wp2_with fail
    go_ret
    exact ⟨rfl, E⟩
  · have z3 := x.size
    replace E := E.trans x
    replace LB4 := LB4.ext x
    replace RB4 := RB4.ext x
    replace LB5 := LB5.ext x
    replace RB5 := RB5.ext x
    clear x
    go_wp2_with (refine loadgP (B := B5) (by rfl) rfl rfl LB5 ?_)
    refine (rg2 _ E).mono ?_
    rintro e w20 ⟨g2, rfl, hp2, x⟩
    cases g2
    · have z4 := x.size
      replace E := E.trans x
      replace LB4 := LB4.ext x
      replace RB4 := RB4.ext x
      replace LB5 := LB5.ext x
      replace RB5 := RB5.ext x
      clear x
      go_wp2_with fail
      refine (rawake_any _).mono ?_
      rintro e w23 ⟨rfl, x⟩
      have z5 := x.size
      replace E := E.trans x
      replace LB4 := LB4.ext x
      replace RB4 := RB4.ext x
      replace LB5 := LB5.ext x
      replace RB5 := RB5.ext x
      clear x
      go_wp2_with fail
      go_ret
      exact ⟨rfl, E⟩
    · exact (hP (hp1 (by trivial)) (hp2 (by trivial))).elim
theorem rappl_main (sA : Option Addr) (ns sc : Nat) (iA : Option Addr) (m ic : Nat) (fl : Int) (tA : Option Addr) (nt tc : Nat) (jA : Option Addr) (r jc : Nat) (fq : Int) (f : Int) (w : World) (P1 : Prop) (rg1 : ∀ w', Ext w w' → Calls Try.prog 50 #[(.agg #[.slice sA ns sc, .slice iA m ic, .int .i64 fl])] w' fun e w2 => ∃ g, e = .returned (.bool g) ∧ (g = true → P1) ∧ Ext w' w2) (P2 : Prop) (rg2 : ∀ w', Ext w w' → Calls Try.prog 50 #[(.agg #[.slice tA nt tc, .slice jA r jc, .int .i64 fq])] w' fun e w2 => ∃ g, e = .returned (.bool g) ∧ (g = true → P2) ∧ Ext w' w2) (PX PY : List It → Prop) (PP QQ : Value → World → Prop)
    (ct : ∀ w', Ext w w' → Calls Try.prog 51 #[(.agg #[.slice sA ns sc, .slice iA m ic, .int .i64 fl])] w' fun e w2 => ∃ A c L, e = .returned (.agg #[.slice sA ns sc, .slice A m c, .int .i64 fl]) ∧ PX L ∧ SlS w2 4 A m (itc L) (New w'.heap.size) ∧ Ext w' w2)
    (cu : ∀ w', Ext w w' → Calls Try.prog 51 #[(.agg #[.slice tA nt tc, .slice jA r jc, .int .i64 fq])] w' fun e w2 => ∃ A c L, e = .returned (.agg #[.slice tA nt tc, .slice A r c, .int .i64 fq]) ∧ PY L ∧ SlS w2 4 A r (itc L) (New w'.heap.size) ∧ Ext w' w2)
    (co : ∀ w', Ext w w' → Calls Try.prog 52 #[(.agg #[.slice sA ns sc, .slice iA m ic, .int .i64 fl])] w' (OfO PP w'))
    (cv : ∀ w', Ext w w' → Calls Try.prog 52 #[(.agg #[.slice tA nt tc, .slice jA r jc, .int .i64 fq])] w' (OfO QQ w'))
    (er : Int) (D : VD) (nR : Nat) (AL : List Bool)
    (ca : ∀ v u w', PP v w' → QQ u w' → Calls Try.prog 49 #[.int .i64 f, v, u] w' (AppU er D w'))
    (cr : ∀ A c L B d M w' S S', PX L → PY M → SlS w' 4 A m (itc L) S → SlS w' 4 B r (itc M) S' → Calls Try.prog 53 #[.int .i64 f, .slice A m c, .int .i64 fl, .slice B r d, .int .i64 fq] w' fun e w2 => ∃ R c, e = .returned (.tuple #[.slice R nR c, .int .i64 er]) ∧ SlS w2 1 R nR (bools AL) (New w'.heap.size) ∧ Ext w' w2)
    (eb : Bool) (heb : (er == 0) = eb) (cpk : ∀ p w, IsVec w p D → Calls Try.prog 36 #[p] w fun e w' => ∃ q, e = .returned (.tuple #[q, .bool eb]) ∧ (∀ S, VecS w p D S → BitS w' q AL S) ∧ Ext w w')
    (hnR : nR = AL.length) (hnR2 : nR ≤ 1048576) : Calls Try.prog 12 #[.int .i64 f, (.agg #[.slice sA ns sc, .slice iA m ic, .int .i64 fl]), (.agg #[.slice tA nt tc, .slice jA r jc, .int .i64 fq])] w fun e w' => e = .returned (.bool true) ∧ Ext w w' := by
  have hF := pl_flat sA ns sc iA m ic fl
  have hG := pl_flat tA nt tc jA r jc fq
  have E := Ext.refl w
  have cun := fun p w h => unpack_sl p AL nR hnR w h
  have cbo := fun P Q c c' w h h' => bools_same P Q AL nR nR c c' hnR hnR w hnR2 h h'
  have ctd := fun p w h => btidy_any p AL w h
  clear hnR hnR2
  go_enter Try.func12, Try.ntmps12
  have TB4 : True := trivial
  have TB5 : True := trivial
  go_wp2_with (first | (clear TB4; refine boxsP (v := (.agg #[.slice sA ns sc, .slice iA m ic, .int .i64 fl])) rfl rfl rfl hF ?_; intro B4 w4 bB4 cB4 XB4 LB4 RB4; have z1 := XB4.size; replace E := E.trans XB4) | (clear TB5; refine boxsP (v := (.agg #[.slice tA nt tc, .slice jA r jc, .int .i64 fq])) rfl rfl rfl hG ?_; intro B5 w5 bB5 cB5 XB5 LB5 RB5; have z2 := XB5.size; replace E := E.trans XB5; replace LB4 := LB4.ext XB5; replace RB4 := RB4.ext XB5) | (refine loadsP (B := B4) (by rfl) rfl rfl LB4 ?_))
  refine (rg1 _ E).mono ?_
  rintro e w16 ⟨g1, rfl, hp1, x⟩
  cases g1
  · have z3 := x.size
    replace E := E.trans x
    replace LB4 := LB4.ext x
    replace RB4 := RB4.ext x
    replace LB5 := LB5.ext x
    replace RB5 := RB5.ext x
    clear x
    go_wp2_with fail
    refine (rawake_any _).mono ?_
    rintro e w23 ⟨rfl, x⟩
    have z4 := x.size
    replace E := E.trans x
    replace LB4 := LB4.ext x
    replace RB4 := RB4.ext x
    replace LB5 := LB5.ext x
    replace RB5 := RB5.ext x
    clear x
    go_wp2_with fail
    go_ret
    exact ⟨rfl, E⟩
  · have z3 := x.size
    replace E := E.trans x
    replace LB4 := LB4.ext x
    replace RB4 := RB4.ext x
    replace LB5 := LB5.ext x
    replace RB5 := RB5.ext x
    clear x
    go_wp2_with (refine loadgP (B := B5) (by rfl) rfl rfl LB5 ?_)
    refine (rg2 _ E).mono ?_
    rintro e w20 ⟨g2, rfl, hp2, x⟩
    cases g2
    · have z4 := x.size
      replace E := E.trans x
      replace LB4 := LB4.ext x
      replace RB4 := RB4.ext x
      replace LB5 := LB5.ext x
      replace RB5 := RB5.ext x
      clear x
      go_wp2_with fail
      refine (rawake_any _).mono ?_
      rintro e w23 ⟨rfl, x⟩
      have z5 := x.size
      replace E := E.trans x
      replace LB4 := LB4.ext x
      replace RB4 := RB4.ext x
      replace LB5 := LB5.ext x
      replace RB5 := RB5.ext x
      clear x
      go_wp2_with fail
      go_ret
      exact ⟨rfl, E⟩
    · have z4 := x.size
      replace E := E.trans x
      replace LB4 := LB4.ext x
      replace RB4 := RB4.ext x
      replace LB5 := LB5.ext x
      replace RB5 := RB5.ext x
      clear x
      go_wp2_with fail
      try simp only [Act.put, List.setIfInBounds_toArray, List.set_cons_zero, List.set_cons_succ]
      apply joinK0 (F := fun (wS3 : World) => w20.heap.size ≤ wS3.heap.size ∧ Ext w wS3 ∧ Lay 3 wS3 B4 (.agg #[.slice sA ns sc, .slice iA m ic, .int .i64 fl]) ∧ Lay 3 wS3 B5 (.agg #[.slice tA nt tc, .slice jA r jc, .int .i64 fq]) ∧ Room 3 wS3 B4 ∧ Room 3 wS3 B5)
      · intro J
        refine J w20 ?_
        exact ⟨Nat.le_refl _, E, LB4, LB5, RB4, RB5⟩
      intro wS3 hJS
      clear E LB4 RB4 LB5 RB5
      refine wp_region_held_drew (S := (fun w' => Lay 3 w' B4 (.agg #[.slice sA ns sc, .slice iA m ic, .int .i64 fl]) ∧ Lay 3 w' B5 (.agg #[.slice tA nt tc, .slice jA r jc, .int .i64 fq]))) (by kernel_rfl) (by obtain ⟨z7, E, LB4, LB5, RB4, RB5⟩ := hJS; exact ⟨LB4, LB5⟩) (fun hH0 => ?_)
      apply joinK8 (F := fun (wD3_0 : World) (B7 : Nat) (B8 : Nat) (LA : Option Addr) (lc : Nat) (L : List It) (MA : Option Addr) (mc : Nat) (M : List It) => wS3.heap.size ≤ wD3_0.heap.size ∧ (wS3.heap.size ≤ B7 ∧ B7 < wD3_0.heap.size) ∧ (wS3.heap.size ≤ B8 ∧ B8 < wD3_0.heap.size) ∧ B7 ≠ B8 ∧ Ext w wD3_0 ∧ Lay 3 wD3_0 B4 (.agg #[.slice sA ns sc, .slice iA m ic, .int .i64 fl]) ∧ Lay 3 wD3_0 B5 (.agg #[.slice tA nt tc, .slice jA r jc, .int .i64 fq]) ∧ Lay 3 wD3_0 B7 (.agg #[.slice sA ns sc, .slice LA m lc, .int .i64 fl]) ∧ Lay 3 wD3_0 B8 (.agg #[.slice tA nt tc, .slice MA r mc, .int .i64 fq]) ∧ Room 3 wD3_0 B4 ∧ Room 3 wD3_0 B5 ∧ SlS wD3_0 4 LA m (itc L) (fun i => i < wD3_0.heap.size ∧ i ≠ B7 ∧ i ≠ B8) ∧ Rd (fun _ => PX L) wD3_0 (fun _ => False) ∧ SlS wD3_0 4 MA r (itc M) (fun i => i < wD3_0.heap.size ∧ i ≠ B7 ∧ i ≠ B8) ∧ Rd (fun _ => PY M) wD3_0 (fun _ => False) ∧ wD3_0.cell? ⟨B7, 1, none⟩ = some (.slice LA m lc) ∧ wD3_0.cell? ⟨B7, 2, none⟩ = some (.int .i64 fl) ∧ wD3_0.cell? ⟨B8, 1, none⟩ = some (.slice MA r mc) ∧ wD3_0.cell? ⟨B8, 2, none⟩ = some (.int .i64 fq))
      intro JD3_0
      apply joinK8 (F := fun (wD3_1 : World) (B7 : Nat) (B8 : Nat) (LA : Option Addr) (lc : Nat) (L : List It) (MA : Option Addr) (mc : Nat) (M : List It) => wS3.heap.size ≤ wD3_1.heap.size ∧ (wS3.heap.size ≤ B7 ∧ B7 < wD3_1.heap.size) ∧ (wS3.heap.size ≤ B8 ∧ B8 < wD3_1.heap.size) ∧ B7 ≠ B8 ∧ Ext w wD3_1 ∧ Lay 3 wD3_1 B4 (.agg #[.slice sA ns sc, .slice iA m ic, .int .i64 fl]) ∧ Lay 3 wD3_1 B5 (.agg #[.slice tA nt tc, .slice jA r jc, .int .i64 fq]) ∧ Lay 3 wD3_1 B7 zeroPl ∧ Lay 3 wD3_1 B8 zeroPl ∧ Room 3 wD3_1 B4 ∧ Room 3 wD3_1 B5 ∧ Room 3 wD3_1 B7 ∧ Room 3 wD3_1 B8 ∧ SlS wD3_1 4 LA m (itc L) (fun i => i < wD3_1.heap.size ∧ i ≠ B7 ∧ i ≠ B8) ∧ Rd (fun _ => PX L) wD3_1 (fun _ => False) ∧ SlS wD3_1 4 MA r (itc M) (fun i => i < wD3_1.heap.size ∧ i ≠ B7 ∧ i ≠ B8) ∧ Rd (fun _ => PY M) wD3_1 (fun _ => False))
      intro JD3_1
      apply joinK7 (F := fun (wD3_2 : World) (B7 : Nat) (LA : Option Addr) (lc : Nat) (L : List It) (MA : Option Addr) (mc : Nat) (M : List It) => wS3.heap.size ≤ wD3_2.heap.size ∧ (wS3.heap.size ≤ B7 ∧ B7 < wD3_2.heap.size) ∧ Ext w wD3_2 ∧ Lay 3 wD3_2 B4 (.agg #[.slice sA ns sc, .slice iA m ic, .int .i64 fl]) ∧ Lay 3 wD3_2 B5 (.agg #[.slice tA nt tc, .slice jA r jc, .int .i64 fq]) ∧ Lay 3 wD3_2 B7 zeroPl ∧ Room 3 wD3_2 B4 ∧ Room 3 wD3_2 B5 ∧ Room 3 wD3_2 B7 ∧ SlS wD3_2 4 LA m (itc L) (fun i => i < wD3_2.heap.size ∧ i ≠ B7) ∧ Rd (fun _ => PX L) wD3_2 (fun _ => False) ∧ SlS wD3_2 4 MA r (itc M) (fun i => i < wD3_2.heap.size ∧ i ≠ B7) ∧ Rd (fun _ => PY M) wD3_2 (fun _ => False))
      intro JD3_2
      apply joinK7 (F := fun (wD3_3 : World) (B8 : Nat) (LA : Option Addr) (lc : Nat) (L : List It) (MA : Option Addr) (mc : Nat) (M : List It) => wS3.heap.size ≤ wD3_3.heap.size ∧ (wS3.heap.size ≤ B8 ∧ B8 < wD3_3.heap.size) ∧ Ext w wD3_3 ∧ Lay 3 wD3_3 B4 (.agg #[.slice sA ns sc, .slice iA m ic, .int .i64 fl]) ∧ Lay 3 wD3_3 B5 (.agg #[.slice tA nt tc, .slice jA r jc, .int .i64 fq]) ∧ Lay 3 wD3_3 B8 zeroPl ∧ Room 3 wD3_3 B4 ∧ Room 3 wD3_3 B5 ∧ Room 3 wD3_3 B8 ∧ SlS wD3_3 4 LA m (itc L) (fun i => i < wD3_3.heap.size ∧ i ≠ B8) ∧ Rd (fun _ => PX L) wD3_3 (fun _ => False) ∧ SlS wD3_3 4 MA r (itc M) (fun i => i < wD3_3.heap.size ∧ i ≠ B8) ∧ Rd (fun _ => PY M) wD3_3 (fun _ => False))
      intro JD3_3
      apply joinK5 (F := fun (wD3_4 : World) (B7 : Nat) (B8 : Nat) (LA : Option Addr) (lc : Nat) (L : List It) => wS3.heap.size ≤ wD3_4.heap.size ∧ (wS3.heap.size ≤ B7 ∧ B7 < wD3_4.heap.size) ∧ (wS3.heap.size ≤ B8 ∧ B8 < wD3_4.heap.size) ∧ B7 ≠ B8 ∧ Ext w wD3_4 ∧ Lay 3 wD3_4 B4 (.agg #[.slice sA ns sc, .slice iA m ic, .int .i64 fl]) ∧ Lay 3 wD3_4 B5 (.agg #[.slice tA nt tc, .slice jA r jc, .int .i64 fq]) ∧ Lay 3 wD3_4 B7 zeroPl ∧ Lay 3 wD3_4 B8 zeroPl ∧ Room 3 wD3_4 B4 ∧ Room 3 wD3_4 B5 ∧ Room 3 wD3_4 B7 ∧ Room 3 wD3_4 B8 ∧ SlS wD3_4 4 LA m (itc L) (fun i => i < wD3_4.heap.size ∧ i ≠ B7 ∧ i ≠ B8) ∧ Rd (fun _ => PX L) wD3_4 (fun _ => False))
      intro JD3_4
      apply joinK4 (F := fun (wD3_5 : World) (B7 : Nat) (LA : Option Addr) (lc : Nat) (L : List It) => wS3.heap.size ≤ wD3_5.heap.size ∧ (wS3.heap.size ≤ B7 ∧ B7 < wD3_5.heap.size) ∧ Ext w wD3_5 ∧ Lay 3 wD3_5 B4 (.agg #[.slice sA ns sc, .slice iA m ic, .int .i64 fl]) ∧ Lay 3 wD3_5 B5 (.agg #[.slice tA nt tc, .slice jA r jc, .int .i64 fq]) ∧ Lay 3 wD3_5 B7 zeroPl ∧ Room 3 wD3_5 B4 ∧ Room 3 wD3_5 B5 ∧ Room 3 wD3_5 B7 ∧ SlS wD3_5 4 LA m (itc L) (fun i => i < wD3_5.heap.size ∧ i ≠ B7) ∧ Rd (fun _ => PX L) wD3_5 (fun _ => False))
      intro JD3_5
      apply joinK4 (F := fun (wD3_6 : World) (B8 : Nat) (LA : Option Addr) (lc : Nat) (L : List It) => wS3.heap.size ≤ wD3_6.heap.size ∧ (wS3.heap.size ≤ B8 ∧ B8 < wD3_6.heap.size) ∧ Ext w wD3_6 ∧ Lay 3 wD3_6 B4 (.agg #[.slice sA ns sc, .slice iA m ic, .int .i64 fl]) ∧ Lay 3 wD3_6 B5 (.agg #[.slice tA nt tc, .slice jA r jc, .int .i64 fq]) ∧ Lay 3 wD3_6 B8 zeroPl ∧ Room 3 wD3_6 B4 ∧ Room 3 wD3_6 B5 ∧ Room 3 wD3_6 B8 ∧ SlS wD3_6 4 LA m (itc L) (fun i => i < wD3_6.heap.size ∧ i ≠ B8) ∧ Rd (fun _ => PX L) wD3_6 (fun _ => False))
      intro JD3_6
      apply joinK2 (F := fun (wD3_7 : World) (B7 : Nat) (B8 : Nat) => wS3.heap.size ≤ wD3_7.heap.size ∧ (wS3.heap.size ≤ B7 ∧ B7 < wD3_7.heap.size) ∧ (wS3.heap.size ≤ B8 ∧ B8 < wD3_7.heap.size) ∧ B7 ≠ B8 ∧ Ext w wD3_7 ∧ Lay 3 wD3_7 B4 (.agg #[.slice sA ns sc, .slice iA m ic, .int .i64 fl]) ∧ Lay 3 wD3_7 B5 (.agg #[.slice tA nt tc, .slice jA r jc, .int .i64 fq]) ∧ Lay 3 wD3_7 B7 zeroPl ∧ Lay 3 wD3_7 B8 zeroPl ∧ Room 3 wD3_7 B4 ∧ Room 3 wD3_7 B5 ∧ Room 3 wD3_7 B7 ∧ Room 3 wD3_7 B8)
      intro JD3_7
      · have hJQ := hJS
        obtain ⟨z7, E, LB4, LB5, RB4, RB5⟩ := hJQ
        have hq8 : wS3.heap.size ≤ wS3.drew.heap.size := Nat.le_refl _
        have z9 := (Ext.refl wS3).drew.size
        replace E := E.trans (Ext.refl wS3).drew
        replace LB4 := LB4.ext (Ext.refl wS3).drew
        replace LB5 := LB5.ext (Ext.refl wS3).drew
        replace RB4 := RB4.ext (Ext.refl wS3).drew
        replace RB5 := RB5.ext (Ext.refl wS3).drew
        have hHeld := And.intro LB4 (LB5)
        refine wpAnyH_take (i := 0) (oi := { dst := some 24, op := Go.Op.load 89 (Go.Operand.tmp 4), type := 89, pos := "law.go:56", after := #[], guard := none }) (v := (.agg #[.slice sA ns sc, .slice iA m ic, .int .i64 fl])) rfl (by kernel_rfl) (by kernel_rfl) (by kernel_rfl) (fun _ _ _ h => h) (yieldP (by rfl) rfl rfl fun w' hx => hx.1) hHeld ?_
        try simp only [Act.put, List.setIfInBounds_toArray, List.set_cons_zero, List.set_cons_succ]
        refine wpAnyH_take (i := 2) (oi := { dst := some 26, op := Go.Op.load 89 (Go.Operand.tmp 5), type := 89, pos := "law.go:56", after := #[], guard := none }) (v := (.agg #[.slice tA nt tc, .slice jA r jc, .int .i64 fq])) rfl (by kernel_rfl) (by kernel_rfl) (by kernel_rfl) (fun _ _ _ h => h) (yieldP (by rfl) rfl rfl fun w' hx => hx.2) hHeld ?_
        try simp only [Act.put, List.setIfInBounds_toArray, List.set_cons_zero, List.set_cons_succ]
        refine wpAnyH_ready (rs := [1, 4, 5]) (by kernel_rfl) (by simp) ?_
        refine AllReadyH.cons (o := rapl_3_1) rfl (fun K hK => ?_) (AllReadyH.cons (o := rapl_3_4) rfl (fun K hK => ?_) (AllReadyH.cons (o := rapl_3_5) rfl (fun K hK => ?_) (AllReadyH.nil)))
        · dsimp only [rapl_3_1]
          go_simp
          refine (ct _ E).mono ?_
          rintro e w25 ⟨LA, lc, L, rfl, hpx, hq, x⟩
          have HL := hq.now
          have HPX := rd_const hpx w25 (fun _ => False)
          clear hq hpx
          have z12 := x.size
          replace E := E.trans x
          replace LB4 := LB4.ext x
          replace LB5 := LB5.ext x
          replace RB4 := RB4.ext x
          replace RB5 := RB5.ext x
          clear x
          clear hHeld
          have hHeld := And.intro LB4 (LB5)
          refine hK.out _ _ hHeld (fun _ => ?_)
          clear hK K
          try simp only [Act.put, List.setIfInBounds_toArray, List.set_cons_zero, List.set_cons_succ]
          refine wpAnyH_ready (rs := [3, 4, 5]) (by kernel_rfl) (by simp) ?_
          refine AllReadyH.cons (o := rapl_3_3) rfl (fun K hK => ?_) (AllReadyH.cons (o := rapl_3_4) rfl (fun K hK => ?_) (AllReadyH.cons (o := rapl_3_5) rfl (fun K hK => ?_) (AllReadyH.nil)))
          · dsimp only [rapl_3_3]
            go_simp
            refine (cu _ E).mono ?_
            rintro e w27 ⟨MA, mc, M, rfl, hpy, hq, x⟩
            have HM := hq.now
            have HPY := rd_const hpy w27 (fun _ => False)
            clear hq hpy
            have z13 := x.size
            replace E := E.trans x
            replace LB4 := LB4.ext x
            replace LB5 := LB5.ext x
            replace RB4 := RB4.ext x
            replace RB5 := RB5.ext x
            replace HL := HL.ext x
            replace HPX := HPX.ext x
            clear x
            clear hHeld
            have hHeld := And.intro LB4 (LB5)
            refine hK.out _ _ hHeld (fun _ => ?_)
            clear hK K
            try simp only [Act.put, List.setIfInBounds_toArray, List.set_cons_zero, List.set_cons_succ]
            refine wpAnyH_ready (rs := [4, 5]) (by kernel_rfl) (by simp) ?_
            refine AllReadyH.cons (o := rapl_3_4) rfl (fun K hK => ?_) (AllReadyH.cons (o := rapl_3_5) rfl (fun K hK => ?_) (AllReadyH.nil))
            · dsimp only [rapl_3_4]
              rw [if_pos (by rfl)]
              refine allocP rfl ?_
              intro B7 w7 bB7 cB7 XB7 LB7 RB7
              have z14 := XB7.size
              replace E := E.trans XB7
              replace LB4 := LB4.ext XB7
              replace LB5 := LB5.ext XB7
              replace RB4 := RB4.ext XB7
              replace RB5 := RB5.ext XB7
              replace HL := HL.ext XB7
              replace HPX := HPX.ext XB7
              replace HM := HM.ext XB7
              replace HPY := HPY.ext XB7
              clear hHeld
              have hHeld := And.intro LB4 (LB5)
              refine hK.out _ _ hHeld (fun _ => ?_)
              clear hK K
              try simp only [Act.put, List.setIfInBounds_toArray, List.set_cons_zero, List.set_cons_succ]
              refine JD3_2 w7 B7 LA lc L MA mc M ?_
              exact ⟨by omega, ⟨by omega, by omega⟩, E, LB4, LB5, LB7, RB4, RB5, RB7, (HL.mono (fun i hi h => by ((try dsimp only [New] at h); omega))), HPX, (HM.mono (fun i hi h => by ((try dsimp only [New] at h); omega))), HPY⟩
            · dsimp only [rapl_3_5]
              rw [if_pos (by rfl)]
              refine allocP rfl ?_
              intro B8 w8 bB8 cB8 XB8 LB8 RB8
              have z15 := XB8.size
              replace E := E.trans XB8
              replace LB4 := LB4.ext XB8
              replace LB5 := LB5.ext XB8
              replace RB4 := RB4.ext XB8
              replace RB5 := RB5.ext XB8
              replace HL := HL.ext XB8
              replace HPX := HPX.ext XB8
              replace HM := HM.ext XB8
              replace HPY := HPY.ext XB8
              clear hHeld
              have hHeld := And.intro LB4 (LB5)
              refine hK.out _ _ hHeld (fun _ => ?_)
              clear hK K
              try simp only [Act.put, List.setIfInBounds_toArray, List.set_cons_zero, List.set_cons_succ]
              refine JD3_3 w8 B8 LA lc L MA mc M ?_
              exact ⟨by omega, ⟨by omega, by omega⟩, E, LB4, LB5, LB8, RB4, RB5, RB8, (HL.mono (fun i hi h => by ((try dsimp only [New] at h); omega))), HPX, (HM.mono (fun i hi h => by ((try dsimp only [New] at h); omega))), HPY⟩
          · dsimp only [rapl_3_4]
            rw [if_pos (by rfl)]
            refine allocP rfl ?_
            intro B7 w7 bB7 cB7 XB7 LB7 RB7
            have z16 := XB7.size
            replace E := E.trans XB7
            replace LB4 := LB4.ext XB7
            replace LB5 := LB5.ext XB7
            replace RB4 := RB4.ext XB7
            replace RB5 := RB5.ext XB7
            replace HL := HL.ext XB7
            replace HPX := HPX.ext XB7
            clear hHeld
            have hHeld := And.intro LB4 (LB5)
            refine hK.out _ _ hHeld (fun _ => ?_)
            clear hK K
            try simp only [Act.put, List.setIfInBounds_toArray, List.set_cons_zero, List.set_cons_succ]
            refine JD3_5 w7 B7 LA lc L ?_
            exact ⟨by omega, ⟨by omega, by omega⟩, E, LB4, LB5, LB7, RB4, RB5, RB7, (HL.mono (fun i hi h => by ((try dsimp only [New] at h); omega))), HPX⟩
          · dsimp only [rapl_3_5]
            rw [if_pos (by rfl)]
            refine allocP rfl ?_
            intro B8 w8 bB8 cB8 XB8 LB8 RB8
            have z17 := XB8.size
            replace E := E.trans XB8
            replace LB4 := LB4.ext XB8
            replace LB5 := LB5.ext XB8
            replace RB4 := RB4.ext XB8
            replace RB5 := RB5.ext XB8
            replace HL := HL.ext XB8
            replace HPX := HPX.ext XB8
            clear hHeld
            have hHeld := And.intro LB4 (LB5)
            refine hK.out _ _ hHeld (fun _ => ?_)
            clear hK K
            try simp only [Act.put, List.setIfInBounds_toArray, List.set_cons_zero, List.set_cons_succ]
            refine JD3_6 w8 B8 LA lc L ?_
            exact ⟨by omega, ⟨by omega, by omega⟩, E, LB4, LB5, LB8, RB4, RB5, RB8, (HL.mono (fun i hi h => by ((try dsimp only [New] at h); omega))), HPX⟩
        · dsimp only [rapl_3_4]
          rw [if_pos (by rfl)]
          refine allocP rfl ?_
          intro B7 w7 bB7 cB7 XB7 LB7 RB7
          have z18 := XB7.size
          replace E := E.trans XB7
          replace LB4 := LB4.ext XB7
          replace LB5 := LB5.ext XB7
          replace RB4 := RB4.ext XB7
          replace RB5 := RB5.ext XB7
          clear hHeld
          have hHeld := And.intro LB4 (LB5)
          refine hK.out _ _ hHeld (fun _ => ?_)
          clear hK K
          try simp only [Act.put, List.setIfInBounds_toArray, List.set_cons_zero, List.set_cons_succ]
          refine wpAnyH_ready (rs := [1, 5]) (by kernel_rfl) (by simp) ?_
          refine AllReadyH.cons (o := rapl_3_1) rfl (fun K hK => ?_) (AllReadyH.cons (o := rapl_3_5) rfl (fun K hK => ?_) (AllReadyH.nil))
          · dsimp only [rapl_3_1]
            go_simp
            refine (ct _ E).mono ?_
            rintro e w25 ⟨LA, lc, L, rfl, hpx, hq, x⟩
            have HL := hq.now
            have HPX := rd_const hpx w25 (fun _ => False)
            clear hq hpx
            have z19 := x.size
            replace E := E.trans x
            replace LB4 := LB4.ext x
            replace LB5 := LB5.ext x
            replace RB4 := RB4.ext x
            replace RB5 := RB5.ext x
            replace LB7 := LB7.ext x
            replace RB7 := RB7.ext x
            clear x
            clear hHeld
            have hHeld := And.intro LB4 (LB5)
            refine hK.out _ _ hHeld (fun _ => ?_)
            clear hK K
            try simp only [Act.put, List.setIfInBounds_toArray, List.set_cons_zero, List.set_cons_succ]
            refine JD3_5 w25 B7 LA lc L ?_
            exact ⟨by omega, ⟨by omega, by omega⟩, E, LB4, LB5, LB7, RB4, RB5, RB7, (HL.mono (fun i hi h => by ((try dsimp only [New] at h); omega))), HPX⟩
          · dsimp only [rapl_3_5]
            rw [if_pos (by rfl)]
            refine allocP rfl ?_
            intro B8 w8 bB8 cB8 XB8 LB8 RB8
            have z20 := XB8.size
            replace E := E.trans XB8
            replace LB4 := LB4.ext XB8
            replace LB5 := LB5.ext XB8
            replace RB4 := RB4.ext XB8
            replace RB5 := RB5.ext XB8
            replace LB7 := LB7.ext XB8
            replace RB7 := RB7.ext XB8
            clear hHeld
            have hHeld := And.intro LB4 (LB5)
            refine hK.out _ _ hHeld (fun _ => ?_)
            clear hK K
            try simp only [Act.put, List.setIfInBounds_toArray, List.set_cons_zero, List.set_cons_succ]
            refine JD3_7 w8 B7 B8 ?_
            exact ⟨by omega, ⟨by omega, by omega⟩, ⟨by omega, by omega⟩, by omega, E, LB4, LB5, LB7, LB8, RB4, RB5, RB7, RB8⟩
        · dsimp only [rapl_3_5]
          rw [if_pos (by rfl)]
          refine allocP rfl ?_
          intro B8 w8 bB8 cB8 XB8 LB8 RB8
          have z21 := XB8.size
          replace E := E.trans XB8
          replace LB4 := LB4.ext XB8
          replace LB5 := LB5.ext XB8
          replace RB4 := RB4.ext XB8
          replace RB5 := RB5.ext XB8
          clear hHeld
          have hHeld := And.intro LB4 (LB5)
          refine hK.out _ _ hHeld (fun _ => ?_)
          clear hK K
          try simp only [Act.put, List.setIfInBounds_toArray, List.set_cons_zero, List.set_cons_succ]
          refine wpAnyH_ready (rs := [1, 4]) (by kernel_rfl) (by simp) ?_
          refine AllReadyH.cons (o := rapl_3_1) rfl (fun K hK => ?_) (AllReadyH.cons (o := rapl_3_4) rfl (fun K hK => ?_) (AllReadyH.nil))
          · dsimp only [rapl_3_1]
            go_simp
            refine (ct _ E).mono ?_
            rintro e w25 ⟨LA, lc, L, rfl, hpx, hq, x⟩
            have HL := hq.now
            have HPX := rd_const hpx w25 (fun _ => False)
            clear hq hpx
            have z22 := x.size
            replace E := E.trans x
            replace LB4 := LB4.ext x
            replace LB5 := LB5.ext x
            replace RB4 := RB4.ext x
            replace RB5 := RB5.ext x
            replace LB8 := LB8.ext x
            replace RB8 := RB8.ext x
            clear x
            clear hHeld
            have hHeld := And.intro LB4 (LB5)
            refine hK.out _ _ hHeld (fun _ => ?_)
            clear hK K
            try simp only [Act.put, List.setIfInBounds_toArray, List.set_cons_zero, List.set_cons_succ]
            refine JD3_6 w25 B8 LA lc L ?_
            exact ⟨by omega, ⟨by omega, by omega⟩, E, LB4, LB5, LB8, RB4, RB5, RB8, (HL.mono (fun i hi h => by ((try dsimp only [New] at h); omega))), HPX⟩
          · dsimp only [rapl_3_4]
            rw [if_pos (by rfl)]
            refine allocP rfl ?_
            intro B7 w7 bB7 cB7 XB7 LB7 RB7
            have z23 := XB7.size
            replace E := E.trans XB7
            replace LB4 := LB4.ext XB7
            replace LB5 := LB5.ext XB7
            replace RB4 := RB4.ext XB7
            replace RB5 := RB5.ext XB7
            replace LB8 := LB8.ext XB7
            replace RB8 := RB8.ext XB7
            clear hHeld
            have hHeld := And.intro LB4 (LB5)
            refine hK.out _ _ hHeld (fun _ => ?_)
            clear hK K
            try simp only [Act.put, List.setIfInBounds_toArray, List.set_cons_zero, List.set_cons_succ]
            refine JD3_7 w7 B7 B8 ?_
            exact ⟨by omega, ⟨by omega, by omega⟩, ⟨by omega, by omega⟩, by omega, E, LB4, LB5, LB7, LB8, RB4, RB5, RB7, RB8⟩
      · intro wD3_7 B7 B8 hJ
        obtain ⟨z24, ⟨bB7, cB7⟩, ⟨bB8, cB8⟩, nB7B8, E, LB4, LB5, LB7, LB8, RB4, RB5, RB7, RB8⟩ := hJ
        try dsimp only
        have hHeld := And.intro LB4 (LB5)
        refine wpAnyH_ready (rs := [1]) (by kernel_rfl) (by simp) ?_
        refine AllReadyH.cons (o := rapl_3_1) rfl (fun K hK => ?_) (AllReadyH.nil)
        dsimp only [rapl_3_1]
        go_simp
        refine (ct _ E).mono ?_
        rintro e w25 ⟨LA, lc, L, rfl, hpx, hq, x⟩
        have HL := hq.now
        have HPX := rd_const hpx w25 (fun _ => False)
        clear hq hpx
        have z25 := x.size
        replace E := E.trans x
        replace LB4 := LB4.ext x
        replace LB5 := LB5.ext x
        replace LB7 := LB7.ext x
        replace LB8 := LB8.ext x
        replace RB4 := RB4.ext x
        replace RB5 := RB5.ext x
        replace RB7 := RB7.ext x
        replace RB8 := RB8.ext x
        clear x
        clear hHeld
        have hHeld := And.intro LB4 (LB5)
        refine hK.out _ _ hHeld (fun _ => ?_)
        clear hK K
        try simp only [Act.put, List.setIfInBounds_toArray, List.set_cons_zero, List.set_cons_succ]
        refine JD3_4 w25 B7 B8 LA lc L ?_
        exact ⟨by omega, ⟨by omega, by omega⟩, ⟨by omega, by omega⟩, by omega, E, LB4, LB5, LB7, LB8, RB4, RB5, RB7, RB8, (HL.mono (fun i hi h => by ((try dsimp only [New] at h); omega))), HPX⟩
      · intro wD3_6 B8 LA lc L hJ
        obtain ⟨z26, ⟨bB8, cB8⟩, E, LB4, LB5, LB8, RB4, RB5, RB8, HL, HPX⟩ := hJ
        try dsimp only
        have hHeld := And.intro LB4 (LB5)
        refine wpAnyH_ready (rs := [3, 4]) (by kernel_rfl) (by simp) ?_
        refine AllReadyH.cons (o := rapl_3_3) rfl (fun K hK => ?_) (AllReadyH.cons (o := rapl_3_4) rfl (fun K hK => ?_) (AllReadyH.nil))
        · dsimp only [rapl_3_3]
          go_simp
          refine (cu _ E).mono ?_
          rintro e w27 ⟨MA, mc, M, rfl, hpy, hq, x⟩
          have HM := hq.now
          have HPY := rd_const hpy w27 (fun _ => False)
          clear hq hpy
          have z27 := x.size
          replace E := E.trans x
          replace LB4 := LB4.ext x
          replace LB5 := LB5.ext x
          replace LB8 := LB8.ext x
          replace RB4 := RB4.ext x
          replace RB5 := RB5.ext x
          replace RB8 := RB8.ext x
          replace HL := HL.ext x
          replace HPX := HPX.ext x
          clear x
          clear hHeld
          have hHeld := And.intro LB4 (LB5)
          refine hK.out _ _ hHeld (fun _ => ?_)
          clear hK K
          try simp only [Act.put, List.setIfInBounds_toArray, List.set_cons_zero, List.set_cons_succ]
          refine JD3_3 w27 B8 LA lc L MA mc M ?_
          exact ⟨by omega, ⟨by omega, by omega⟩, E, LB4, LB5, LB8, RB4, RB5, RB8, (HL.mono (fun i hi h => by ((try dsimp only [New] at h); omega))), HPX, (HM.mono (fun i hi h => by ((try dsimp only [New] at h); omega))), HPY⟩
        · dsimp only [rapl_3_4]
          rw [if_pos (by rfl)]
          refine allocP rfl ?_
          intro B7 w7 bB7 cB7 XB7 LB7 RB7
          have z28 := XB7.size
          replace E := E.trans XB7
          replace LB4 := LB4.ext XB7
          replace LB5 := LB5.ext XB7
          replace LB8 := LB8.ext XB7
          replace RB4 := RB4.ext XB7
          replace RB5 := RB5.ext XB7
          replace RB8 := RB8.ext XB7
          replace HL := HL.ext XB7
          replace HPX := HPX.ext XB7
          clear hHeld
          have hHeld := And.intro LB4 (LB5)
          refine hK.out _ _ hHeld (fun _ => ?_)
          clear hK K
          try simp only [Act.put, List.setIfInBounds_toArray, List.set_cons_zero, List.set_cons_succ]
          refine JD3_4 w7 B7 B8 LA lc L ?_
          exact ⟨by omega, ⟨by omega, by omega⟩, ⟨by omega, by omega⟩, by omega, E, LB4, LB5, LB7, LB8, RB4, RB5, RB7, RB8, (HL.mono (fun i hi h => by ((try dsimp only [New] at h); omega))), HPX⟩
      · intro wD3_5 B7 LA lc L hJ
        obtain ⟨z29, ⟨bB7, cB7⟩, E, LB4, LB5, LB7, RB4, RB5, RB7, HL, HPX⟩ := hJ
        try dsimp only
        have hHeld := And.intro LB4 (LB5)
        refine wpAnyH_ready (rs := [3, 5]) (by kernel_rfl) (by simp) ?_
        refine AllReadyH.cons (o := rapl_3_3) rfl (fun K hK => ?_) (AllReadyH.cons (o := rapl_3_5) rfl (fun K hK => ?_) (AllReadyH.nil))
        · dsimp only [rapl_3_3]
          go_simp
          refine (cu _ E).mono ?_
          rintro e w27 ⟨MA, mc, M, rfl, hpy, hq, x⟩
          have HM := hq.now
          have HPY := rd_const hpy w27 (fun _ => False)
          clear hq hpy
          have z30 := x.size
          replace E := E.trans x
          replace LB4 := LB4.ext x
          replace LB5 := LB5.ext x
          replace LB7 := LB7.ext x
          replace RB4 := RB4.ext x
          replace RB5 := RB5.ext x
          replace RB7 := RB7.ext x
          replace HL := HL.ext x
          replace HPX := HPX.ext x
          clear x
          clear hHeld
          have hHeld := And.intro LB4 (LB5)
          refine hK.out _ _ hHeld (fun _ => ?_)
          clear hK K
          try simp only [Act.put, List.setIfInBounds_toArray, List.set_cons_zero, List.set_cons_succ]
          refine JD3_2 w27 B7 LA lc L MA mc M ?_
          exact ⟨by omega, ⟨by omega, by omega⟩, E, LB4, LB5, LB7, RB4, RB5, RB7, (HL.mono (fun i hi h => by ((try dsimp only [New] at h); omega))), HPX, (HM.mono (fun i hi h => by ((try dsimp only [New] at h); omega))), HPY⟩
        · dsimp only [rapl_3_5]
          rw [if_pos (by rfl)]
          refine allocP rfl ?_
          intro B8 w8 bB8 cB8 XB8 LB8 RB8
          have z31 := XB8.size
          replace E := E.trans XB8
          replace LB4 := LB4.ext XB8
          replace LB5 := LB5.ext XB8
          replace LB7 := LB7.ext XB8
          replace RB4 := RB4.ext XB8
          replace RB5 := RB5.ext XB8
          replace RB7 := RB7.ext XB8
          replace HL := HL.ext XB8
          replace HPX := HPX.ext XB8
          clear hHeld
          have hHeld := And.intro LB4 (LB5)
          refine hK.out _ _ hHeld (fun _ => ?_)
          clear hK K
          try simp only [Act.put, List.setIfInBounds_toArray, List.set_cons_zero, List.set_cons_succ]
          refine JD3_4 w8 B7 B8 LA lc L ?_
          exact ⟨by omega, ⟨by omega, by omega⟩, ⟨by omega, by omega⟩, by omega, E, LB4, LB5, LB7, LB8, RB4, RB5, RB7, RB8, (HL.mono (fun i hi h => by ((try dsimp only [New] at h); omega))), HPX⟩
      · intro wD3_4 B7 B8 LA lc L hJ
        obtain ⟨z32, ⟨bB7, cB7⟩, ⟨bB8, cB8⟩, nB7B8, E, LB4, LB5, LB7, LB8, RB4, RB5, RB7, RB8, HL, HPX⟩ := hJ
        try dsimp only
        have hHeld := And.intro LB4 (LB5)
        refine wpAnyH_ready (rs := [3]) (by kernel_rfl) (by simp) ?_
        refine AllReadyH.cons (o := rapl_3_3) rfl (fun K hK => ?_) (AllReadyH.nil)
        dsimp only [rapl_3_3]
        go_simp
        refine (cu _ E).mono ?_
        rintro e w27 ⟨MA, mc, M, rfl, hpy, hq, x⟩
        have HM := hq.now
        have HPY := rd_const hpy w27 (fun _ => False)
        clear hq hpy
        have z33 := x.size
        replace E := E.trans x
        replace LB4 := LB4.ext x
        replace LB5 := LB5.ext x
        replace LB7 := LB7.ext x
        replace LB8 := LB8.ext x
        replace RB4 := RB4.ext x
        replace RB5 := RB5.ext x
        replace RB7 := RB7.ext x
        replace RB8 := RB8.ext x
        replace HL := HL.ext x
        replace HPX := HPX.ext x
        clear x
        clear hHeld
        have hHeld := And.intro LB4 (LB5)
        refine hK.out _ _ hHeld (fun _ => ?_)
        clear hK K
        try simp only [Act.put, List.setIfInBounds_toArray, List.set_cons_zero, List.set_cons_succ]
        refine JD3_1 w27 B7 B8 LA lc L MA mc M ?_
        exact ⟨by omega, ⟨by omega, by omega⟩, ⟨by omega, by omega⟩, by omega, E, LB4, LB5, LB7, LB8, RB4, RB5, RB7, RB8, (HL.mono (fun i hi h => by ((try dsimp only [New] at h); omega))), HPX, (HM.mono (fun i hi h => by ((try dsimp only [New] at h); omega))), HPY⟩
      · intro wD3_3 B8 LA lc L MA mc M hJ
        obtain ⟨z34, ⟨bB8, cB8⟩, E, LB4, LB5, LB8, RB4, RB5, RB8, HL, HPX, HM, HPY⟩ := hJ
        try dsimp only
        have hHeld := And.intro LB4 (LB5)
        refine wpAnyH_ready (rs := [4]) (by kernel_rfl) (by simp) ?_
        refine AllReadyH.cons (o := rapl_3_4) rfl (fun K hK => ?_) (AllReadyH.nil)
        dsimp only [rapl_3_4]
        rw [if_pos (by rfl)]
        refine allocP rfl ?_
        intro B7 w7 bB7 cB7 XB7 LB7 RB7
        have z35 := XB7.size
        replace E := E.trans XB7
        replace LB4 := LB4.ext XB7
        replace LB5 := LB5.ext XB7
        replace LB8 := LB8.ext XB7
        replace RB4 := RB4.ext XB7
        replace RB5 := RB5.ext XB7
        replace RB8 := RB8.ext XB7
        replace HL := HL.ext XB7
        replace HPX := HPX.ext XB7
        replace HM := HM.ext XB7
        replace HPY := HPY.ext XB7
        clear hHeld
        have hHeld := And.intro LB4 (LB5)
        refine hK.out _ _ hHeld (fun _ => ?_)
        clear hK K
        try simp only [Act.put, List.setIfInBounds_toArray, List.set_cons_zero, List.set_cons_succ]
        refine JD3_1 w7 B7 B8 LA lc L MA mc M ?_
        exact ⟨by omega, ⟨by omega, by omega⟩, ⟨by omega, by omega⟩, by omega, E, LB4, LB5, LB7, LB8, RB4, RB5, RB7, RB8, (HL.mono (fun i hi h => by ((try dsimp only [New] at h); omega))), HPX, (HM.mono (fun i hi h => by ((try dsimp only [New] at h); omega))), HPY⟩
      · intro wD3_2 B7 LA lc L MA mc M hJ
        obtain ⟨z36, ⟨bB7, cB7⟩, E, LB4, LB5, LB7, RB4, RB5, RB7, HL, HPX, HM, HPY⟩ := hJ
        try dsimp only
        have hHeld := And.intro LB4 (LB5)
        refine wpAnyH_ready (rs := [5]) (by kernel_rfl) (by simp) ?_
        refine AllReadyH.cons (o := rapl_3_5) rfl (fun K hK => ?_) (AllReadyH.nil)
        dsimp only [rapl_3_5]
        rw [if_pos (by rfl)]
        refine allocP rfl ?_
        intro B8 w8 bB8 cB8 XB8 LB8 RB8
        have z37 := XB8.size
        replace E := E.trans XB8
        replace LB4 := LB4.ext XB8
        replace LB5 := LB5.ext XB8
        replace LB7 := LB7.ext XB8
        replace RB4 := RB4.ext XB8
        replace RB5 := RB5.ext XB8
        replace RB7 := RB7.ext XB8
        replace HL := HL.ext XB8
        replace HPX := HPX.ext XB8
        replace HM := HM.ext XB8
        replace HPY := HPY.ext XB8
        clear hHeld
        have hHeld := And.intro LB4 (LB5)
        refine hK.out _ _ hHeld (fun _ => ?_)
        clear hK K
        try simp only [Act.put, List.setIfInBounds_toArray, List.set_cons_zero, List.set_cons_succ]
        refine JD3_1 w8 B7 B8 LA lc L MA mc M ?_
        exact ⟨by omega, ⟨by omega, by omega⟩, ⟨by omega, by omega⟩, by omega, E, LB4, LB5, LB7, LB8, RB4, RB5, RB7, RB8, (HL.mono (fun i hi h => by ((try dsimp only [New] at h); omega))), HPX, (HM.mono (fun i hi h => by ((try dsimp only [New] at h); omega))), HPY⟩
      · intro wD3_1 B7 B8 LA lc L MA mc M hJ
        obtain ⟨z38, ⟨bB7, cB7⟩, ⟨bB8, cB8⟩, nB7B8, E, LB4, LB5, LB7, LB8, RB4, RB5, RB7, RB8, HL, HPX, HM, HPY⟩ := hJ
        try dsimp only
        have hHeld := And.intro LB4 (LB5)
        refine wpAnyH_ready (rs := [6]) (by kernel_rfl) (by simp) ?_
        refine AllReadyH.cons (o := rapl_3_6) rfl (fun K hK => ?_) (AllReadyH.nil)
        dsimp only [rapl_3_6]
        rw [if_pos (by rfl)]
        have hRl := (RB7).lt (Nat.zero_lt_succ _)
        refine storeP (by rfl) (by rfl) (v := (.agg #[.slice sA ns sc, .slice LA m lc, .int .i64 fl])) (by rfl) RB7 (pl_flat _ _ _ _ _ _ _) ?_
        clear LB7
        intro s39 G39 LB7 RQ
        have z40 := G39.size
        replace E := grown_ext E G39 (by omega)
        replace LB4 := LB4.grown G39 (by omega)
        replace LB5 := LB5.grown G39 (by omega)
        replace LB8 := LB8.grown G39 (by omega)
        replace RB4 := RB4.grown G39 (by omega)
        replace RB5 := RB5.grown G39 (by omega)
        replace RB8 := RB8.grown G39 (by omega)
        replace HL := HL.grown G39 (by first | omega | (dsimp only [New]; omega))
        replace HPX := HPX.grown G39 (fun h => h)
        replace HM := HM.grown G39 (by first | omega | (dsimp only [New]; omega))
        replace HPY := HPY.grown G39 (fun h => h)
        clear RB7
        have RB7 := RQ
        clear RQ hRl G39
        clear hHeld
        have hHeld := And.intro LB4 (LB5)
        refine hK.out _ _ hHeld (fun _ => ?_)
        clear hK K
        try simp only [Act.put]
        refine wpAnyH_ready (rs := [7]) (by kernel_rfl) (by simp) ?_
        refine AllReadyH.cons (o := rapl_3_7) rfl (fun K hK => ?_) (AllReadyH.nil)
        dsimp only [rapl_3_7]
        rw [if_pos (by rfl)]
        have hRl := (RB8).lt (Nat.zero_lt_succ _)
        refine storeP (by rfl) (by rfl) (v := (.agg #[.slice tA nt tc, .slice MA r mc, .int .i64 fq])) (by rfl) RB8 (pl_flat _ _ _ _ _ _ _) ?_
        clear LB8
        intro s41 G41 LB8 RQ
        have z42 := G41.size
        replace E := grown_ext E G41 (by omega)
        replace LB4 := LB4.grown G41 (by omega)
        replace LB5 := LB5.grown G41 (by omega)
        replace LB7 := LB7.grown G41 (by omega)
        replace RB4 := RB4.grown G41 (by omega)
        replace RB5 := RB5.grown G41 (by omega)
        replace RB7 := RB7.grown G41 (by omega)
        replace HL := HL.grown G41 (by first | omega | (dsimp only [New]; omega))
        replace HPX := HPX.grown G41 (fun h => h)
        replace HM := HM.grown G41 (by first | omega | (dsimp only [New]; omega))
        replace HPY := HPY.grown G41 (fun h => h)
        clear RB8
        have RB8 := RQ
        clear RQ hRl G41
        clear hHeld
        have hHeld := And.intro LB4 (LB5)
        refine hK.out _ _ hHeld (fun _ => ?_)
        clear hK K
        try simp only [Act.put]
        refine wpAnyH_done (by kernel_rfl) ?_ _
        refine JD3_0 s41 B7 B8 LA lc L MA mc M ?_
        exact ⟨by omega, ⟨by omega, by omega⟩, ⟨by omega, by omega⟩, by omega, E, LB4, LB5, LB7, LB8, RB4, RB5, (HL.mono (fun i hi h => by ((try dsimp only [New] at h); omega))), HPX, (HM.mono (fun i hi h => by ((try dsimp only [New] at h); omega))), HPY, lay_cell LB7 (j := 1) rfl, lay_cell LB7 (j := 2) rfl, lay_cell LB8 (j := 1) rfl, lay_cell LB8 (j := 2) rfl⟩
      · intro wD3_0 B7 B8 LA lc L MA mc M hJ
        obtain ⟨z43, ⟨bB7, cB7⟩, ⟨bB8, cB8⟩, nB7B8, E, LB4, LB5, LB7, LB8, RB4, RB5, HL, HPX, HM, HPY, cB7_1, cB7_2, cB8_1, cB8_2⟩ := hJ
        try dsimp only
        go_wp2_with fail
        try simp only [Act.put, List.setIfInBounds_toArray, List.set_cons_zero, List.set_cons_succ]
        apply joinK0 (F := fun (wS4 : World) => wD3_0.heap.size ≤ wS4.heap.size ∧ Ext w wS4 ∧ Lay 3 wS4 B4 (.agg #[.slice sA ns sc, .slice iA m ic, .int .i64 fl]) ∧ Lay 3 wS4 B5 (.agg #[.slice tA nt tc, .slice jA r jc, .int .i64 fq]) ∧ Lay 3 wS4 B7 (.agg #[.slice sA ns sc, .slice LA m lc, .int .i64 fl]) ∧ Lay 3 wS4 B8 (.agg #[.slice tA nt tc, .slice MA r mc, .int .i64 fq]) ∧ Room 3 wS4 B4 ∧ Room 3 wS4 B5 ∧ SlS wS4 4 LA m (itc L) (fun i => i < wS4.heap.size) ∧ Rd (fun _ => PX L) wS4 (fun _ => False) ∧ SlS wS4 4 MA r (itc M) (fun i => i < wS4.heap.size) ∧ Rd (fun _ => PY M) wS4 (fun _ => False) ∧ wS4.cell? ⟨B7, 1, none⟩ = some (.slice LA m lc) ∧ wS4.cell? ⟨B7, 2, none⟩ = some (.int .i64 fl) ∧ wS4.cell? ⟨B8, 1, none⟩ = some (.slice MA r mc) ∧ wS4.cell? ⟨B8, 2, none⟩ = some (.int .i64 fq))
        · intro J
          refine J wD3_0 ?_
          exact ⟨Nat.le_refl _, E, LB4, LB5, LB7, LB8, RB4, RB5, (HL.mono (fun i hi h => by ((try dsimp only [New] at h); omega))), HPX, (HM.mono (fun i hi h => by ((try dsimp only [New] at h); omega))), HPY, cB7_1, cB7_2, cB8_1, cB8_2⟩
        intro wS4 hJS
        clear E LB4 LB5 LB7 LB8 RB4 RB5 HL HPX HM HPY cB7_1 cB7_2 cB8_1 cB8_2
        refine wp_region_held_drew (S := (fun w' => Lay 3 w' B4 (.agg #[.slice sA ns sc, .slice iA m ic, .int .i64 fl]) ∧ Lay 3 w' B5 (.agg #[.slice tA nt tc, .slice jA r jc, .int .i64 fq]))) (by kernel_rfl) (by obtain ⟨z46, E, LB4, LB5, LB7, LB8, RB4, RB5, HL, HPX, HM, HPY, cB7_1, cB7_2, cB8_1, cB8_2⟩ := hJS; exact ⟨LB4, LB5⟩) (fun hH0 => ?_)
        apply joinK20 (F := fun (wD4_0 : World) (B9 : Nat) (c0 : Value) (c1 : Value) (c2 : Value) (c3 : Value) (c4 : Value) (c5 : Value) (c6 : Value) (c7 : Value) (c8 : Value) (d0 : Value) (d1 : Value) (d2 : Value) (d3 : Value) (d4 : Value) (d5 : Value) (d6 : Value) (d7 : Value) (d8 : Value) (v : Value) => wS4.heap.size ≤ wD4_0.heap.size ∧ (wS4.heap.size ≤ B9 ∧ B9 < wD4_0.heap.size) ∧ Ext w wD4_0 ∧ Lay 3 wD4_0 B4 (.agg #[.slice sA ns sc, .slice iA m ic, .int .i64 fl]) ∧ Lay 3 wD4_0 B5 (.agg #[.slice tA nt tc, .slice jA r jc, .int .i64 fq]) ∧ Lay 3 wD4_0 B7 (.agg #[.slice sA ns sc, .slice LA m lc, .int .i64 fl]) ∧ Lay 3 wD4_0 B8 (.agg #[.slice tA nt tc, .slice MA r mc, .int .i64 fq]) ∧ Lay 8 wD4_0 B9 v ∧ Room 3 wD4_0 B4 ∧ Room 3 wD4_0 B5 ∧ SlS wD4_0 4 LA m (itc L) (fun i => i < wD4_0.heap.size ∧ i ≠ B9) ∧ Rd (fun _ => PX L) wD4_0 (fun _ => False) ∧ SlS wD4_0 4 MA r (itc M) (fun i => i < wD4_0.heap.size ∧ i ≠ B9) ∧ Rd (fun _ => PY M) wD4_0 (fun _ => False) ∧ wD4_0.cell? ⟨B7, 1, none⟩ = some (.slice LA m lc) ∧ wD4_0.cell? ⟨B7, 2, none⟩ = some (.int .i64 fl) ∧ wD4_0.cell? ⟨B8, 1, none⟩ = some (.slice MA r mc) ∧ wD4_0.cell? ⟨B8, 2, none⟩ = some (.int .i64 fq) ∧ VecS wD4_0 v D (fun i => i < wD4_0.heap.size ∧ i ≠ B9))
        intro JD4_0
        apply joinK20 (F := fun (wD4_1 : World) (B9 : Nat) (c0 : Value) (c1 : Value) (c2 : Value) (c3 : Value) (c4 : Value) (c5 : Value) (c6 : Value) (c7 : Value) (c8 : Value) (d0 : Value) (d1 : Value) (d2 : Value) (d3 : Value) (d4 : Value) (d5 : Value) (d6 : Value) (d7 : Value) (d8 : Value) (v : Value) => wS4.heap.size ≤ wD4_1.heap.size ∧ (wS4.heap.size ≤ B9 ∧ B9 < wD4_1.heap.size) ∧ Ext w wD4_1 ∧ Lay 3 wD4_1 B4 (.agg #[.slice sA ns sc, .slice iA m ic, .int .i64 fl]) ∧ Lay 3 wD4_1 B5 (.agg #[.slice tA nt tc, .slice jA r jc, .int .i64 fq]) ∧ Lay 3 wD4_1 B7 (.agg #[.slice sA ns sc, .slice LA m lc, .int .i64 fl]) ∧ Lay 3 wD4_1 B8 (.agg #[.slice tA nt tc, .slice MA r mc, .int .i64 fq]) ∧ Lay 8 wD4_1 B9 zeroVec ∧ Room 3 wD4_1 B4 ∧ Room 3 wD4_1 B5 ∧ Room 8 wD4_1 B9 ∧ SlS wD4_1 4 LA m (itc L) (fun i => i < wD4_1.heap.size ∧ i ≠ B9) ∧ Rd (fun _ => PX L) wD4_1 (fun _ => False) ∧ SlS wD4_1 4 MA r (itc M) (fun i => i < wD4_1.heap.size ∧ i ≠ B9) ∧ Rd (fun _ => PY M) wD4_1 (fun _ => False) ∧ wD4_1.cell? ⟨B7, 1, none⟩ = some (.slice LA m lc) ∧ wD4_1.cell? ⟨B7, 2, none⟩ = some (.int .i64 fl) ∧ wD4_1.cell? ⟨B8, 1, none⟩ = some (.slice MA r mc) ∧ wD4_1.cell? ⟨B8, 2, none⟩ = some (.int .i64 fq) ∧ Rd (PP (.agg #[c1, c2, c3, c4, c5, c6, c7, c8])) wD4_1 (fun i => i < wD4_1.heap.size ∧ i ≠ B9) ∧ Rd (QQ (.agg #[d1, d2, d3, d4, d5, d6, d7, d8])) wD4_1 (fun i => i < wD4_1.heap.size ∧ i ≠ B9) ∧ VecS wD4_1 v D (fun i => i < wD4_1.heap.size ∧ i ≠ B9))
        intro JD4_1
        apply joinK19 (F := fun (wD4_2 : World) (B9 : Nat) (c0 : Value) (c1 : Value) (c2 : Value) (c3 : Value) (c4 : Value) (c5 : Value) (c6 : Value) (c7 : Value) (c8 : Value) (d0 : Value) (d1 : Value) (d2 : Value) (d3 : Value) (d4 : Value) (d5 : Value) (d6 : Value) (d7 : Value) (d8 : Value) => wS4.heap.size ≤ wD4_2.heap.size ∧ (wS4.heap.size ≤ B9 ∧ B9 < wD4_2.heap.size) ∧ Ext w wD4_2 ∧ Lay 3 wD4_2 B4 (.agg #[.slice sA ns sc, .slice iA m ic, .int .i64 fl]) ∧ Lay 3 wD4_2 B5 (.agg #[.slice tA nt tc, .slice jA r jc, .int .i64 fq]) ∧ Lay 3 wD4_2 B7 (.agg #[.slice sA ns sc, .slice LA m lc, .int .i64 fl]) ∧ Lay 3 wD4_2 B8 (.agg #[.slice tA nt tc, .slice MA r mc, .int .i64 fq]) ∧ Lay 8 wD4_2 B9 zeroVec ∧ Room 3 wD4_2 B4 ∧ Room 3 wD4_2 B5 ∧ Room 8 wD4_2 B9 ∧ SlS wD4_2 4 LA m (itc L) (fun i => i < wD4_2.heap.size ∧ i ≠ B9) ∧ Rd (fun _ => PX L) wD4_2 (fun _ => False) ∧ SlS wD4_2 4 MA r (itc M) (fun i => i < wD4_2.heap.size ∧ i ≠ B9) ∧ Rd (fun _ => PY M) wD4_2 (fun _ => False) ∧ wD4_2.cell? ⟨B7, 1, none⟩ = some (.slice LA m lc) ∧ wD4_2.cell? ⟨B7, 2, none⟩ = some (.int .i64 fl) ∧ wD4_2.cell? ⟨B8, 1, none⟩ = some (.slice MA r mc) ∧ wD4_2.cell? ⟨B8, 2, none⟩ = some (.int .i64 fq) ∧ Rd (PP (.agg #[c1, c2, c3, c4, c5, c6, c7, c8])) wD4_2 (fun i => i < wD4_2.heap.size ∧ i ≠ B9) ∧ Rd (QQ (.agg #[d1, d2, d3, d4, d5, d6, d7, d8])) wD4_2 (fun i => i < wD4_2.heap.size ∧ i ≠ B9))
        intro JD4_2
        apply joinK10 (F := fun (wD4_3 : World) (B9 : Nat) (c0 : Value) (c1 : Value) (c2 : Value) (c3 : Value) (c4 : Value) (c5 : Value) (c6 : Value) (c7 : Value) (c8 : Value) => wS4.heap.size ≤ wD4_3.heap.size ∧ (wS4.heap.size ≤ B9 ∧ B9 < wD4_3.heap.size) ∧ Ext w wD4_3 ∧ Lay 3 wD4_3 B4 (.agg #[.slice sA ns sc, .slice iA m ic, .int .i64 fl]) ∧ Lay 3 wD4_3 B5 (.agg #[.slice tA nt tc, .slice jA r jc, .int .i64 fq]) ∧ Lay 3 wD4_3 B7 (.agg #[.slice sA ns sc, .slice LA m lc, .int .i64 fl]) ∧ Lay 3 wD4_3 B8 (.agg #[.slice tA nt tc, .slice MA r mc, .int .i64 fq]) ∧ Lay 8 wD4_3 B9 zeroVec ∧ Room 3 wD4_3 B4 ∧ Room 3 wD4_3 B5 ∧ Room 8 wD4_3 B9 ∧ SlS wD4_3 4 LA m (itc L) (fun i => i < wD4_3.heap.size ∧ i ≠ B9) ∧ Rd (fun _ => PX L) wD4_3 (fun _ => False) ∧ SlS wD4_3 4 MA r (itc M) (fun i => i < wD4_3.heap.size ∧ i ≠ B9) ∧ Rd (fun _ => PY M) wD4_3 (fun _ => False) ∧ wD4_3.cell? ⟨B7, 1, none⟩ = some (.slice LA m lc) ∧ wD4_3.cell? ⟨B7, 2, none⟩ = some (.int .i64 fl) ∧ wD4_3.cell? ⟨B8, 1, none⟩ = some (.slice MA r mc) ∧ wD4_3.cell? ⟨B8, 2, none⟩ = some (.int .i64 fq) ∧ Rd (PP (.agg #[c1, c2, c3, c4, c5, c6, c7, c8])) wD4_3 (fun i => i < wD4_3.heap.size ∧ i ≠ B9))
        intro JD4_3
        · have hJQ := hJS
          obtain ⟨z46, E, LB4, LB5, LB7, LB8, RB4, RB5, HL, HPX, HM, HPY, cB7_1, cB7_2, cB8_1, cB8_2⟩ := hJQ
          have hq47 : wS4.heap.size ≤ wS4.drew.heap.size := Nat.le_refl _
          have z48 := (Ext.refl wS4).drew.size
          replace E := E.trans (Ext.refl wS4).drew
          replace LB4 := LB4.ext (Ext.refl wS4).drew
          replace LB5 := LB5.ext (Ext.refl wS4).drew
          replace LB7 := LB7.ext (Ext.refl wS4).drew
          replace LB8 := LB8.ext (Ext.refl wS4).drew
          replace RB4 := RB4.ext (Ext.refl wS4).drew
          replace RB5 := RB5.ext (Ext.refl wS4).drew
          replace HL := HL.ext (Ext.refl wS4).drew
          replace HPX := HPX.ext (Ext.refl wS4).drew
          replace HM := HM.ext (Ext.refl wS4).drew
          replace HPY := HPY.ext (Ext.refl wS4).drew
          replace cB7_1 := cell_ext ((Ext.refl wS4).drew) cB7_1
          replace cB7_2 := cell_ext ((Ext.refl wS4).drew) cB7_2
          replace cB8_1 := cell_ext ((Ext.refl wS4).drew) cB8_1
          replace cB8_2 := cell_ext ((Ext.refl wS4).drew) cB8_2
          have hHeld := And.intro LB4 (LB5)
          refine wpAnyH_take (i := 0) (oi := { dst := some 29, op := Go.Op.move (Go.Operand.tmp 0), type := 3, pos := "law.go:57", after := #[], guard := none }) (v := ?v49f1f1) rfl (by kernel_rfl) (by kernel_rfl) (by kernel_rfl) (fun _ _ _ h => h) (Or.inl ⟨by rfl, ?hy49f1f1⟩) hHeld ?rest49f1f1
          case hy49f1f1 => (intro w hSw; (try dsimp only at hSw); go_simp; (first | done | with_reducible rfl))
          try simp only [Act.put, List.setIfInBounds_toArray, List.set_cons_zero, List.set_cons_succ]
          refine wpAnyH_take (i := 1) (oi := { dst := some 30, op := Go.Op.load 89 (Go.Operand.tmp 4), type := 89, pos := "law.go:57", after := #[], guard := none }) (v := (.agg #[.slice sA ns sc, .slice iA m ic, .int .i64 fl])) rfl (by kernel_rfl) (by kernel_rfl) (by kernel_rfl) (fun _ _ _ h => h) (yieldP (by rfl) rfl rfl fun w' hx => hx.1) hHeld ?_
          try simp only [Act.put, List.setIfInBounds_toArray, List.set_cons_zero, List.set_cons_succ]
          refine wpAnyH_take (i := 4) (oi := { dst := some 33, op := Go.Op.load 89 (Go.Operand.tmp 5), type := 89, pos := "law.go:57", after := #[], guard := none }) (v := (.agg #[.slice tA nt tc, .slice jA r jc, .int .i64 fq])) rfl (by kernel_rfl) (by kernel_rfl) (by kernel_rfl) (fun _ _ _ h => h) (yieldP (by rfl) rfl rfl fun w' hx => hx.2) hHeld ?_
          try simp only [Act.put, List.setIfInBounds_toArray, List.set_cons_zero, List.set_cons_succ]
          refine wpAnyH_ready (rs := [2, 11]) (by kernel_rfl) (by simp) ?_
          refine AllReadyH.cons (o := rapl_4_2) rfl (fun K hK => ?_) (AllReadyH.cons (o := rapl_4_11) rfl (fun K hK => ?_) (AllReadyH.nil))
          · dsimp only [rapl_4_2]
            go_simp
            refine (co _ E).mono ?_
            rintro e w31 ⟨c0, c1, c2, c3, c4, c5, c6, c7, c8, rfl, hf, hq, x⟩
            have HV := hq.now
            clear hf hq
            have z52 := x.size
            replace E := E.trans x
            replace LB4 := LB4.ext x
            replace LB5 := LB5.ext x
            replace LB7 := LB7.ext x
            replace LB8 := LB8.ext x
            replace RB4 := RB4.ext x
            replace RB5 := RB5.ext x
            replace HL := HL.ext x
            replace HPX := HPX.ext x
            replace HM := HM.ext x
            replace HPY := HPY.ext x
            replace cB7_1 := cell_ext (x) cB7_1
            replace cB7_2 := cell_ext (x) cB7_2
            replace cB8_1 := cell_ext (x) cB8_1
            replace cB8_2 := cell_ext (x) cB8_2
            clear x
            clear hHeld
            have hHeld := And.intro LB4 (LB5)
            refine hK.out _ _ hHeld (fun _ => ?_)
            clear hK K
            try simp only [Act.put, List.setIfInBounds_toArray, List.set_cons_zero, List.set_cons_succ]
            refine wpAnyH_take (i := 3) (oi := { dst := some 32, op := Go.Op.field 52 (Go.Operand.tmp 31) 1, type := 34, pos := "law.go:57", after := #[{ on := 2, ground := Go.Ground.data }], guard := none }) (v := (.agg #[c1, c2, c3, c4, c5, c6, c7, c8])) rfl (by kernel_rfl) (by kernel_rfl) (by kernel_rfl) (fun _ _ _ h => h) (Or.inl ⟨by rfl, ?hy53f1f1⟩) hHeld ?rest53f1f1
            case hy53f1f1 => (intro w hSw; (try dsimp only at hSw); go_simp; try (first | rfl | (simp [Sem.run]; done)); (first | done | with_reducible rfl))
            try simp only [Act.put, List.setIfInBounds_toArray, List.set_cons_zero, List.set_cons_succ]
            refine wpAnyH_ready (rs := [5, 11]) (by kernel_rfl) (by simp) ?_
            refine AllReadyH.cons (o := rapl_4_5) rfl (fun K hK => ?_) (AllReadyH.cons (o := rapl_4_11) rfl (fun K hK => ?_) (AllReadyH.nil))
            · dsimp only [rapl_4_5]
              go_simp
              refine (cv _ E).mono ?_
              rintro e w34 ⟨d0, d1, d2, d3, d4, d5, d6, d7, d8, rfl, hf, hq, x⟩
              have HU := hq.now
              clear hf hq
              have z54 := x.size
              replace E := E.trans x
              replace LB4 := LB4.ext x
              replace LB5 := LB5.ext x
              replace LB7 := LB7.ext x
              replace LB8 := LB8.ext x
              replace RB4 := RB4.ext x
              replace RB5 := RB5.ext x
              replace HL := HL.ext x
              replace HPX := HPX.ext x
              replace HM := HM.ext x
              replace HPY := HPY.ext x
              replace cB7_1 := cell_ext (x) cB7_1
              replace cB7_2 := cell_ext (x) cB7_2
              replace cB8_1 := cell_ext (x) cB8_1
              replace cB8_2 := cell_ext (x) cB8_2
              replace HV := HV.ext x
              clear x
              clear hHeld
              have hHeld := And.intro LB4 (LB5)
              refine hK.out _ _ hHeld (fun _ => ?_)
              clear hK K
              try simp only [Act.put, List.setIfInBounds_toArray, List.set_cons_zero, List.set_cons_succ]
              refine wpAnyH_take (i := 6) (oi := { dst := some 35, op := Go.Op.field 52 (Go.Operand.tmp 34) 1, type := 34, pos := "law.go:57", after := #[{ on := 5, ground := Go.Ground.data }], guard := none }) (v := (.agg #[d1, d2, d3, d4, d5, d6, d7, d8])) rfl (by kernel_rfl) (by kernel_rfl) (by kernel_rfl) (fun _ _ _ h => h) (Or.inl ⟨by rfl, ?hy55f1f1⟩) hHeld ?rest55f1f1
              case hy55f1f1 => (intro w hSw; (try dsimp only at hSw); go_simp; try (first | rfl | (simp [Sem.run]; done)); (first | done | with_reducible rfl))
              try simp only [Act.put, List.setIfInBounds_toArray, List.set_cons_zero, List.set_cons_succ]
              refine wpAnyH_ready (rs := [7, 11]) (by kernel_rfl) (by simp) ?_
              refine AllReadyH.cons (o := rapl_4_7) rfl (fun K hK => ?_) (AllReadyH.cons (o := rapl_4_11) rfl (fun K hK => ?_) (AllReadyH.nil))
              · dsimp only [rapl_4_7]
                go_simp
                refine (ca _ _ _ HV.is HU.is).mono ?_
                rintro e w36 ⟨v, rfl, hq, x⟩
                have HP := hq.now
                clear hq
                have z56 := x.size
                replace E := E.trans x
                replace LB4 := LB4.ext x
                replace LB5 := LB5.ext x
                replace LB7 := LB7.ext x
                replace LB8 := LB8.ext x
                replace RB4 := RB4.ext x
                replace RB5 := RB5.ext x
                replace HL := HL.ext x
                replace HPX := HPX.ext x
                replace HM := HM.ext x
                replace HPY := HPY.ext x
                replace cB7_1 := cell_ext (x) cB7_1
                replace cB7_2 := cell_ext (x) cB7_2
                replace cB8_1 := cell_ext (x) cB8_1
                replace cB8_2 := cell_ext (x) cB8_2
                replace HV := HV.ext x
                replace HU := HU.ext x
                clear x
                clear hHeld
                have hHeld := And.intro LB4 (LB5)
                refine hK.out _ _ hHeld (fun _ => ?_)
                clear hK K
                try simp only [Act.put, List.setIfInBounds_toArray, List.set_cons_zero, List.set_cons_succ]
                refine wpAnyH_take (i := 8) (oi := { dst := some 28, op := Go.Op.move (Go.Operand.tmp 36), type := 60, pos := "law.go:57", after := #[{ on := 7, ground := Go.Ground.data }], guard := none }) (v := ?v57f1f1) rfl (by kernel_rfl) (by kernel_rfl) (by kernel_rfl) (fun _ _ _ h => h) (Or.inl ⟨by rfl, ?hy57f1f1⟩) hHeld ?rest57f1f1
                case hy57f1f1 => (intro w hSw; (try dsimp only at hSw); go_simp; (first | done | with_reducible rfl))
                try simp only [Act.put, List.setIfInBounds_toArray, List.set_cons_zero, List.set_cons_succ]
                refine wpAnyH_take (i := 9) (oi := { dst := some 37, op := Go.Op.extract (Go.Operand.tmp 28) 0, type := 34, pos := "law.go:57", after := #[{ on := 8, ground := Go.Ground.data }], guard := none }) (v := ?v58f1f1) rfl (by kernel_rfl) (by kernel_rfl) (by kernel_rfl) (fun _ _ _ h => h) (Or.inl ⟨by rfl, ?hy58f1f1⟩) hHeld ?rest58f1f1
                case hy58f1f1 => (intro w hSw; (try dsimp only at hSw); go_simp; (first | done | with_reducible rfl))
                try simp only [Act.put, List.setIfInBounds_toArray, List.set_cons_zero, List.set_cons_succ]
                refine wpAnyH_take (i := 10) (oi := { dst := some 38, op := Go.Op.extract (Go.Operand.tmp 28) 1, type := 59, pos := "law.go:57", after := #[{ on := 8, ground := Go.Ground.data }, { on := 12, ground := Go.Ground.gcOnly Go.Departure.lateStores }], guard := none }) (v := ?v59f1f1) rfl (by kernel_rfl) (by kernel_rfl) (by kernel_rfl) (fun _ _ _ h => h) (Or.inl ⟨by rfl, ?hy59f1f1⟩) hHeld ?rest59f1f1
                case hy59f1f1 => (intro w hSw; (try dsimp only at hSw); go_simp; (first | done | with_reducible rfl))
                try simp only [Act.put, List.setIfInBounds_toArray, List.set_cons_zero, List.set_cons_succ]
                refine wpAnyH_ready (rs := [11]) (by kernel_rfl) (by simp) ?_
                refine AllReadyH.cons (o := rapl_4_11) rfl (fun K hK => ?_) (AllReadyH.nil)
                dsimp only [rapl_4_11]
                rw [if_pos (by rfl)]
                refine allocV rfl ?_
                intro B9 w9 bB9 cB9 XB9 LB9 RB9
                have z60 := XB9.size
                replace E := E.trans XB9
                replace LB4 := LB4.ext XB9
                replace LB5 := LB5.ext XB9
                replace LB7 := LB7.ext XB9
                replace LB8 := LB8.ext XB9
                replace RB4 := RB4.ext XB9
                replace RB5 := RB5.ext XB9
                replace HL := HL.ext XB9
                replace HPX := HPX.ext XB9
                replace HM := HM.ext XB9
                replace HPY := HPY.ext XB9
                replace cB7_1 := cell_ext (XB9) cB7_1
                replace cB7_2 := cell_ext (XB9) cB7_2
                replace cB8_1 := cell_ext (XB9) cB8_1
                replace cB8_2 := cell_ext (XB9) cB8_2
                replace HV := HV.ext XB9
                replace HU := HU.ext XB9
                replace HP := HP.ext XB9
                clear hHeld
                have hHeld := And.intro LB4 (LB5)
                refine hK.out _ _ hHeld (fun _ => ?_)
                clear hK K
                try simp only [Act.put, List.setIfInBounds_toArray, List.set_cons_zero, List.set_cons_succ]
                refine JD4_1 w9 B9 c0 c1 c2 c3 c4 c5 c6 c7 c8 d0 d1 d2 d3 d4 d5 d6 d7 d8 v ?_
                exact ⟨by omega, ⟨by omega, by omega⟩, E, LB4, LB5, LB7, LB8, LB9, RB4, RB5, RB9, (HL.mono (fun i hi h => by ((try dsimp only [New] at h); omega))), HPX, (HM.mono (fun i hi h => by ((try dsimp only [New] at h); omega))), HPY, cB7_1, cB7_2, cB8_1, cB8_2, (HV.mono (fun i hi h => by ((try dsimp only [New] at h); omega))), (HU.mono (fun i hi h => by ((try dsimp only [New] at h); omega))), (HP.mono (fun i hi h => by ((try dsimp only [New] at h); omega)))⟩
              · dsimp only [rapl_4_11]
                rw [if_pos (by rfl)]
                refine allocV rfl ?_
                intro B9 w9 bB9 cB9 XB9 LB9 RB9
                have z61 := XB9.size
                replace E := E.trans XB9
                replace LB4 := LB4.ext XB9
                replace LB5 := LB5.ext XB9
                replace LB7 := LB7.ext XB9
                replace LB8 := LB8.ext XB9
                replace RB4 := RB4.ext XB9
                replace RB5 := RB5.ext XB9
                replace HL := HL.ext XB9
                replace HPX := HPX.ext XB9
                replace HM := HM.ext XB9
                replace HPY := HPY.ext XB9
                replace cB7_1 := cell_ext (XB9) cB7_1
                replace cB7_2 := cell_ext (XB9) cB7_2
                replace cB8_1 := cell_ext (XB9) cB8_1
                replace cB8_2 := cell_ext (XB9) cB8_2
                replace HV := HV.ext XB9
                replace HU := HU.ext XB9
                clear hHeld
                have hHeld := And.intro LB4 (LB5)
                refine hK.out _ _ hHeld (fun _ => ?_)
                clear hK K
                try simp only [Act.put, List.setIfInBounds_toArray, List.set_cons_zero, List.set_cons_succ]
                refine JD4_2 w9 B9 c0 c1 c2 c3 c4 c5 c6 c7 c8 d0 d1 d2 d3 d4 d5 d6 d7 d8 ?_
                exact ⟨by omega, ⟨by omega, by omega⟩, E, LB4, LB5, LB7, LB8, LB9, RB4, RB5, RB9, (HL.mono (fun i hi h => by ((try dsimp only [New] at h); omega))), HPX, (HM.mono (fun i hi h => by ((try dsimp only [New] at h); omega))), HPY, cB7_1, cB7_2, cB8_1, cB8_2, (HV.mono (fun i hi h => by ((try dsimp only [New] at h); omega))), (HU.mono (fun i hi h => by ((try dsimp only [New] at h); omega)))⟩
            · dsimp only [rapl_4_11]
              rw [if_pos (by rfl)]
              refine allocV rfl ?_
              intro B9 w9 bB9 cB9 XB9 LB9 RB9
              have z62 := XB9.size
              replace E := E.trans XB9
              replace LB4 := LB4.ext XB9
              replace LB5 := LB5.ext XB9
              replace LB7 := LB7.ext XB9
              replace LB8 := LB8.ext XB9
              replace RB4 := RB4.ext XB9
              replace RB5 := RB5.ext XB9
              replace HL := HL.ext XB9
              replace HPX := HPX.ext XB9
              replace HM := HM.ext XB9
              replace HPY := HPY.ext XB9
              replace cB7_1 := cell_ext (XB9) cB7_1
              replace cB7_2 := cell_ext (XB9) cB7_2
              replace cB8_1 := cell_ext (XB9) cB8_1
              replace cB8_2 := cell_ext (XB9) cB8_2
              replace HV := HV.ext XB9
              clear hHeld
              have hHeld := And.intro LB4 (LB5)
              refine hK.out _ _ hHeld (fun _ => ?_)
              clear hK K
              try simp only [Act.put, List.setIfInBounds_toArray, List.set_cons_zero, List.set_cons_succ]
              refine JD4_3 w9 B9 c0 c1 c2 c3 c4 c5 c6 c7 c8 ?_
              exact ⟨by omega, ⟨by omega, by omega⟩, E, LB4, LB5, LB7, LB8, LB9, RB4, RB5, RB9, (HL.mono (fun i hi h => by ((try dsimp only [New] at h); omega))), HPX, (HM.mono (fun i hi h => by ((try dsimp only [New] at h); omega))), HPY, cB7_1, cB7_2, cB8_1, cB8_2, (HV.mono (fun i hi h => by ((try dsimp only [New] at h); omega)))⟩
          · dsimp only [rapl_4_11]
            rw [if_pos (by rfl)]
            refine allocV rfl ?_
            intro B9 w9 bB9 cB9 XB9 LB9 RB9
            have z63 := XB9.size
            replace E := E.trans XB9
            replace LB4 := LB4.ext XB9
            replace LB5 := LB5.ext XB9
            replace LB7 := LB7.ext XB9
            replace LB8 := LB8.ext XB9
            replace RB4 := RB4.ext XB9
            replace RB5 := RB5.ext XB9
            replace HL := HL.ext XB9
            replace HPX := HPX.ext XB9
            replace HM := HM.ext XB9
            replace HPY := HPY.ext XB9
            replace cB7_1 := cell_ext (XB9) cB7_1
            replace cB7_2 := cell_ext (XB9) cB7_2
            replace cB8_1 := cell_ext (XB9) cB8_1
            replace cB8_2 := cell_ext (XB9) cB8_2
            clear hHeld
            have hHeld := And.intro LB4 (LB5)
            refine hK.out _ _ hHeld (fun _ => ?_)
            clear hK K
            try simp only [Act.put, List.setIfInBounds_toArray, List.set_cons_zero, List.set_cons_succ]
            refine wpAnyH_ready (rs := [2]) (by kernel_rfl) (by simp) ?_
            refine AllReadyH.cons (o := rapl_4_2) rfl (fun K hK => ?_) (AllReadyH.nil)
            dsimp only [rapl_4_2]
            go_simp
            refine (co _ E).mono ?_
            rintro e w31 ⟨c0, c1, c2, c3, c4, c5, c6, c7, c8, rfl, hf, hq, x⟩
            have HV := hq.now
            clear hf hq
            have z64 := x.size
            replace E := E.trans x
            replace LB4 := LB4.ext x
            replace LB5 := LB5.ext x
            replace LB7 := LB7.ext x
            replace LB8 := LB8.ext x
            replace RB4 := RB4.ext x
            replace RB5 := RB5.ext x
            replace HL := HL.ext x
            replace HPX := HPX.ext x
            replace HM := HM.ext x
            replace HPY := HPY.ext x
            replace cB7_1 := cell_ext (x) cB7_1
            replace cB7_2 := cell_ext (x) cB7_2
            replace cB8_1 := cell_ext (x) cB8_1
            replace cB8_2 := cell_ext (x) cB8_2
            replace LB9 := LB9.ext x
            replace RB9 := RB9.ext x
            clear x
            clear hHeld
            have hHeld := And.intro LB4 (LB5)
            refine hK.out _ _ hHeld (fun _ => ?_)
            clear hK K
            try simp only [Act.put, List.setIfInBounds_toArray, List.set_cons_zero, List.set_cons_succ]
            refine wpAnyH_take (i := 3) (oi := { dst := some 32, op := Go.Op.field 52 (Go.Operand.tmp 31) 1, type := 34, pos := "law.go:57", after := #[{ on := 2, ground := Go.Ground.data }], guard := none }) (v := (.agg #[c1, c2, c3, c4, c5, c6, c7, c8])) rfl (by kernel_rfl) (by kernel_rfl) (by kernel_rfl) (fun _ _ _ h => h) (Or.inl ⟨by rfl, ?hy65f1f1⟩) hHeld ?rest65f1f1
            case hy65f1f1 => (intro w hSw; (try dsimp only at hSw); go_simp; try (first | rfl | (simp [Sem.run]; done)); (first | done | with_reducible rfl))
            try simp only [Act.put, List.setIfInBounds_toArray, List.set_cons_zero, List.set_cons_succ]
            refine JD4_3 w31 B9 c0 c1 c2 c3 c4 c5 c6 c7 c8 ?_
            exact ⟨by omega, ⟨by omega, by omega⟩, E, LB4, LB5, LB7, LB8, LB9, RB4, RB5, RB9, (HL.mono (fun i hi h => by ((try dsimp only [New] at h); omega))), HPX, (HM.mono (fun i hi h => by ((try dsimp only [New] at h); omega))), HPY, cB7_1, cB7_2, cB8_1, cB8_2, (HV.mono (fun i hi h => by ((try dsimp only [New] at h); omega)))⟩
        · intro wD4_3 B9 c0 c1 c2 c3 c4 c5 c6 c7 c8 hJ
          obtain ⟨z66, ⟨bB9, cB9⟩, E, LB4, LB5, LB7, LB8, LB9, RB4, RB5, RB9, HL, HPX, HM, HPY, cB7_1, cB7_2, cB8_1, cB8_2, HV⟩ := hJ
          try dsimp only
          have hHeld := And.intro LB4 (LB5)
          refine wpAnyH_ready (rs := [5]) (by kernel_rfl) (by simp) ?_
          refine AllReadyH.cons (o := rapl_4_5) rfl (fun K hK => ?_) (AllReadyH.nil)
          dsimp only [rapl_4_5]
          go_simp
          refine (cv _ E).mono ?_
          rintro e w34 ⟨d0, d1, d2, d3, d4, d5, d6, d7, d8, rfl, hf, hq, x⟩
          have HU := hq.now
          clear hf hq
          have z67 := x.size
          replace E := E.trans x
          replace LB4 := LB4.ext x
          replace LB5 := LB5.ext x
          replace LB7 := LB7.ext x
          replace LB8 := LB8.ext x
          replace LB9 := LB9.ext x
          replace RB4 := RB4.ext x
          replace RB5 := RB5.ext x
          replace RB9 := RB9.ext x
          replace HL := HL.ext x
          replace HPX := HPX.ext x
          replace HM := HM.ext x
          replace HPY := HPY.ext x
          replace cB7_1 := cell_ext (x) cB7_1
          replace cB7_2 := cell_ext (x) cB7_2
          replace cB8_1 := cell_ext (x) cB8_1
          replace cB8_2 := cell_ext (x) cB8_2
          replace HV := HV.ext x
          clear x
          clear hHeld
          have hHeld := And.intro LB4 (LB5)
          refine hK.out _ _ hHeld (fun _ => ?_)
          clear hK K
          try simp only [Act.put, List.setIfInBounds_toArray, List.set_cons_zero, List.set_cons_succ]
          refine wpAnyH_take (i := 6) (oi := { dst := some 35, op := Go.Op.field 52 (Go.Operand.tmp 34) 1, type := 34, pos := "law.go:57", after := #[{ on := 5, ground := Go.Ground.data }], guard := none }) (v := (.agg #[d1, d2, d3, d4, d5, d6, d7, d8])) rfl (by kernel_rfl) (by kernel_rfl) (by kernel_rfl) (fun _ _ _ h => h) (Or.inl ⟨by rfl, ?hy68f1f1⟩) hHeld ?rest68f1f1
          case hy68f1f1 => (intro w hSw; (try dsimp only at hSw); go_simp; try (first | rfl | (simp [Sem.run]; done)); (first | done | with_reducible rfl))
          try simp only [Act.put, List.setIfInBounds_toArray, List.set_cons_zero, List.set_cons_succ]
          refine JD4_2 w34 B9 c0 c1 c2 c3 c4 c5 c6 c7 c8 d0 d1 d2 d3 d4 d5 d6 d7 d8 ?_
          exact ⟨by omega, ⟨by omega, by omega⟩, E, LB4, LB5, LB7, LB8, LB9, RB4, RB5, RB9, (HL.mono (fun i hi h => by ((try dsimp only [New] at h); omega))), HPX, (HM.mono (fun i hi h => by ((try dsimp only [New] at h); omega))), HPY, cB7_1, cB7_2, cB8_1, cB8_2, (HV.mono (fun i hi h => by ((try dsimp only [New] at h); omega))), (HU.mono (fun i hi h => by ((try dsimp only [New] at h); omega)))⟩
        · intro wD4_2 B9 c0 c1 c2 c3 c4 c5 c6 c7 c8 d0 d1 d2 d3 d4 d5 d6 d7 d8 hJ
          obtain ⟨z69, ⟨bB9, cB9⟩, E, LB4, LB5, LB7, LB8, LB9, RB4, RB5, RB9, HL, HPX, HM, HPY, cB7_1, cB7_2, cB8_1, cB8_2, HV, HU⟩ := hJ
          try dsimp only
          have hHeld := And.intro LB4 (LB5)
          refine wpAnyH_ready (rs := [7]) (by kernel_rfl) (by simp) ?_
          refine AllReadyH.cons (o := rapl_4_7) rfl (fun K hK => ?_) (AllReadyH.nil)
          dsimp only [rapl_4_7]
          go_simp
          refine (ca _ _ _ HV.is HU.is).mono ?_
          rintro e w36 ⟨v, rfl, hq, x⟩
          have HP := hq.now
          clear hq
          have z70 := x.size
          replace E := E.trans x
          replace LB4 := LB4.ext x
          replace LB5 := LB5.ext x
          replace LB7 := LB7.ext x
          replace LB8 := LB8.ext x
          replace LB9 := LB9.ext x
          replace RB4 := RB4.ext x
          replace RB5 := RB5.ext x
          replace RB9 := RB9.ext x
          replace HL := HL.ext x
          replace HPX := HPX.ext x
          replace HM := HM.ext x
          replace HPY := HPY.ext x
          replace cB7_1 := cell_ext (x) cB7_1
          replace cB7_2 := cell_ext (x) cB7_2
          replace cB8_1 := cell_ext (x) cB8_1
          replace cB8_2 := cell_ext (x) cB8_2
          replace HV := HV.ext x
          replace HU := HU.ext x
          clear x
          clear hHeld
          have hHeld := And.intro LB4 (LB5)
          refine hK.out _ _ hHeld (fun _ => ?_)
          clear hK K
          try simp only [Act.put, List.setIfInBounds_toArray, List.set_cons_zero, List.set_cons_succ]
          refine wpAnyH_take (i := 8) (oi := { dst := some 28, op := Go.Op.move (Go.Operand.tmp 36), type := 60, pos := "law.go:57", after := #[{ on := 7, ground := Go.Ground.data }], guard := none }) (v := ?v71f1f1) rfl (by kernel_rfl) (by kernel_rfl) (by kernel_rfl) (fun _ _ _ h => h) (Or.inl ⟨by rfl, ?hy71f1f1⟩) hHeld ?rest71f1f1
          case hy71f1f1 => (intro w hSw; (try dsimp only at hSw); go_simp; (first | done | with_reducible rfl))
          try simp only [Act.put, List.setIfInBounds_toArray, List.set_cons_zero, List.set_cons_succ]
          refine wpAnyH_take (i := 9) (oi := { dst := some 37, op := Go.Op.extract (Go.Operand.tmp 28) 0, type := 34, pos := "law.go:57", after := #[{ on := 8, ground := Go.Ground.data }], guard := none }) (v := ?v72f1f1) rfl (by kernel_rfl) (by kernel_rfl) (by kernel_rfl) (fun _ _ _ h => h) (Or.inl ⟨by rfl, ?hy72f1f1⟩) hHeld ?rest72f1f1
          case hy72f1f1 => (intro w hSw; (try dsimp only at hSw); go_simp; (first | done | with_reducible rfl))
          try simp only [Act.put, List.setIfInBounds_toArray, List.set_cons_zero, List.set_cons_succ]
          refine wpAnyH_take (i := 10) (oi := { dst := some 38, op := Go.Op.extract (Go.Operand.tmp 28) 1, type := 59, pos := "law.go:57", after := #[{ on := 8, ground := Go.Ground.data }, { on := 12, ground := Go.Ground.gcOnly Go.Departure.lateStores }], guard := none }) (v := ?v73f1f1) rfl (by kernel_rfl) (by kernel_rfl) (by kernel_rfl) (fun _ _ _ h => h) (Or.inl ⟨by rfl, ?hy73f1f1⟩) hHeld ?rest73f1f1
          case hy73f1f1 => (intro w hSw; (try dsimp only at hSw); go_simp; (first | done | with_reducible rfl))
          try simp only [Act.put, List.setIfInBounds_toArray, List.set_cons_zero, List.set_cons_succ]
          refine JD4_1 w36 B9 c0 c1 c2 c3 c4 c5 c6 c7 c8 d0 d1 d2 d3 d4 d5 d6 d7 d8 v ?_
          exact ⟨by omega, ⟨by omega, by omega⟩, E, LB4, LB5, LB7, LB8, LB9, RB4, RB5, RB9, (HL.mono (fun i hi h => by ((try dsimp only [New] at h); omega))), HPX, (HM.mono (fun i hi h => by ((try dsimp only [New] at h); omega))), HPY, cB7_1, cB7_2, cB8_1, cB8_2, (HV.mono (fun i hi h => by ((try dsimp only [New] at h); omega))), (HU.mono (fun i hi h => by ((try dsimp only [New] at h); omega))), (HP.mono (fun i hi h => by ((try dsimp only [New] at h); omega)))⟩
        · intro wD4_1 B9 c0 c1 c2 c3 c4 c5 c6 c7 c8 d0 d1 d2 d3 d4 d5 d6 d7 d8 v hJ
          obtain ⟨z74, ⟨bB9, cB9⟩, E, LB4, LB5, LB7, LB8, LB9, RB4, RB5, RB9, HL, HPX, HM, HPY, cB7_1, cB7_2, cB8_1, cB8_2, HV, HU, HP⟩ := hJ
          try dsimp only
          have hHeld := And.intro LB4 (LB5)
          refine wpAnyH_ready (rs := [12]) (by kernel_rfl) (by simp) ?_
          refine AllReadyH.cons (o := rapl_4_12) rfl (fun K hK => ?_) (AllReadyH.nil)
          dsimp only [rapl_4_12]
          rw [if_pos (by rfl)]
          have hRl := (RB9).lt (Nat.zero_lt_succ _)
          refine storeV (by rfl) (by rfl) (v := v) (by rfl) RB9 HP.is.flat ?_
          clear LB9
          intro s75 G75 LB9 RQ
          have z76 := G75.size
          replace E := grown_ext E G75 (by omega)
          replace LB4 := LB4.grown G75 (by omega)
          replace LB5 := LB5.grown G75 (by omega)
          replace LB7 := LB7.grown G75 (by omega)
          replace LB8 := LB8.grown G75 (by omega)
          replace RB4 := RB4.grown G75 (by omega)
          replace RB5 := RB5.grown G75 (by omega)
          replace HL := HL.grown G75 (by first | omega | (dsimp only [New]; omega))
          replace HPX := HPX.grown G75 (fun h => h)
          replace HM := HM.grown G75 (by first | omega | (dsimp only [New]; omega))
          replace HPY := HPY.grown G75 (fun h => h)
          replace cB7_1 := cell_grown (G75) cB7_1 (by show B7 ≠ _; omega)
          replace cB7_2 := cell_grown (G75) cB7_2 (by show B7 ≠ _; omega)
          replace cB8_1 := cell_grown (G75) cB8_1 (by show B8 ≠ _; omega)
          replace cB8_2 := cell_grown (G75) cB8_2 (by show B8 ≠ _; omega)
          replace HV := HV.grown G75 (by first | omega | (dsimp only [New]; omega))
          replace HU := HU.grown G75 (by first | omega | (dsimp only [New]; omega))
          replace HP := HP.grown G75 (by first | omega | (dsimp only [New]; omega))
          clear RB9
          have RB9 := RQ
          clear RQ hRl G75
          clear hHeld
          have hHeld := And.intro LB4 (LB5)
          refine hK.out _ _ hHeld (fun _ => ?_)
          clear hK K
          try simp only [Act.put]
          refine wpAnyH_take (i := 13) (oi := { dst := some 10, op := Go.Op.assign (Go.Operand.tmp 38), type := 59, pos := "law.go:57", after := #[{ on := 10, ground := Go.Ground.data }, { on := 12, ground := Go.Ground.chain }, { on := 0, ground := Go.Ground.phase }, { on := 1, ground := Go.Ground.phase }, { on := 2, ground := Go.Ground.phase }, { on := 3, ground := Go.Ground.phase }, { on := 4, ground := Go.Ground.phase }, { on := 5, ground := Go.Ground.phase }, { on := 6, ground := Go.Ground.phase }, { on := 7, ground := Go.Ground.phase }, { on := 8, ground := Go.Ground.phase }, { on := 9, ground := Go.Ground.phase }, { on := 10, ground := Go.Ground.phase }, { on := 11, ground := Go.Ground.phase }, { on := 12, ground := Go.Ground.phase }], guard := none }) (v := ?v77f1f1) rfl (by kernel_rfl) (by kernel_rfl) (by kernel_rfl) (fun _ _ _ h => h) (Or.inl ⟨by rfl, ?hy77f1f1⟩) hHeld ?rest77f1f1
          case hy77f1f1 => (intro w hSw; (try dsimp only at hSw); go_simp; (first | done | with_reducible rfl))
          try simp only [Act.put, List.setIfInBounds_toArray, List.set_cons_zero, List.set_cons_succ]
          refine wpAnyH_done (by kernel_rfl) ?_ _
          refine JD4_0 s75 B9 c0 c1 c2 c3 c4 c5 c6 c7 c8 d0 d1 d2 d3 d4 d5 d6 d7 d8 v ?_
          exact ⟨by omega, ⟨by omega, by omega⟩, E, LB4, LB5, LB7, LB8, LB9, RB4, RB5, (HL.mono (fun i hi h => by ((try dsimp only [New] at h); omega))), HPX, (HM.mono (fun i hi h => by ((try dsimp only [New] at h); omega))), HPY, cB7_1, cB7_2, cB8_1, cB8_2, (HP.mono (fun i hi h => by ((try dsimp only [New] at h); omega)))⟩
        · intro wD4_0 B9 c0 c1 c2 c3 c4 c5 c6 c7 c8 d0 d1 d2 d3 d4 d5 d6 d7 d8 v hJ
          obtain ⟨z78, ⟨bB9, cB9⟩, E, LB4, LB5, LB7, LB8, LB9, RB4, RB5, HL, HPX, HM, HPY, cB7_1, cB7_2, cB8_1, cB8_2, HP⟩ := hJ
          try dsimp only
          go_wp2_with fail
          refine (cr LA lc L MA mc M _ _ _ HPX.is HPY.is HL HM).mono ?_
          rintro e w49 ⟨R, cR, rfl, hq, x⟩
          have SR := SlS.all hq.is
          clear hq
          have z79 := x.size
          replace E := E.trans x
          replace LB4 := LB4.ext x
          replace LB5 := LB5.ext x
          replace LB7 := LB7.ext x
          replace LB8 := LB8.ext x
          replace LB9 := LB9.ext x
          replace RB4 := RB4.ext x
          replace RB5 := RB5.ext x
          replace HL := HL.ext x
          replace HPX := HPX.ext x
          replace HM := HM.ext x
          replace HPY := HPY.ext x
          replace cB7_1 := cell_ext (x) cB7_1
          replace cB7_2 := cell_ext (x) cB7_2
          replace cB8_1 := cell_ext (x) cB8_1
          replace cB8_2 := cell_ext (x) cB8_2
          replace HP := HP.ext x
          clear x
          go_wp2_with (refine loadsV (B := B9) (by rfl) rfl rfl LB9 ?_)
          refine (cpk v _ HP.is).mono ?_
          rintro e w54 ⟨q, rfl, hq, x⟩
          cases eb
          · have BQ := hq _ HP
            clear hq
            have z80 := x.size
            replace E := E.trans x
            replace LB4 := LB4.ext x
            replace LB5 := LB5.ext x
            replace LB7 := LB7.ext x
            replace LB8 := LB8.ext x
            replace LB9 := LB9.ext x
            replace RB4 := RB4.ext x
            replace RB5 := RB5.ext x
            replace HL := HL.ext x
            replace HPX := HPX.ext x
            replace HM := HM.ext x
            replace HPY := HPY.ext x
            replace cB7_1 := cell_ext (x) cB7_1
            replace cB7_2 := cell_ext (x) cB7_2
            replace cB8_1 := cell_ext (x) cB8_1
            replace cB8_2 := cell_ext (x) cB8_2
            replace HP := HP.ext x
            replace SR := SR.ext x
            clear x
            have TB13 : True := trivial
            have TG82 : True := trivial
            go_wp2_with (first | (clear TB13; refine allocsB rfl rfl ?_; intro B13 w13 bB13 cB13 XB13 LB13 RB13; have z81 := XB13.size; replace E := E.trans XB13; replace LB4 := LB4.ext XB13; replace LB5 := LB5.ext XB13; replace LB7 := LB7.ext XB13; replace LB8 := LB8.ext XB13; replace LB9 := LB9.ext XB13; replace RB4 := RB4.ext XB13; replace RB5 := RB5.ext XB13; replace HL := HL.ext XB13; replace HPX := HPX.ext XB13; replace HM := HM.ext XB13; replace HPY := HPY.ext XB13; replace cB7_1 := cell_ext (XB13) cB7_1; replace cB7_2 := cell_ext (XB13) cB7_2; replace cB8_1 := cell_ext (XB13) cB8_1; replace cB8_2 := cell_ext (XB13) cB8_2; replace HP := HP.ext XB13; replace SR := SR.ext XB13; replace BQ := BQ.ext XB13) | (clear TG82; have hRl := (RB13).lt (Nat.zero_lt_succ _); refine storesB (B := B13) rfl rfl rfl (v := q) rfl RB13 BQ.is.flat ?_; clear LB13; intro s82 G82 LB13 RQ; have z83 := G82.size; replace E := grown_ext E G82 (by omega); replace LB4 := LB4.grown G82 (by omega); replace LB5 := LB5.grown G82 (by omega); replace LB7 := LB7.grown G82 (by omega); replace LB8 := LB8.grown G82 (by omega); replace LB9 := LB9.grown G82 (by omega); replace RB4 := RB4.grown G82 (by omega); replace RB5 := RB5.grown G82 (by omega); replace HL := HL.grown G82 (by first | omega | (dsimp only [New]; omega)); replace HPX := HPX.grown G82 (fun h => h); replace HM := HM.grown G82 (by first | omega | (dsimp only [New]; omega)); replace HPY := HPY.grown G82 (fun h => h); replace cB7_1 := cell_grown (G82) cB7_1 (by show B7 ≠ _; omega); replace cB7_2 := cell_grown (G82) cB7_2 (by show B7 ≠ _; omega); replace cB8_1 := cell_grown (G82) cB8_1 (by show B8 ≠ _; omega); replace cB8_2 := cell_grown (G82) cB8_2 (by show B8 ≠ _; omega); replace HP := HP.grown G82 (by first | omega | (dsimp only [New]; omega)); replace SR := SR.grown G82 (by first | omega | (dsimp only [New]; omega)); replace BQ := BQ.grown G82 (by first | omega | (dsimp only [New]; omega)); clear RB13; have RB13 := RQ; clear RQ hRl; clear RB13) | (refine loadsB (B := B13) (by rfl) rfl rfl LB13 ?_))
            clear LB13
            refine (cun q _ BQ.is).mono ?_
            rintro e w67 ⟨Q, cQ, rfl, hq, x⟩
            have SQ := SlS.all hq
            clear hq
            have z84 := x.size
            replace E := E.trans x
            replace LB4 := LB4.ext x
            replace LB5 := LB5.ext x
            replace LB7 := LB7.ext x
            replace LB8 := LB8.ext x
            replace LB9 := LB9.ext x
            replace RB4 := RB4.ext x
            replace RB5 := RB5.ext x
            replace HL := HL.ext x
            replace HPX := HPX.ext x
            replace HM := HM.ext x
            replace HPY := HPY.ext x
            replace cB7_1 := cell_ext (x) cB7_1
            replace cB7_2 := cell_ext (x) cB7_2
            replace cB8_1 := cell_ext (x) cB8_1
            replace cB8_2 := cell_ext (x) cB8_2
            replace HP := HP.ext x
            replace SR := SR.ext x
            replace BQ := BQ.ext x
            clear x
            go_wp2_with fail
            refine (cbo Q R cQ cR _ SQ.is SR.is).mono ?_
            rintro e w69 ⟨rfl, x⟩
            have z85 := x.size
            replace E := E.trans x
            replace LB4 := LB4.ext x
            replace LB5 := LB5.ext x
            replace LB7 := LB7.ext x
            replace LB8 := LB8.ext x
            replace LB9 := LB9.ext x
            replace RB4 := RB4.ext x
            replace RB5 := RB5.ext x
            replace HL := HL.ext x
            replace HPX := HPX.ext x
            replace HM := HM.ext x
            replace HPY := HPY.ext x
            replace cB7_1 := cell_ext (x) cB7_1
            replace cB7_2 := cell_ext (x) cB7_2
            replace cB8_1 := cell_ext (x) cB8_1
            replace cB8_2 := cell_ext (x) cB8_2
            replace HP := HP.ext x
            replace SR := SR.ext x
            replace BQ := BQ.ext x
            replace SQ := SQ.ext x
            clear x
            go_wp2_with fail
            refine (rawake_any _).mono ?_
            rintro e w79 ⟨rfl, x⟩
            have z86 := x.size
            replace E := E.trans x
            replace LB4 := LB4.ext x
            replace LB5 := LB5.ext x
            replace LB7 := LB7.ext x
            replace LB8 := LB8.ext x
            replace LB9 := LB9.ext x
            replace RB4 := RB4.ext x
            replace RB5 := RB5.ext x
            replace HL := HL.ext x
            replace HPX := HPX.ext x
            replace HM := HM.ext x
            replace HPY := HPY.ext x
            replace cB7_1 := cell_ext (x) cB7_1
            replace cB7_2 := cell_ext (x) cB7_2
            replace cB8_1 := cell_ext (x) cB8_1
            replace cB8_2 := cell_ext (x) cB8_2
            replace HP := HP.ext x
            replace SR := SR.ext x
            replace BQ := BQ.ext x
            replace SQ := SQ.ext x
            clear x
            go_wp2_with fail
            go_ret
            exact ⟨rfl, E⟩
          · have BQ := hq _ HP
            clear hq
            have z80 := x.size
            replace E := E.trans x
            replace LB4 := LB4.ext x
            replace LB5 := LB5.ext x
            replace LB7 := LB7.ext x
            replace LB8 := LB8.ext x
            replace LB9 := LB9.ext x
            replace RB4 := RB4.ext x
            replace RB5 := RB5.ext x
            replace HL := HL.ext x
            replace HPX := HPX.ext x
            replace HM := HM.ext x
            replace HPY := HPY.ext x
            replace cB7_1 := cell_ext (x) cB7_1
            replace cB7_2 := cell_ext (x) cB7_2
            replace cB8_1 := cell_ext (x) cB8_1
            replace cB8_2 := cell_ext (x) cB8_2
            replace HP := HP.ext x
            replace SR := SR.ext x
            clear x
            have TB13 : True := trivial
            have TG82 : True := trivial
            go_wp2_with (first | (clear TB13; refine allocsB rfl rfl ?_; intro B13 w13 bB13 cB13 XB13 LB13 RB13; have z81 := XB13.size; replace E := E.trans XB13; replace LB4 := LB4.ext XB13; replace LB5 := LB5.ext XB13; replace LB7 := LB7.ext XB13; replace LB8 := LB8.ext XB13; replace LB9 := LB9.ext XB13; replace RB4 := RB4.ext XB13; replace RB5 := RB5.ext XB13; replace HL := HL.ext XB13; replace HPX := HPX.ext XB13; replace HM := HM.ext XB13; replace HPY := HPY.ext XB13; replace cB7_1 := cell_ext (XB13) cB7_1; replace cB7_2 := cell_ext (XB13) cB7_2; replace cB8_1 := cell_ext (XB13) cB8_1; replace cB8_2 := cell_ext (XB13) cB8_2; replace HP := HP.ext XB13; replace SR := SR.ext XB13; replace BQ := BQ.ext XB13) | (clear TG82; have hRl := (RB13).lt (Nat.zero_lt_succ _); refine storesB (B := B13) rfl rfl rfl (v := q) rfl RB13 BQ.is.flat ?_; clear LB13; intro s82 G82 LB13 RQ; have z83 := G82.size; replace E := grown_ext E G82 (by omega); replace LB4 := LB4.grown G82 (by omega); replace LB5 := LB5.grown G82 (by omega); replace LB7 := LB7.grown G82 (by omega); replace LB8 := LB8.grown G82 (by omega); replace LB9 := LB9.grown G82 (by omega); replace RB4 := RB4.grown G82 (by omega); replace RB5 := RB5.grown G82 (by omega); replace HL := HL.grown G82 (by first | omega | (dsimp only [New]; omega)); replace HPX := HPX.grown G82 (fun h => h); replace HM := HM.grown G82 (by first | omega | (dsimp only [New]; omega)); replace HPY := HPY.grown G82 (fun h => h); replace cB7_1 := cell_grown (G82) cB7_1 (by show B7 ≠ _; omega); replace cB7_2 := cell_grown (G82) cB7_2 (by show B7 ≠ _; omega); replace cB8_1 := cell_grown (G82) cB8_1 (by show B8 ≠ _; omega); replace cB8_2 := cell_grown (G82) cB8_2 (by show B8 ≠ _; omega); replace HP := HP.grown G82 (by first | omega | (dsimp only [New]; omega)); replace SR := SR.grown G82 (by first | omega | (dsimp only [New]; omega)); replace BQ := BQ.grown G82 (by first | omega | (dsimp only [New]; omega)); clear RB13; have RB13 := RQ; clear RQ hRl; clear RB13) | (refine loadsB (B := B13) (by rfl) rfl rfl LB13 ?_))
            refine (cun q _ BQ.is).mono ?_
            rintro e w67 ⟨Q, cQ, rfl, hq, x⟩
            have SQ := SlS.all hq
            clear hq
            have z84 := x.size
            replace E := E.trans x
            replace LB4 := LB4.ext x
            replace LB5 := LB5.ext x
            replace LB7 := LB7.ext x
            replace LB8 := LB8.ext x
            replace LB9 := LB9.ext x
            replace RB4 := RB4.ext x
            replace RB5 := RB5.ext x
            replace HL := HL.ext x
            replace HPX := HPX.ext x
            replace HM := HM.ext x
            replace HPY := HPY.ext x
            replace cB7_1 := cell_ext (x) cB7_1
            replace cB7_2 := cell_ext (x) cB7_2
            replace cB8_1 := cell_ext (x) cB8_1
            replace cB8_2 := cell_ext (x) cB8_2
            replace HP := HP.ext x
            replace SR := SR.ext x
            replace BQ := BQ.ext x
            replace LB13 := LB13.ext x
            clear x
            go_wp2_with fail
            refine (cbo Q R cQ cR _ SQ.is SR.is).mono ?_
            rintro e w69 ⟨rfl, x⟩
            have z85 := x.size
            replace E := E.trans x
            replace LB4 := LB4.ext x
            replace LB5 := LB5.ext x
            replace LB7 := LB7.ext x
            replace LB8 := LB8.ext x
            replace LB9 := LB9.ext x
            replace RB4 := RB4.ext x
            replace RB5 := RB5.ext x
            replace HL := HL.ext x
            replace HPX := HPX.ext x
            replace HM := HM.ext x
            replace HPY := HPY.ext x
            replace cB7_1 := cell_ext (x) cB7_1
            replace cB7_2 := cell_ext (x) cB7_2
            replace cB8_1 := cell_ext (x) cB8_1
            replace cB8_2 := cell_ext (x) cB8_2
            replace HP := HP.ext x
            replace SR := SR.ext x
            replace BQ := BQ.ext x
            replace LB13 := LB13.ext x
            replace SQ := SQ.ext x
            clear x
            go_wp2_with (refine loadgB (B := B13) (by rfl) rfl rfl LB13 ?_)
            clear LB13
            refine (ctd q _ BQ.is).mono ?_
            rintro e w75 ⟨rfl, x⟩
            have z86 := x.size
            replace E := E.trans x
            replace LB4 := LB4.ext x
            replace LB5 := LB5.ext x
            replace LB7 := LB7.ext x
            replace LB8 := LB8.ext x
            replace LB9 := LB9.ext x
            replace RB4 := RB4.ext x
            replace RB5 := RB5.ext x
            replace HL := HL.ext x
            replace HPX := HPX.ext x
            replace HM := HM.ext x
            replace HPY := HPY.ext x
            replace cB7_1 := cell_ext (x) cB7_1
            replace cB7_2 := cell_ext (x) cB7_2
            replace cB8_1 := cell_ext (x) cB8_1
            replace cB8_2 := cell_ext (x) cB8_2
            replace HP := HP.ext x
            replace SR := SR.ext x
            replace BQ := BQ.ext x
            replace SQ := SQ.ext x
            clear x
            go_wp2_with fail
            refine (rawake_any _).mono ?_
            rintro e w79 ⟨rfl, x⟩
            have z87 := x.size
            replace E := E.trans x
            replace LB4 := LB4.ext x
            replace LB5 := LB5.ext x
            replace LB7 := LB7.ext x
            replace LB8 := LB8.ext x
            replace LB9 := LB9.ext x
            replace RB4 := RB4.ext x
            replace RB5 := RB5.ext x
            replace HL := HL.ext x
            replace HPX := HPX.ext x
            replace HM := HM.ext x
            replace HPY := HPY.ext x
            replace cB7_1 := cell_ext (x) cB7_1
            replace cB7_2 := cell_ext (x) cB7_2
            replace cB8_1 := cell_ext (x) cB8_1
            replace cB8_2 := cell_ext (x) cB8_2
            replace HP := HP.ext x
            replace SR := SR.ext x
            replace BQ := BQ.ext x
            replace SQ := SQ.ext x
            clear x
            go_wp2_with fail
            go_ret
            exact ⟨rfl, E⟩
end Go.Proofs.Ytdfhefnjoekgbaa
