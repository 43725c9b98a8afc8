/- OrderCompares. -/
import Derived.Test.YtidnikndjhfgaaaTu
namespace Go.Proofs.Ytidnikndjhfgaaa
open Go.ChangeShapes Go.WideShapes Go.RowKit Bv Fl
set_option maxHeartbeats 2000000
set_option maxRecDepth 100000
theorem joinK0 {F KA : World → Prop} {G : Prop} (h : (∀ w, F w → KA w) → G) (t : ∀ w, F w → KA w) : G := h t
theorem joinK2 {A0 A1 : Type} {F KA : World → A0 → A1 → Prop} {G : Prop} (h : (∀ w a0 a1, F w a0 a1 → KA w a0 a1) → G) (t : ∀ w a0 a1, F w a0 a1 → KA w a0 a1) : G := h t
theorem joinK9 {A0 A1 A2 A3 A4 A5 A6 A7 A8 : Type} {F KA : World → A0 → A1 → A2 → A3 → A4 → A5 → A6 → A7 → A8 → Prop} {G : Prop} (h : (∀ w a0 a1 a2 a3 a4 a5 a6 a7 a8, F w a0 a1 a2 a3 a4 a5 a6 a7 a8 → KA w a0 a1 a2 a3 a4 a5 a6 a7 a8) → G) (t : ∀ w a0 a1 a2 a3 a4 a5 a6 a7 a8, F w a0 a1 a2 a3 a4 a5 a6 a7 a8 → KA w a0 a1 a2 a3 a4 a5 a6 a7 a8) : G := h t
theorem joinK10 {A0 A1 A2 A3 A4 A5 A6 A7 A8 A9 : Type} {F KA : World → A0 → A1 → A2 → A3 → A4 → A5 → A6 → A7 → A8 → A9 → Prop} {G : Prop} (h : (∀ w a0 a1 a2 a3 a4 a5 a6 a7 a8 a9, F w a0 a1 a2 a3 a4 a5 a6 a7 a8 a9 → KA w a0 a1 a2 a3 a4 a5 a6 a7 a8 a9) → G) (t : ∀ w a0 a1 a2 a3 a4 a5 a6 a7 a8 a9, F w a0 a1 a2 a3 a4 a5 a6 a7 a8 a9 → KA w a0 a1 a2 a3 a4 a5 a6 a7 a8 a9) : G := h t
theorem joinK16 {A0 A1 A2 A3 A4 A5 A6 A7 A8 A9 A10 A11 A12 A13 A14 A15 : Type} {F KA : World → A0 → A1 → A2 → A3 → A4 → A5 → A6 → A7 → A8 → A9 → A10 → A11 → A12 → A13 → A14 → A15 → Prop} {G : Prop} (h : (∀ w a0 a1 a2 a3 a4 a5 a6 a7 a8 a9 a10 a11 a12 a13 a14 a15, F w a0 a1 a2 a3 a4 a5 a6 a7 a8 a9 a10 a11 a12 a13 a14 a15 → KA w a0 a1 a2 a3 a4 a5 a6 a7 a8 a9 a10 a11 a12 a13 a14 a15) → G) (t : ∀ w a0 a1 a2 a3 a4 a5 a6 a7 a8 a9 a10 a11 a12 a13 a14 a15, F w a0 a1 a2 a3 a4 a5 a6 a7 a8 a9 a10 a11 a12 a13 a14 a15 → KA w a0 a1 a2 a3 a4 a5 a6 a7 a8 a9 a10 a11 a12 a13 a14 a15) : G := h t
theorem joinK17 {A0 A1 A2 A3 A4 A5 A6 A7 A8 A9 A10 A11 A12 A13 A14 A15 A16 : Type} {F KA : World → A0 → A1 → A2 → A3 → A4 → A5 → A6 → A7 → A8 → A9 → A10 → A11 → A12 → A13 → A14 → A15 → A16 → Prop} {G : Prop} (h : (∀ w a0 a1 a2 a3 a4 a5 a6 a7 a8 a9 a10 a11 a12 a13 a14 a15 a16, F w a0 a1 a2 a3 a4 a5 a6 a7 a8 a9 a10 a11 a12 a13 a14 a15 a16 → KA w a0 a1 a2 a3 a4 a5 a6 a7 a8 a9 a10 a11 a12 a13 a14 a15 a16) → G) (t : ∀ w a0 a1 a2 a3 a4 a5 a6 a7 a8 a9 a10 a11 a12 a13 a14 a15 a16, F w a0 a1 a2 a3 a4 a5 a6 a7 a8 a9 a10 a11 a12 a13 a14 a15 a16 → KA w a0 a1 a2 a3 a4 a5 a6 a7 a8 a9 a10 a11 a12 a13 a14 a15 a16) : G := h t
theorem joinK18 {A0 A1 A2 A3 A4 A5 A6 A7 A8 A9 A10 A11 A12 A13 A14 A15 A16 A17 : Type} {F KA : World → A0 → A1 → A2 → A3 → A4 → A5 → A6 → A7 → A8 → A9 → A10 → A11 → A12 → A13 → A14 → A15 → A16 → A17 → Prop} {G : Prop} (h : (∀ w a0 a1 a2 a3 a4 a5 a6 a7 a8 a9 a10 a11 a12 a13 a14 a15 a16 a17, F w a0 a1 a2 a3 a4 a5 a6 a7 a8 a9 a10 a11 a12 a13 a14 a15 a16 a17 → KA w a0 a1 a2 a3 a4 a5 a6 a7 a8 a9 a10 a11 a12 a13 a14 a15 a16 a17) → G) (t : ∀ w a0 a1 a2 a3 a4 a5 a6 a7 a8 a9 a10 a11 a12 a13 a14 a15 a16 a17, F w a0 a1 a2 a3 a4 a5 a6 a7 a8 a9 a10 a11 a12 a13 a14 a15 a16 a17 → KA w a0 a1 a2 a3 a4 a5 a6 a7 a8 a9 a10 a11 a12 a13 a14 a15 a16 a17) : G := h t
abbrev ocop_3_1 : Go.Oper := { dst := some 56, op := Go.Op.call { callee := Go.Callee.value (Go.Operand.func 15), args := #[Go.Operand.tmp 55], argTypes := #[29] }, type := 29, pos := "law.go:31", after := #[{ on := 0, ground := Go.Ground.data }], guard := none }
abbrev ocop_3_11 : Go.Oper := { dst := some 66, op := Go.Op.load 59 (Go.Operand.tmp 65), type := 59, pos := "law.go:31", after := #[{ on := 10, ground := Go.Ground.data }, { on := 14, ground := Go.Ground.gcOnly Go.Departure.lateStores }], guard := none }
abbrev ocop_3_12 : Go.Oper := { dst := some 9, op := Go.Op.alloc 59, type := 0, pos := "law.go:31", after := #[], guard := none }
abbrev ocop_3_13 : Go.Oper := { dst := some 10, op := Go.Op.alloc 59, type := 0, pos := "law.go:31", after := #[], guard := none }
abbrev ocop_3_14 : Go.Oper := { dst := none, op := Go.Op.store 59 (Go.Operand.tmp 9) (Go.Operand.tmp 60), type := 0, pos := "law.go:31", after := #[{ on := 12, ground := Go.Ground.data }, { on := 5, ground := Go.Ground.data }, { on := 7, ground := Go.Ground.chain }, { on := 0, ground := Go.Ground.phase }, { on := 1, ground := Go.Ground.phase }, { on := 2, ground := Go.Ground.phase }, { on := 3, ground := Go.Ground.phase }, { on := 4, ground := Go.Ground.phase }, { on := 5, ground := Go.Ground.phase }, { on := 6, ground := Go.Ground.textOnly Go.Departure.lateStores }, { on := 7, ground := Go.Ground.textOnly Go.Departure.lateStoresUnsure }, { on := 8, ground := Go.Ground.textOnly Go.Departure.lateStores }, { on := 9, ground := Go.Ground.textOnly Go.Departure.lateStores }, { on := 10, ground := Go.Ground.textOnly Go.Departure.lateStores }, { on := 11, ground := Go.Ground.textOnly Go.Departure.lateStores }, { on := 12, ground := Go.Ground.phase }, { on := 13, ground := Go.Ground.phase }], guard := none }
abbrev ocop_3_15 : Go.Oper := { dst := none, op := Go.Op.store 59 (Go.Operand.tmp 10) (Go.Operand.tmp 66), type := 0, pos := "law.go:31", after := #[{ on := 13, ground := Go.Ground.data }, { on := 11, ground := Go.Ground.data }, { on := 14, ground := Go.Ground.chain }, { on := 0, ground := Go.Ground.phase }, { on := 1, ground := Go.Ground.phase }, { on := 2, ground := Go.Ground.phase }, { on := 3, ground := Go.Ground.phase }, { on := 4, ground := Go.Ground.phase }, { on := 5, ground := Go.Ground.phase }, { on := 6, ground := Go.Ground.phase }, { on := 7, ground := Go.Ground.phase }, { on := 8, ground := Go.Ground.phase }, { on := 9, ground := Go.Ground.phase }, { on := 10, ground := Go.Ground.phase }, { on := 11, ground := Go.Ground.phase }, { on := 12, ground := Go.Ground.phase }, { on := 13, ground := Go.Ground.phase }, { on := 14, ground := Go.Ground.phase }], guard := none }
abbrev ocop_3_5 : Go.Oper := { dst := some 60, op := Go.Op.load 59 (Go.Operand.tmp 59), type := 59, pos := "law.go:31", after := #[{ on := 4, ground := Go.Ground.data }], guard := none }
abbrev ocop_3_7 : Go.Oper := { dst := some 62, op := Go.Op.call { callee := Go.Callee.value (Go.Operand.func 15), args := #[Go.Operand.tmp 61], argTypes := #[29] }, type := 29, pos := "law.go:31", after := #[{ on := 6, ground := Go.Ground.data }, { on := 1, ground := Go.Ground.chain }], guard := none }
abbrev ocop_4_1 : Go.Oper := { dst := some 69, op := Go.Op.call { callee := Go.Callee.value (Go.Operand.func 16), args := #[Go.Operand.tmp 68], argTypes := #[29] }, type := 43, pos := "law.go:32", after := #[{ on := 0, ground := Go.Ground.data }], guard := none }
abbrev ocop_4_5 : Go.Oper := { dst := some 73, op := Go.Op.call { callee := Go.Callee.value (Go.Operand.func 16), args := #[Go.Operand.tmp 72], argTypes := #[29] }, type := 43, pos := "law.go:32", after := #[{ on := 4, ground := Go.Ground.data }, { on := 1, ground := Go.Ground.chain }], guard := none }
abbrev ocop_4_8 : Go.Oper := { dst := some 76, op := Go.Op.call { callee := Go.Callee.value (Go.Operand.func 26), args := #[Go.Operand.tmp 70, Go.Operand.tmp 71, Go.Operand.tmp 74, Go.Operand.tmp 75], argTypes := #[41, 3, 41, 3] }, type := 60, pos := "law.go:32", after := #[{ on := 2, ground := Go.Ground.data }, { on := 3, ground := Go.Ground.data }, { on := 6, ground := Go.Ground.data }, { on := 7, ground := Go.Ground.data }, { on := 5, ground := Go.Ground.chain }], guard := none }
abbrev ocop_5_2 : Go.Oper := { dst := some 81, op := Go.Op.call { callee := Go.Callee.value (Go.Operand.func 27), args := #[Go.Operand.tmp 80], argTypes := #[3] }, type := 4, pos := "law.go:33", after := #[{ on := 1, ground := Go.Ground.data }], guard := none }
abbrev ocop_5_8 : Go.Oper := { dst := some 87, op := Go.Op.call { callee := Go.Callee.value (Go.Operand.func 27), args := #[Go.Operand.const (Go.Value.int Go.IntKind.i64 9)], argTypes := #[3] }, type := 4, pos := "law.go:33", after := #[{ on := 7, ground := Go.Ground.chain }, { on := 7, ground := Go.Ground.guard }], guard := some (7, false) }
theorem ocomp_main (sA : Option Addr) (ns sc : Nat) (iA : Option Addr) (m ic : Nat) (fl : Int) (tA : Option Addr) (nt tc : Nat) (jA : Option Addr) (r jc : Nat) (fq : Int) (zc zd : Int) (w : World)
    (cn : ∀ w', Ext w w' → Calls Try.prog 24 #[(.agg #[.slice sA ns sc, .slice iA m ic, .int .i64 fl]), .int .i64 3000] w' fun e w2 => ∃ z, e = .returned (.int .i64 z) ∧ Ext w' w2)
    (ck : ∀ w', Ext w w' → Calls Try.prog 25 #[(.agg #[.slice sA ns sc, .slice iA m ic, .int .i64 fl])] w' fun e w2 => e = .returned (.int .i64 zc) ∧ Ext w' w2)
    (dn : ∀ w', Ext w w' → Calls Try.prog 24 #[(.agg #[.slice tA nt tc, .slice jA r jc, .int .i64 fq]), .int .i64 3000] w' fun e w2 => ∃ z, e = .returned (.int .i64 z) ∧ Ext w' w2)
    (dk : ∀ w', Ext w w' → Calls Try.prog 25 #[(.agg #[.slice tA nt tc, .slice jA r jc, .int .i64 fq])] w' fun e w2 => e = .returned (.int .i64 zd) ∧ Ext w' w2) (h1 : (zc != 0) = false) (h3 : (zd != 0) = false) (i k : Nat) (PX PY : It → Prop) (PP QQ : Value → World → Prop)
    (ct : ∀ w', Ext w w' → Calls Try.prog 15 #[(.agg #[.slice sA ns sc, .slice iA m ic, .int .i64 fl])] w' fun e w2 => ∃ a tc xk xn xc xA xm xd, e = .returned (.agg #[.slice sA ns sc, .slice (some a) m tc, .int .i64 fl]) ∧ PX ⟨xk, xn, xc, xA, xm, xd⟩ ∧ Rd (fun w' => ItAt w' (a.add (i * 4)) ⟨xk, xn, xc, xA, xm, xd⟩) w2 (New w'.heap.size) ∧ Ext w' w2)
    (cu : ∀ w', Ext w w' → Calls Try.prog 15 #[(.agg #[.slice tA nt tc, .slice jA r jc, .int .i64 fq])] w' fun e w2 => ∃ a yc xk xn xc xA xm xd, e = .returned (.agg #[.slice tA nt tc, .slice (some a) r yc, .int .i64 fq]) ∧ PY ⟨xk, xn, xc, xA, xm, xd⟩ ∧ Rd (fun w' => ItAt w' (a.add (k * 4)) ⟨xk, xn, xc, xA, xm, xd⟩) w2 (New w'.heap.size) ∧ Ext w' w2)
    (co : ∀ w', Ext w w' → Calls Try.prog 16 #[(.agg #[.slice sA ns sc, .slice iA m ic, .int .i64 fl])] w' (OfO PP w'))
    (cv : ∀ w', Ext w w' → Calls Try.prog 16 #[(.agg #[.slice tA nt tc, .slice jA r jc, .int .i64 fq])] w' (OfO QQ w'))
    (cz : Int) (ok : Bool) (kc : ∀ v u w', PP v w' → QQ u w' → Calls Try.prog 26 #[v, .int .i64 (i : Int), u, .int .i64 (k : Int)] w' fun e w2 => e = .returned (.tuple #[.int .i64 cz, .bool ok]) ∧ Ext w' w2)
    (hb : Bool) (ch : ∀ w', Calls Try.prog 27 #[.int .i64 fl] w' fun e w2 => e = .returned (.bool hb) ∧ Ext w' w2) (ch9 : ∀ w', Calls Try.prog 27 #[.int .i64 9] w' fun e w2 => e = .returned (.bool false) ∧ Ext w' w2) (e84 : decide (fl < 2) = hb) (b1 b2 : Bool) (kb1 : ok = true → ∀ x y : It, PX x → PY y → ∀ w', Calls Try.prog 28 #[x.val, y.val] w' fun e w2 => e = .returned (.bool b1) ∧ Ext w' w2) (kb2 : ok = true → ∀ x y : It, PX x → PY y → ∀ w', Calls Try.prog 28 #[y.val, x.val] w' fun e w2 => e = .returned (.bool b2) ∧ Ext w' w2) (hcase : ((fl != fq) = true ∧ cz = 0 ∧ ok = false) ∨ ((fl != fq) = false ∧ (fl == 2) = true ∧ cz = 0 ∧ ok = false) ∨ ((fl != fq) = false ∧ (fl == 2) = false ∧ cz = -1 ∧ ok = true ∧ b1 = true ∧ b2 = false) ∨ ((fl != fq) = false ∧ (fl == 2) = false ∧ cz = 1 ∧ ok = true ∧ b1 = false ∧ b2 = true) ∨ ((fl != fq) = false ∧ (fl == 2) = false ∧ cz = 0 ∧ ok = true ∧ b1 = false ∧ b2 = false)) (hi : i < m) (hk : k < r)  : Calls Try.prog 7 #[(.agg #[.slice sA ns sc, .slice iA m ic, .int .i64 fl]), (.agg #[.slice tA nt tc, .slice jA r jc, .int .i64 fq]), .int .i64 (i : Int), .int .i64 (k : Int)] w fun e w' => e = .returned (.bool true) ∧ Ext w w' := by
  have hF := pl_flat sA ns sc iA m ic fl
  have hG := pl_flat tA nt tc jA r jc fq
  have E := Ext.refl w
  have e34 : decide ((i : Int) < 0) = false := decide_eq_false (by omega)
  have e38 : decide ((k : Int) < 0) = false := decide_eq_false (by omega)
  have e45 : decide (m ≤ i) = false := decide_eq_false (by omega)
  have e52 : decide (r ≤ k) = false := decide_eq_false (by omega)
  go_enter Try.func7, Try.ntmps7
  have TB4 : True := trivial
  have TB5 : True := trivial
  go_wp2_with (first | (clear TB4; refine boxsP (v := (.agg #[.slice sA ns sc, .slice iA m ic, .int .i64 fl])) rfl rfl rfl hF ?_; intro B4 w4 bB4 cB4 XB4 LB4 RB4; have z1 := XB4.size; replace E := E.trans XB4; have cB4_1 := lay_cell LB4 (j := 1) rfl; have cB4_2 := lay_cell LB4 (j := 2) rfl; clear RB4) | (clear TB5; refine boxsP (v := (.agg #[.slice tA nt tc, .slice jA r jc, .int .i64 fq])) rfl rfl rfl hG ?_; intro B5 w5 bB5 cB5 XB5 LB5 RB5; have z2 := XB5.size; replace E := E.trans XB5; replace LB4 := LB4.ext XB5; replace cB4_1 := cell_ext (XB5) cB4_1; replace cB4_2 := cell_ext (XB5) cB4_2; have cB5_1 := lay_cell LB5 (j := 1) rfl; have cB5_2 := lay_cell LB5 (j := 2) rfl; clear RB5) | (refine loadsP (B := B4) (by rfl) rfl rfl LB4 ?_))
  refine (cn _ E).mono ?_
  rintro e w15 ⟨z, rfl, x⟩
  have hz1 : decide (1000 < z) = true ∨ decide (1000 < z) = false := by cases decide (1000 < z) <;> simp
  rcases hz1 with hz1 | hz1
  · have z3 := x.size
    replace E := E.trans x
    replace LB4 := LB4.ext x
    replace cB4_1 := cell_ext (x) cB4_1
    replace cB4_2 := cell_ext (x) cB4_2
    replace LB5 := LB5.ext x
    replace cB5_1 := cell_ext (x) cB5_1
    replace cB5_2 := cell_ext (x) cB5_2
    clear x
    go_wp2_with fail
    refine (oawake_any _).mono ?_
    rintro e w54 ⟨rfl, x⟩
    have z4 := x.size
    replace E := E.trans x
    replace LB4 := LB4.ext x
    replace cB4_1 := cell_ext (x) cB4_1
    replace cB4_2 := cell_ext (x) cB4_2
    replace LB5 := LB5.ext x
    replace cB5_1 := cell_ext (x) cB5_1
    replace cB5_2 := cell_ext (x) cB5_2
    clear x
    go_wp2_with fail
    go_ret
    exact ⟨rfl, E⟩
  · have z3 := x.size
    replace E := E.trans x
    replace LB4 := LB4.ext x
    replace cB4_1 := cell_ext (x) cB4_1
    replace cB4_2 := cell_ext (x) cB4_2
    replace LB5 := LB5.ext x
    replace cB5_1 := cell_ext (x) cB5_1
    replace cB5_2 := cell_ext (x) cB5_2
    clear x
    go_wp2_with (refine loadgP (B := B4) (by rfl) rfl rfl LB4 ?_)
    refine (ck _ E).mono ?_
    rintro e w19 ⟨rfl, x⟩
    have z4 := x.size
    replace E := E.trans x
    replace LB4 := LB4.ext x
    replace cB4_1 := cell_ext (x) cB4_1
    replace cB4_2 := cell_ext (x) cB4_2
    replace LB5 := LB5.ext x
    replace cB5_1 := cell_ext (x) cB5_1
    replace cB5_2 := cell_ext (x) cB5_2
    clear x
    go_wp2_with (refine loadgP (B := B5) (by rfl) rfl rfl LB5 ?_)
    refine (dn _ E).mono ?_
    rintro e w24 ⟨z2, rfl, x⟩
    have hz2 : decide (1000 < z2) = true ∨ decide (1000 < z2) = false := by cases decide (1000 < z2) <;> simp
    rcases hz2 with hz2 | hz2
    · have z5 := x.size
      replace E := E.trans x
      replace LB4 := LB4.ext x
      replace cB4_1 := cell_ext (x) cB4_1
      replace cB4_2 := cell_ext (x) cB4_2
      replace LB5 := LB5.ext x
      replace cB5_1 := cell_ext (x) cB5_1
      replace cB5_2 := cell_ext (x) cB5_2
      clear x
      go_wp2_with fail
      refine (oawake_any _).mono ?_
      rintro e w54 ⟨rfl, x⟩
      have z6 := x.size
      replace E := E.trans x
      replace LB4 := LB4.ext x
      replace cB4_1 := cell_ext (x) cB4_1
      replace cB4_2 := cell_ext (x) cB4_2
      replace LB5 := LB5.ext x
      replace cB5_1 := cell_ext (x) cB5_1
      replace cB5_2 := cell_ext (x) cB5_2
      clear x
      go_wp2_with fail
      go_ret
      exact ⟨rfl, E⟩
    · have z5 := x.size
      replace E := E.trans x
      replace LB4 := LB4.ext x
      replace cB4_1 := cell_ext (x) cB4_1
      replace cB4_2 := cell_ext (x) cB4_2
      replace LB5 := LB5.ext x
      replace cB5_1 := cell_ext (x) cB5_1
      replace cB5_2 := cell_ext (x) cB5_2
      clear x
      go_wp2_with (refine loadgP (B := B5) (by rfl) rfl rfl LB5 ?_)
      refine (dk _ E).mono ?_
      rintro e w29 ⟨rfl, x⟩
      have z6 := x.size
      replace E := E.trans x
      replace LB4 := LB4.ext x
      replace cB4_1 := cell_ext (x) cB4_1
      replace cB4_2 := cell_ext (x) cB4_2
      replace LB5 := LB5.ext x
      replace cB5_1 := cell_ext (x) cB5_1
      replace cB5_2 := cell_ext (x) cB5_2
      clear x
      go_wp2_with fail
      clear cB4_1 cB4_2 cB5_1 cB5_2
      try simp only [Act.put, List.setIfInBounds_toArray, List.set_cons_zero, List.set_cons_succ]
      apply joinK0 (F := fun (wS3 : World) => w29.heap.size ≤ wS3.heap.size ∧ Ext w wS3 ∧ Lay 3 wS3 B4 (.agg #[.slice sA ns sc, .slice iA m ic, .int .i64 fl]) ∧ Lay 3 wS3 B5 (.agg #[.slice tA nt tc, .slice jA r jc, .int .i64 fq]))
      · intro J
        refine J w29 ?_
        exact ⟨Nat.le_refl _, E, LB4, LB5⟩
      intro wS3 hJS
      clear E LB4 LB5
      refine wp_region_held_drew (S := (fun w' => Lay 3 w' B4 (.agg #[.slice sA ns sc, .slice iA m ic, .int .i64 fl]) ∧ Lay 3 w' B5 (.agg #[.slice tA nt tc, .slice jA r jc, .int .i64 fq]))) (by kernel_rfl) (by obtain ⟨z9, E, LB4, LB5⟩ := hJS; exact ⟨LB4, LB5⟩) (fun hH0 => ?_)
      apply joinK18 (F := fun (wD3_0 : World) (B9 : Nat) (B10 : Nat) (ax : Addr) (xcap : Nat) (xk : Int) (xn : Nat) (xc : Int) (xA : Option Addr) (xm : Nat) (xd : Nat) (ay : Addr) (ycap : Nat) (yk : Int) (yn : Nat) (yc : Int) (yA : Option Addr) (ym : Nat) (yd : Nat) => wS3.heap.size ≤ wD3_0.heap.size ∧ (wS3.heap.size ≤ B9 ∧ B9 < wD3_0.heap.size) ∧ (wS3.heap.size ≤ B10 ∧ B10 < wD3_0.heap.size) ∧ B9 ≠ B10 ∧ Ext w wD3_0 ∧ Lay 3 wD3_0 B4 (.agg #[.slice sA ns sc, .slice iA m ic, .int .i64 fl]) ∧ Lay 3 wD3_0 B5 (.agg #[.slice tA nt tc, .slice jA r jc, .int .i64 fq]) ∧ Lay 4 wD3_0 B9 (.agg #[.int .i64 xk, .float .f64 xn, .int .i32 xc, .slice xA xm xd]) ∧ Lay 4 wD3_0 B10 (.agg #[.int .i64 yk, .float .f64 yn, .int .i32 yc, .slice yA ym yd]) ∧ Rd (fun _ => PX ⟨xk, xn, xc, xA, xm, xd⟩) wD3_0 (fun _ => False) ∧ Rd (fun _ => PY ⟨yk, yn, yc, yA, ym, yd⟩) wD3_0 (fun _ => False) ∧ wD3_0.cell? ⟨B4, 2, none⟩ = some (.int .i64 fl) ∧ wD3_0.cell? ⟨B5, 2, none⟩ = some (.int .i64 fq))
      intro JD3_0
      apply joinK18 (F := fun (wD3_1 : World) (B9 : Nat) (B10 : Nat) (ax : Addr) (xcap : Nat) (xk : Int) (xn : Nat) (xc : Int) (xA : Option Addr) (xm : Nat) (xd : Nat) (ay : Addr) (ycap : Nat) (yk : Int) (yn : Nat) (yc : Int) (yA : Option Addr) (ym : Nat) (yd : Nat) => wS3.heap.size ≤ wD3_1.heap.size ∧ (wS3.heap.size ≤ B9 ∧ B9 < wD3_1.heap.size) ∧ (wS3.heap.size ≤ B10 ∧ B10 < wD3_1.heap.size) ∧ B9 ≠ B10 ∧ Ext w wD3_1 ∧ Lay 3 wD3_1 B4 (.agg #[.slice sA ns sc, .slice iA m ic, .int .i64 fl]) ∧ Lay 3 wD3_1 B5 (.agg #[.slice tA nt tc, .slice jA r jc, .int .i64 fq]) ∧ Lay 4 wD3_1 B9 (.agg #[.int .i64 xk, .float .f64 xn, .int .i32 xc, .slice xA xm xd]) ∧ Lay 4 wD3_1 B10 zeroIt ∧ Room 4 wD3_1 B10 ∧ Rd (fun w' => ItAt w' (ax.add (i * 4)) ⟨xk, xn, xc, xA, xm, xd⟩) wD3_1 (fun i => i < wD3_1.heap.size ∧ i ≠ B9 ∧ i ≠ B10) ∧ Rd (fun _ => PX ⟨xk, xn, xc, xA, xm, xd⟩) wD3_1 (fun _ => False) ∧ Rd (fun w' => ItAt w' (ay.add (k * 4)) ⟨yk, yn, yc, yA, ym, yd⟩) wD3_1 (fun i => i < wD3_1.heap.size ∧ i ≠ B9 ∧ i ≠ B10) ∧ Rd (fun _ => PY ⟨yk, yn, yc, yA, ym, yd⟩) wD3_1 (fun _ => False))
      intro JD3_1
      apply joinK18 (F := fun (wD3_2 : World) (B9 : Nat) (B10 : Nat) (ax : Addr) (xcap : Nat) (xk : Int) (xn : Nat) (xc : Int) (xA : Option Addr) (xm : Nat) (xd : Nat) (ay : Addr) (ycap : Nat) (yk : Int) (yn : Nat) (yc : Int) (yA : Option Addr) (ym : Nat) (yd : Nat) => wS3.heap.size ≤ wD3_2.heap.size ∧ (wS3.heap.size ≤ B9 ∧ B9 < wD3_2.heap.size) ∧ (wS3.heap.size ≤ B10 ∧ B10 < wD3_2.heap.size) ∧ B9 ≠ B10 ∧ Ext w wD3_2 ∧ Lay 3 wD3_2 B4 (.agg #[.slice sA ns sc, .slice iA m ic, .int .i64 fl]) ∧ Lay 3 wD3_2 B5 (.agg #[.slice tA nt tc, .slice jA r jc, .int .i64 fq]) ∧ Lay 4 wD3_2 B9 zeroIt ∧ Lay 4 wD3_2 B10 zeroIt ∧ Room 4 wD3_2 B9 ∧ Room 4 wD3_2 B10 ∧ Rd (fun w' => ItAt w' (ax.add (i * 4)) ⟨xk, xn, xc, xA, xm, xd⟩) wD3_2 (fun i => i < wD3_2.heap.size ∧ i ≠ B9 ∧ i ≠ B10) ∧ Rd (fun _ => PX ⟨xk, xn, xc, xA, xm, xd⟩) wD3_2 (fun _ => False) ∧ Rd (fun w' => ItAt w' (ay.add (k * 4)) ⟨yk, yn, yc, yA, ym, yd⟩) wD3_2 (fun i => i < wD3_2.heap.size ∧ i ≠ B9 ∧ i ≠ B10) ∧ Rd (fun _ => PY ⟨yk, yn, yc, yA, ym, yd⟩) wD3_2 (fun _ => False))
      intro JD3_2
      apply joinK17 (F := fun (wD3_3 : World) (B9 : Nat) (ax : Addr) (xcap : Nat) (xk : Int) (xn : Nat) (xc : Int) (xA : Option Addr) (xm : Nat) (xd : Nat) (ay : Addr) (ycap : Nat) (yk : Int) (yn : Nat) (yc : Int) (yA : Option Addr) (ym : Nat) (yd : Nat) => wS3.heap.size ≤ wD3_3.heap.size ∧ (wS3.heap.size ≤ B9 ∧ B9 < wD3_3.heap.size) ∧ Ext w wD3_3 ∧ Lay 3 wD3_3 B4 (.agg #[.slice sA ns sc, .slice iA m ic, .int .i64 fl]) ∧ Lay 3 wD3_3 B5 (.agg #[.slice tA nt tc, .slice jA r jc, .int .i64 fq]) ∧ Lay 4 wD3_3 B9 zeroIt ∧ Room 4 wD3_3 B9 ∧ Rd (fun w' => ItAt w' (ax.add (i * 4)) ⟨xk, xn, xc, xA, xm, xd⟩) wD3_3 (fun i => i < wD3_3.heap.size ∧ i ≠ B9) ∧ Rd (fun _ => PX ⟨xk, xn, xc, xA, xm, xd⟩) wD3_3 (fun _ => False) ∧ Rd (fun w' => ItAt w' (ay.add (k * 4)) ⟨yk, yn, yc, yA, ym, yd⟩) wD3_3 (fun i => i < wD3_3.heap.size ∧ i ≠ B9) ∧ Rd (fun _ => PY ⟨yk, yn, yc, yA, ym, yd⟩) wD3_3 (fun _ => False))
      intro JD3_3
      apply joinK17 (F := fun (wD3_4 : World) (B10 : Nat) (ax : Addr) (xcap : Nat) (xk : Int) (xn : Nat) (xc : Int) (xA : Option Addr) (xm : Nat) (xd : Nat) (ay : Addr) (ycap : Nat) (yk : Int) (yn : Nat) (yc : Int) (yA : Option Addr) (ym : Nat) (yd : Nat) => wS3.heap.size ≤ wD3_4.heap.size ∧ (wS3.heap.size ≤ B10 ∧ B10 < wD3_4.heap.size) ∧ Ext w wD3_4 ∧ Lay 3 wD3_4 B4 (.agg #[.slice sA ns sc, .slice iA m ic, .int .i64 fl]) ∧ Lay 3 wD3_4 B5 (.agg #[.slice tA nt tc, .slice jA r jc, .int .i64 fq]) ∧ Lay 4 wD3_4 B10 zeroIt ∧ Room 4 wD3_4 B10 ∧ Rd (fun w' => ItAt w' (ax.add (i * 4)) ⟨xk, xn, xc, xA, xm, xd⟩) wD3_4 (fun i => i < wD3_4.heap.size ∧ i ≠ B10) ∧ Rd (fun _ => PX ⟨xk, xn, xc, xA, xm, xd⟩) wD3_4 (fun _ => False) ∧ Rd (fun w' => ItAt w' (ay.add (k * 4)) ⟨yk, yn, yc, yA, ym, yd⟩) wD3_4 (fun i => i < wD3_4.heap.size ∧ i ≠ B10) ∧ Rd (fun _ => PY ⟨yk, yn, yc, yA, ym, yd⟩) wD3_4 (fun _ => False))
      intro JD3_4
      apply joinK18 (F := fun (wD3_5 : World) (B9 : Nat) (B10 : Nat) (ax : Addr) (xcap : Nat) (xk : Int) (xn : Nat) (xc : Int) (xA : Option Addr) (xm : Nat) (xd : Nat) (ay : Addr) (ycap : Nat) (yk : Int) (yn : Nat) (yc : Int) (yA : Option Addr) (ym : Nat) (yd : Nat) => wS3.heap.size ≤ wD3_5.heap.size ∧ (wS3.heap.size ≤ B9 ∧ B9 < wD3_5.heap.size) ∧ (wS3.heap.size ≤ B10 ∧ B10 < wD3_5.heap.size) ∧ B9 ≠ B10 ∧ Ext w wD3_5 ∧ Lay 3 wD3_5 B4 (.agg #[.slice sA ns sc, .slice iA m ic, .int .i64 fl]) ∧ Lay 3 wD3_5 B5 (.agg #[.slice tA nt tc, .slice jA r jc, .int .i64 fq]) ∧ Lay 4 wD3_5 B9 zeroIt ∧ Lay 4 wD3_5 B10 zeroIt ∧ Room 4 wD3_5 B9 ∧ Room 4 wD3_5 B10 ∧ Rd (fun w' => ItAt w' (ax.add (i * 4)) ⟨xk, xn, xc, xA, xm, xd⟩) wD3_5 (fun i => i < wD3_5.heap.size ∧ i ≠ B9 ∧ i ≠ B10) ∧ Rd (fun _ => PX ⟨xk, xn, xc, xA, xm, xd⟩) wD3_5 (fun _ => False) ∧ Rd (fun w' => ItAt w' (ay.add (k * 4)) ⟨yk, yn, yc, yA, ym, yd⟩) wD3_5 (fun i => i < wD3_5.heap.size ∧ i ≠ B9 ∧ i ≠ B10) ∧ Rd (fun _ => PY ⟨yk, yn, yc, yA, ym, yd⟩) wD3_5 (fun _ => False))
      intro JD3_5
      apply joinK18 (F := fun (wD3_6 : World) (B9 : Nat) (B10 : Nat) (ax : Addr) (xcap : Nat) (xk : Int) (xn : Nat) (xc : Int) (xA : Option Addr) (xm : Nat) (xd : Nat) (ay : Addr) (ycap : Nat) (yk : Int) (yn : Nat) (yc : Int) (yA : Option Addr) (ym : Nat) (yd : Nat) => wS3.heap.size ≤ wD3_6.heap.size ∧ (wS3.heap.size ≤ B9 ∧ B9 < wD3_6.heap.size) ∧ (wS3.heap.size ≤ B10 ∧ B10 < wD3_6.heap.size) ∧ B9 ≠ B10 ∧ Ext w wD3_6 ∧ Lay 3 wD3_6 B4 (.agg #[.slice sA ns sc, .slice iA m ic, .int .i64 fl]) ∧ Lay 3 wD3_6 B5 (.agg #[.slice tA nt tc, .slice jA r jc, .int .i64 fq]) ∧ Lay 4 wD3_6 B9 zeroIt ∧ Lay 4 wD3_6 B10 zeroIt ∧ Room 4 wD3_6 B9 ∧ Room 4 wD3_6 B10 ∧ Rd (fun w' => ItAt w' (ax.add (i * 4)) ⟨xk, xn, xc, xA, xm, xd⟩) wD3_6 (fun i => i < wD3_6.heap.size ∧ i ≠ B9 ∧ i ≠ B10) ∧ Rd (fun _ => PX ⟨xk, xn, xc, xA, xm, xd⟩) wD3_6 (fun _ => False) ∧ Rd (fun w' => ItAt w' (ay.add (k * 4)) ⟨yk, yn, yc, yA, ym, yd⟩) wD3_6 (fun i => i < wD3_6.heap.size ∧ i ≠ B9 ∧ i ≠ B10) ∧ Rd (fun _ => PY ⟨yk, yn, yc, yA, ym, yd⟩) wD3_6 (fun _ => False))
      intro JD3_6
      apply joinK16 (F := fun (wD3_7 : World) (ax : Addr) (xcap : Nat) (xk : Int) (xn : Nat) (xc : Int) (xA : Option Addr) (xm : Nat) (xd : Nat) (ay : Addr) (ycap : Nat) (yk : Int) (yn : Nat) (yc : Int) (yA : Option Addr) (ym : Nat) (yd : Nat) => wS3.heap.size ≤ wD3_7.heap.size ∧ Ext w wD3_7 ∧ Lay 3 wD3_7 B4 (.agg #[.slice sA ns sc, .slice iA m ic, .int .i64 fl]) ∧ Lay 3 wD3_7 B5 (.agg #[.slice tA nt tc, .slice jA r jc, .int .i64 fq]) ∧ Rd (fun w' => ItAt w' (ax.add (i * 4)) ⟨xk, xn, xc, xA, xm, xd⟩) wD3_7 (fun i => i < wD3_7.heap.size) ∧ Rd (fun _ => PX ⟨xk, xn, xc, xA, xm, xd⟩) wD3_7 (fun _ => False) ∧ Rd (fun w' => ItAt w' (ay.add (k * 4)) ⟨yk, yn, yc, yA, ym, yd⟩) wD3_7 (fun i => i < wD3_7.heap.size) ∧ Rd (fun _ => PY ⟨yk, yn, yc, yA, ym, yd⟩) wD3_7 (fun _ => False))
      intro JD3_7
      apply joinK17 (F := fun (wD3_8 : World) (B9 : Nat) (ax : Addr) (xcap : Nat) (xk : Int) (xn : Nat) (xc : Int) (xA : Option Addr) (xm : Nat) (xd : Nat) (ay : Addr) (ycap : Nat) (yk : Int) (yn : Nat) (yc : Int) (yA : Option Addr) (ym : Nat) (yd : Nat) => wS3.heap.size ≤ wD3_8.heap.size ∧ (wS3.heap.size ≤ B9 ∧ B9 < wD3_8.heap.size) ∧ Ext w wD3_8 ∧ Lay 3 wD3_8 B4 (.agg #[.slice sA ns sc, .slice iA m ic, .int .i64 fl]) ∧ Lay 3 wD3_8 B5 (.agg #[.slice tA nt tc, .slice jA r jc, .int .i64 fq]) ∧ Lay 4 wD3_8 B9 zeroIt ∧ Room 4 wD3_8 B9 ∧ Rd (fun w' => ItAt w' (ax.add (i * 4)) ⟨xk, xn, xc, xA, xm, xd⟩) wD3_8 (fun i => i < wD3_8.heap.size ∧ i ≠ B9) ∧ Rd (fun _ => PX ⟨xk, xn, xc, xA, xm, xd⟩) wD3_8 (fun _ => False) ∧ Rd (fun w' => ItAt w' (ay.add (k * 4)) ⟨yk, yn, yc, yA, ym, yd⟩) wD3_8 (fun i => i < wD3_8.heap.size ∧ i ≠ B9) ∧ Rd (fun _ => PY ⟨yk, yn, yc, yA, ym, yd⟩) wD3_8 (fun _ => False))
      intro JD3_8
      apply joinK17 (F := fun (wD3_9 : World) (B10 : Nat) (ax : Addr) (xcap : Nat) (xk : Int) (xn : Nat) (xc : Int) (xA : Option Addr) (xm : Nat) (xd : Nat) (ay : Addr) (ycap : Nat) (yk : Int) (yn : Nat) (yc : Int) (yA : Option Addr) (ym : Nat) (yd : Nat) => wS3.heap.size ≤ wD3_9.heap.size ∧ (wS3.heap.size ≤ B10 ∧ B10 < wD3_9.heap.size) ∧ Ext w wD3_9 ∧ Lay 3 wD3_9 B4 (.agg #[.slice sA ns sc, .slice iA m ic, .int .i64 fl]) ∧ Lay 3 wD3_9 B5 (.agg #[.slice tA nt tc, .slice jA r jc, .int .i64 fq]) ∧ Lay 4 wD3_9 B10 zeroIt ∧ Room 4 wD3_9 B10 ∧ Rd (fun w' => ItAt w' (ax.add (i * 4)) ⟨xk, xn, xc, xA, xm, xd⟩) wD3_9 (fun i => i < wD3_9.heap.size ∧ i ≠ B10) ∧ Rd (fun _ => PX ⟨xk, xn, xc, xA, xm, xd⟩) wD3_9 (fun _ => False) ∧ Rd (fun w' => ItAt w' (ay.add (k * 4)) ⟨yk, yn, yc, yA, ym, yd⟩) wD3_9 (fun i => i < wD3_9.heap.size ∧ i ≠ B10) ∧ Rd (fun _ => PY ⟨yk, yn, yc, yA, ym, yd⟩) wD3_9 (fun _ => False))
      intro JD3_9
      apply joinK17 (F := fun (wD3_10 : World) (B9 : Nat) (ax : Addr) (xcap : Nat) (xk : Int) (xn : Nat) (xc : Int) (xA : Option Addr) (xm : Nat) (xd : Nat) (ay : Addr) (ycap : Nat) (yk : Int) (yn : Nat) (yc : Int) (yA : Option Addr) (ym : Nat) (yd : Nat) => wS3.heap.size ≤ wD3_10.heap.size ∧ (wS3.heap.size ≤ B9 ∧ B9 < wD3_10.heap.size) ∧ Ext w wD3_10 ∧ Lay 3 wD3_10 B4 (.agg #[.slice sA ns sc, .slice iA m ic, .int .i64 fl]) ∧ Lay 3 wD3_10 B5 (.agg #[.slice tA nt tc, .slice jA r jc, .int .i64 fq]) ∧ Lay 4 wD3_10 B9 zeroIt ∧ Room 4 wD3_10 B9 ∧ Rd (fun w' => ItAt w' (ax.add (i * 4)) ⟨xk, xn, xc, xA, xm, xd⟩) wD3_10 (fun i => i < wD3_10.heap.size ∧ i ≠ B9) ∧ Rd (fun _ => PX ⟨xk, xn, xc, xA, xm, xd⟩) wD3_10 (fun _ => False) ∧ Rd (fun w' => ItAt w' (ay.add (k * 4)) ⟨yk, yn, yc, yA, ym, yd⟩) wD3_10 (fun i => i < wD3_10.heap.size ∧ i ≠ B9) ∧ Rd (fun _ => PY ⟨yk, yn, yc, yA, ym, yd⟩) wD3_10 (fun _ => False))
      intro JD3_10
      apply joinK17 (F := fun (wD3_11 : World) (B10 : Nat) (ax : Addr) (xcap : Nat) (xk : Int) (xn : Nat) (xc : Int) (xA : Option Addr) (xm : Nat) (xd : Nat) (ay : Addr) (ycap : Nat) (yk : Int) (yn : Nat) (yc : Int) (yA : Option Addr) (ym : Nat) (yd : Nat) => wS3.heap.size ≤ wD3_11.heap.size ∧ (wS3.heap.size ≤ B10 ∧ B10 < wD3_11.heap.size) ∧ Ext w wD3_11 ∧ Lay 3 wD3_11 B4 (.agg #[.slice sA ns sc, .slice iA m ic, .int .i64 fl]) ∧ Lay 3 wD3_11 B5 (.agg #[.slice tA nt tc, .slice jA r jc, .int .i64 fq]) ∧ Lay 4 wD3_11 B10 zeroIt ∧ Room 4 wD3_11 B10 ∧ Rd (fun w' => ItAt w' (ax.add (i * 4)) ⟨xk, xn, xc, xA, xm, xd⟩) wD3_11 (fun i => i < wD3_11.heap.size ∧ i ≠ B10) ∧ Rd (fun _ => PX ⟨xk, xn, xc, xA, xm, xd⟩) wD3_11 (fun _ => False) ∧ Rd (fun w' => ItAt w' (ay.add (k * 4)) ⟨yk, yn, yc, yA, ym, yd⟩) wD3_11 (fun i => i < wD3_11.heap.size ∧ i ≠ B10) ∧ Rd (fun _ => PY ⟨yk, yn, yc, yA, ym, yd⟩) wD3_11 (fun _ => False))
      intro JD3_11
      apply joinK18 (F := fun (wD3_12 : World) (B9 : Nat) (B10 : Nat) (ax : Addr) (xcap : Nat) (xk : Int) (xn : Nat) (xc : Int) (xA : Option Addr) (xm : Nat) (xd : Nat) (ay : Addr) (ycap : Nat) (yk : Int) (yn : Nat) (yc : Int) (yA : Option Addr) (ym : Nat) (yd : Nat) => wS3.heap.size ≤ wD3_12.heap.size ∧ (wS3.heap.size ≤ B9 ∧ B9 < wD3_12.heap.size) ∧ (wS3.heap.size ≤ B10 ∧ B10 < wD3_12.heap.size) ∧ B9 ≠ B10 ∧ Ext w wD3_12 ∧ Lay 3 wD3_12 B4 (.agg #[.slice sA ns sc, .slice iA m ic, .int .i64 fl]) ∧ Lay 3 wD3_12 B5 (.agg #[.slice tA nt tc, .slice jA r jc, .int .i64 fq]) ∧ Lay 4 wD3_12 B9 zeroIt ∧ Lay 4 wD3_12 B10 zeroIt ∧ Room 4 wD3_12 B9 ∧ Room 4 wD3_12 B10 ∧ Rd (fun w' => ItAt w' (ax.add (i * 4)) ⟨xk, xn, xc, xA, xm, xd⟩) wD3_12 (fun i => i < wD3_12.heap.size ∧ i ≠ B9 ∧ i ≠ B10) ∧ Rd (fun _ => PX ⟨xk, xn, xc, xA, xm, xd⟩) wD3_12 (fun _ => False) ∧ Rd (fun w' => ItAt w' (ay.add (k * 4)) ⟨yk, yn, yc, yA, ym, yd⟩) wD3_12 (fun i => i < wD3_12.heap.size ∧ i ≠ B9 ∧ i ≠ B10) ∧ Rd (fun _ => PY ⟨yk, yn, yc, yA, ym, yd⟩) wD3_12 (fun _ => False))
      intro JD3_12
      apply joinK16 (F := fun (wD3_13 : World) (ax : Addr) (xcap : Nat) (xk : Int) (xn : Nat) (xc : Int) (xA : Option Addr) (xm : Nat) (xd : Nat) (ay : Addr) (ycap : Nat) (yk : Int) (yn : Nat) (yc : Int) (yA : Option Addr) (ym : Nat) (yd : Nat) => wS3.heap.size ≤ wD3_13.heap.size ∧ Ext w wD3_13 ∧ Lay 3 wD3_13 B4 (.agg #[.slice sA ns sc, .slice iA m ic, .int .i64 fl]) ∧ Lay 3 wD3_13 B5 (.agg #[.slice tA nt tc, .slice jA r jc, .int .i64 fq]) ∧ Rd (fun w' => ItAt w' (ax.add (i * 4)) ⟨xk, xn, xc, xA, xm, xd⟩) wD3_13 (fun i => i < wD3_13.heap.size) ∧ Rd (fun _ => PX ⟨xk, xn, xc, xA, xm, xd⟩) wD3_13 (fun _ => False) ∧ Rd (fun w' => ItAt w' (ay.add (k * 4)) ⟨yk, yn, yc, yA, ym, yd⟩) wD3_13 (fun i => i < wD3_13.heap.size) ∧ Rd (fun _ => PY ⟨yk, yn, yc, yA, ym, yd⟩) wD3_13 (fun _ => False))
      intro JD3_13
      apply joinK17 (F := fun (wD3_14 : World) (B9 : Nat) (ax : Addr) (xcap : Nat) (xk : Int) (xn : Nat) (xc : Int) (xA : Option Addr) (xm : Nat) (xd : Nat) (ay : Addr) (ycap : Nat) (yk : Int) (yn : Nat) (yc : Int) (yA : Option Addr) (ym : Nat) (yd : Nat) => wS3.heap.size ≤ wD3_14.heap.size ∧ (wS3.heap.size ≤ B9 ∧ B9 < wD3_14.heap.size) ∧ Ext w wD3_14 ∧ Lay 3 wD3_14 B4 (.agg #[.slice sA ns sc, .slice iA m ic, .int .i64 fl]) ∧ Lay 3 wD3_14 B5 (.agg #[.slice tA nt tc, .slice jA r jc, .int .i64 fq]) ∧ Lay 4 wD3_14 B9 zeroIt ∧ Room 4 wD3_14 B9 ∧ Rd (fun w' => ItAt w' (ax.add (i * 4)) ⟨xk, xn, xc, xA, xm, xd⟩) wD3_14 (fun i => i < wD3_14.heap.size ∧ i ≠ B9) ∧ Rd (fun _ => PX ⟨xk, xn, xc, xA, xm, xd⟩) wD3_14 (fun _ => False) ∧ Rd (fun w' => ItAt w' (ay.add (k * 4)) ⟨yk, yn, yc, yA, ym, yd⟩) wD3_14 (fun i => i < wD3_14.heap.size ∧ i ≠ B9) ∧ Rd (fun _ => PY ⟨yk, yn, yc, yA, ym, yd⟩) wD3_14 (fun _ => False))
      intro JD3_14
      apply joinK17 (F := fun (wD3_15 : World) (B10 : Nat) (ax : Addr) (xcap : Nat) (xk : Int) (xn : Nat) (xc : Int) (xA : Option Addr) (xm : Nat) (xd : Nat) (ay : Addr) (ycap : Nat) (yk : Int) (yn : Nat) (yc : Int) (yA : Option Addr) (ym : Nat) (yd : Nat) => wS3.heap.size ≤ wD3_15.heap.size ∧ (wS3.heap.size ≤ B10 ∧ B10 < wD3_15.heap.size) ∧ Ext w wD3_15 ∧ Lay 3 wD3_15 B4 (.agg #[.slice sA ns sc, .slice iA m ic, .int .i64 fl]) ∧ Lay 3 wD3_15 B5 (.agg #[.slice tA nt tc, .slice jA r jc, .int .i64 fq]) ∧ Lay 4 wD3_15 B10 zeroIt ∧ Room 4 wD3_15 B10 ∧ Rd (fun w' => ItAt w' (ax.add (i * 4)) ⟨xk, xn, xc, xA, xm, xd⟩) wD3_15 (fun i => i < wD3_15.heap.size ∧ i ≠ B10) ∧ Rd (fun _ => PX ⟨xk, xn, xc, xA, xm, xd⟩) wD3_15 (fun _ => False) ∧ Rd (fun w' => ItAt w' (ay.add (k * 4)) ⟨yk, yn, yc, yA, ym, yd⟩) wD3_15 (fun i => i < wD3_15.heap.size ∧ i ≠ B10) ∧ Rd (fun _ => PY ⟨yk, yn, yc, yA, ym, yd⟩) wD3_15 (fun _ => False))
      intro JD3_15
      apply joinK10 (F := fun (wD3_16 : World) (B9 : Nat) (B10 : Nat) (ax : Addr) (xcap : Nat) (xk : Int) (xn : Nat) (xc : Int) (xA : Option Addr) (xm : Nat) (xd : Nat) => wS3.heap.size ≤ wD3_16.heap.size ∧ (wS3.heap.size ≤ B9 ∧ B9 < wD3_16.heap.size) ∧ (wS3.heap.size ≤ B10 ∧ B10 < wD3_16.heap.size) ∧ B9 ≠ B10 ∧ Ext w wD3_16 ∧ Lay 3 wD3_16 B4 (.agg #[.slice sA ns sc, .slice iA m ic, .int .i64 fl]) ∧ Lay 3 wD3_16 B5 (.agg #[.slice tA nt tc, .slice jA r jc, .int .i64 fq]) ∧ Lay 4 wD3_16 B9 zeroIt ∧ Lay 4 wD3_16 B10 zeroIt ∧ Room 4 wD3_16 B9 ∧ Room 4 wD3_16 B10 ∧ Rd (fun w' => ItAt w' (ax.add (i * 4)) ⟨xk, xn, xc, xA, xm, xd⟩) wD3_16 (fun i => i < wD3_16.heap.size ∧ i ≠ B9 ∧ i ≠ B10) ∧ Rd (fun _ => PX ⟨xk, xn, xc, xA, xm, xd⟩) wD3_16 (fun _ => False))
      intro JD3_16
      apply joinK9 (F := fun (wD3_17 : World) (B9 : Nat) (ax : Addr) (xcap : Nat) (xk : Int) (xn : Nat) (xc : Int) (xA : Option Addr) (xm : Nat) (xd : Nat) => wS3.heap.size ≤ wD3_17.heap.size ∧ (wS3.heap.size ≤ B9 ∧ B9 < wD3_17.heap.size) ∧ Ext w wD3_17 ∧ Lay 3 wD3_17 B4 (.agg #[.slice sA ns sc, .slice iA m ic, .int .i64 fl]) ∧ Lay 3 wD3_17 B5 (.agg #[.slice tA nt tc, .slice jA r jc, .int .i64 fq]) ∧ Lay 4 wD3_17 B9 zeroIt ∧ Room 4 wD3_17 B9 ∧ Rd (fun w' => ItAt w' (ax.add (i * 4)) ⟨xk, xn, xc, xA, xm, xd⟩) wD3_17 (fun i => i < wD3_17.heap.size ∧ i ≠ B9) ∧ Rd (fun _ => PX ⟨xk, xn, xc, xA, xm, xd⟩) wD3_17 (fun _ => False))
      intro JD3_17
      apply joinK9 (F := fun (wD3_18 : World) (B10 : Nat) (ax : Addr) (xcap : Nat) (xk : Int) (xn : Nat) (xc : Int) (xA : Option Addr) (xm : Nat) (xd : Nat) => wS3.heap.size ≤ wD3_18.heap.size ∧ (wS3.heap.size ≤ B10 ∧ B10 < wD3_18.heap.size) ∧ Ext w wD3_18 ∧ Lay 3 wD3_18 B4 (.agg #[.slice sA ns sc, .slice iA m ic, .int .i64 fl]) ∧ Lay 3 wD3_18 B5 (.agg #[.slice tA nt tc, .slice jA r jc, .int .i64 fq]) ∧ Lay 4 wD3_18 B10 zeroIt ∧ Room 4 wD3_18 B10 ∧ Rd (fun w' => ItAt w' (ax.add (i * 4)) ⟨xk, xn, xc, xA, xm, xd⟩) wD3_18 (fun i => i < wD3_18.heap.size ∧ i ≠ B10) ∧ Rd (fun _ => PX ⟨xk, xn, xc, xA, xm, xd⟩) wD3_18 (fun _ => False))
      intro JD3_18
      apply joinK10 (F := fun (wD3_19 : World) (B9 : Nat) (B10 : Nat) (ax : Addr) (xcap : Nat) (xk : Int) (xn : Nat) (xc : Int) (xA : Option Addr) (xm : Nat) (xd : Nat) => wS3.heap.size ≤ wD3_19.heap.size ∧ (wS3.heap.size ≤ B9 ∧ B9 < wD3_19.heap.size) ∧ (wS3.heap.size ≤ B10 ∧ B10 < wD3_19.heap.size) ∧ B9 ≠ B10 ∧ Ext w wD3_19 ∧ Lay 3 wD3_19 B4 (.agg #[.slice sA ns sc, .slice iA m ic, .int .i64 fl]) ∧ Lay 3 wD3_19 B5 (.agg #[.slice tA nt tc, .slice jA r jc, .int .i64 fq]) ∧ Lay 4 wD3_19 B9 zeroIt ∧ Lay 4 wD3_19 B10 zeroIt ∧ Room 4 wD3_19 B9 ∧ Room 4 wD3_19 B10 ∧ Rd (fun w' => ItAt w' (ax.add (i * 4)) ⟨xk, xn, xc, xA, xm, xd⟩) wD3_19 (fun i => i < wD3_19.heap.size ∧ i ≠ B9 ∧ i ≠ B10) ∧ Rd (fun _ => PX ⟨xk, xn, xc, xA, xm, xd⟩) wD3_19 (fun _ => False))
      intro JD3_19
      apply joinK9 (F := fun (wD3_20 : World) (B9 : Nat) (ax : Addr) (xcap : Nat) (xk : Int) (xn : Nat) (xc : Int) (xA : Option Addr) (xm : Nat) (xd : Nat) => wS3.heap.size ≤ wD3_20.heap.size ∧ (wS3.heap.size ≤ B9 ∧ B9 < wD3_20.heap.size) ∧ Ext w wD3_20 ∧ Lay 3 wD3_20 B4 (.agg #[.slice sA ns sc, .slice iA m ic, .int .i64 fl]) ∧ Lay 3 wD3_20 B5 (.agg #[.slice tA nt tc, .slice jA r jc, .int .i64 fq]) ∧ Lay 4 wD3_20 B9 zeroIt ∧ Room 4 wD3_20 B9 ∧ Rd (fun w' => ItAt w' (ax.add (i * 4)) ⟨xk, xn, xc, xA, xm, xd⟩) wD3_20 (fun i => i < wD3_20.heap.size ∧ i ≠ B9) ∧ Rd (fun _ => PX ⟨xk, xn, xc, xA, xm, xd⟩) wD3_20 (fun _ => False))
      intro JD3_20
      apply joinK9 (F := fun (wD3_21 : World) (B10 : Nat) (ax : Addr) (xcap : Nat) (xk : Int) (xn : Nat) (xc : Int) (xA : Option Addr) (xm : Nat) (xd : Nat) => wS3.heap.size ≤ wD3_21.heap.size ∧ (wS3.heap.size ≤ B10 ∧ B10 < wD3_21.heap.size) ∧ Ext w wD3_21 ∧ Lay 3 wD3_21 B4 (.agg #[.slice sA ns sc, .slice iA m ic, .int .i64 fl]) ∧ Lay 3 wD3_21 B5 (.agg #[.slice tA nt tc, .slice jA r jc, .int .i64 fq]) ∧ Lay 4 wD3_21 B10 zeroIt ∧ Room 4 wD3_21 B10 ∧ Rd (fun w' => ItAt w' (ax.add (i * 4)) ⟨xk, xn, xc, xA, xm, xd⟩) wD3_21 (fun i => i < wD3_21.heap.size ∧ i ≠ B10) ∧ Rd (fun _ => PX ⟨xk, xn, xc, xA, xm, xd⟩) wD3_21 (fun _ => False))
      intro JD3_21
      apply joinK2 (F := fun (wD3_22 : World) (B9 : Nat) (B10 : Nat) => wS3.heap.size ≤ wD3_22.heap.size ∧ (wS3.heap.size ≤ B9 ∧ B9 < wD3_22.heap.size) ∧ (wS3.heap.size ≤ B10 ∧ B10 < wD3_22.heap.size) ∧ B9 ≠ B10 ∧ Ext w wD3_22 ∧ Lay 3 wD3_22 B4 (.agg #[.slice sA ns sc, .slice iA m ic, .int .i64 fl]) ∧ Lay 3 wD3_22 B5 (.agg #[.slice tA nt tc, .slice jA r jc, .int .i64 fq]) ∧ Lay 4 wD3_22 B9 zeroIt ∧ Lay 4 wD3_22 B10 zeroIt ∧ Room 4 wD3_22 B9 ∧ Room 4 wD3_22 B10)
      intro JD3_22
      · have hJQ := hJS
        obtain ⟨z9, E, LB4, LB5⟩ := hJQ
        have hq10 : wS3.heap.size ≤ wS3.drew.heap.size := Nat.le_refl _
        have z11 := (Ext.refl wS3).drew.size
        replace E := E.trans (Ext.refl wS3).drew
        replace LB4 := LB4.ext (Ext.refl wS3).drew
        replace LB5 := LB5.ext (Ext.refl wS3).drew
        have hHeld := And.intro LB4 (LB5)
        refine wpAnyH_take (i := 0) (oi := { dst := some 55, op := Go.Op.load 29 (Go.Operand.tmp 4), type := 29, pos := "law.go:31", after := #[], guard := none }) (v := (.agg #[.slice sA ns sc, .slice iA m ic, .int .i64 fl])) rfl (by kernel_rfl) (by kernel_rfl) (by kernel_rfl) (fun _ _ _ h => h) (yieldP (by rfl) rfl rfl fun w' hx => hx.1) hHeld ?_
        try simp only [Act.put, List.setIfInBounds_toArray, List.set_cons_zero, List.set_cons_succ]
        refine wpAnyH_take (i := 3) (oi := { dst := some 58, op := Go.Op.move (Go.Operand.tmp 2), type := 3, pos := "law.go:31", after := #[], guard := none }) (v := ?v13f1f1) rfl (by kernel_rfl) (by kernel_rfl) (by kernel_rfl) (fun _ _ _ h => h) (Or.inl ⟨by rfl, ?hy13f1f1⟩) hHeld ?rest13f1f1
        case hy13f1f1 => (intro w hSw; (try dsimp only at hSw); go_simp; (first | done | with_reducible rfl))
        try simp only [Act.put, List.setIfInBounds_toArray, List.set_cons_zero, List.set_cons_succ]
        refine wpAnyH_take (i := 6) (oi := { dst := some 61, op := Go.Op.load 29 (Go.Operand.tmp 5), type := 29, pos := "law.go:31", after := #[], guard := none }) (v := (.agg #[.slice tA nt tc, .slice jA r jc, .int .i64 fq])) rfl (by kernel_rfl) (by kernel_rfl) (by kernel_rfl) (fun _ _ _ h => h) (yieldP (by rfl) rfl rfl fun w' hx => hx.2) hHeld ?_
        try simp only [Act.put, List.setIfInBounds_toArray, List.set_cons_zero, List.set_cons_succ]
        refine wpAnyH_take (i := 9) (oi := { dst := some 64, op := Go.Op.move (Go.Operand.tmp 3), type := 3, pos := "law.go:31", after := #[{ on := 14, ground := Go.Ground.gcOnly Go.Departure.lateStores }], guard := none }) (v := ?v15f1f1) rfl (by kernel_rfl) (by kernel_rfl) (by kernel_rfl) (fun _ _ _ h => h) (Or.inl ⟨by rfl, ?hy15f1f1⟩) hHeld ?rest15f1f1
        case hy15f1f1 => (intro w hSw; (try dsimp only at hSw); go_simp; (first | done | with_reducible rfl))
        try simp only [Act.put, List.setIfInBounds_toArray, List.set_cons_zero, List.set_cons_succ]
        refine wpAnyH_ready (rs := [1, 12, 13]) (by kernel_rfl) (by simp) ?_
        refine AllReadyH.cons (o := ocop_3_1) rfl (fun K hK => ?_) (AllReadyH.cons (o := ocop_3_12) rfl (fun K hK => ?_) (AllReadyH.cons (o := ocop_3_13) rfl (fun K hK => ?_) (AllReadyH.nil)))
        · dsimp only [ocop_3_1]
          go_simp
          refine (ct _ E).mono ?_
          rintro e w56 ⟨ax, xcap, xk, xn, xc, xA, xm, xd, rfl, hpx, hq, x⟩
          have HX := hq.now
          have HPX := rd_const hpx w56 (fun _ => False)
          clear hq hpx
          have z16 := x.size
          replace E := E.trans x
          replace LB4 := LB4.ext x
          replace LB5 := LB5.ext x
          clear x
          clear hHeld
          have hHeld := And.intro LB4 (LB5)
          refine hK.out _ _ hHeld (fun _ => ?_)
          clear hK K
          try simp only [Act.put, List.setIfInBounds_toArray, List.set_cons_zero, List.set_cons_succ]
          refine wpAnyH_take (i := 2) (oi := { dst := some 57, op := Go.Op.field 29 (Go.Operand.tmp 56) 1, type := 27, pos := "law.go:31", after := #[{ on := 1, ground := Go.Ground.data }], guard := none }) (v := .slice (some ax) m xcap) rfl (by kernel_rfl) (by kernel_rfl) (by kernel_rfl) (fun _ _ _ h => h) (Or.inl ⟨by rfl, ?hy17f1f1⟩) hHeld ?rest17f1f1
          case hy17f1f1 => (intro w hSw; (try dsimp only at hSw); go_simp; try (first | rfl | (simp [Sem.run]; done)); (first | done | with_reducible rfl))
          try simp only [Act.put, List.setIfInBounds_toArray, List.set_cons_zero, List.set_cons_succ]
          refine wpAnyH_take (i := 4) (oi := { dst := some 59, op := Go.Op.indexAddr 27 (Go.Operand.tmp 57) (Go.Operand.tmp 58), type := 0, pos := "law.go:31", after := #[{ on := 2, ground := Go.Ground.data }, { on := 3, ground := Go.Ground.data }], guard := none }) (v := .pointer (some (ax.add (i * 4)))) rfl (by kernel_rfl) (by kernel_rfl) (by kernel_rfl) (fun _ _ _ h => h) (Or.inl ⟨by rfl, ?hy18f1f1⟩) hHeld ?rest18f1f1
          case hy18f1f1 => (intro w hSw; (try dsimp only at hSw); go_simp; try rw [if_pos (by omega)]; try rw [Int.toNat_natCast]; (first | done | with_reducible rfl))
          try simp only [Act.put, List.setIfInBounds_toArray, List.set_cons_zero, List.set_cons_succ]
          refine wpAnyH_ready (rs := [5, 7, 12, 13]) (by kernel_rfl) (by simp) ?_
          refine AllReadyH.cons (o := ocop_3_5) rfl (fun K hK => ?_) (AllReadyH.cons (o := ocop_3_7) rfl (fun K hK => ?_) (AllReadyH.cons (o := ocop_3_12) rfl (fun K hK => ?_) (AllReadyH.cons (o := ocop_3_13) rfl (fun K hK => ?_) (AllReadyH.nil))))
          · dsimp only [ocop_3_5]
            rw [if_pos (by rfl)]
            refine load_it rfl rfl (HX.is) ?_
            clear hHeld
            have hHeld := And.intro LB4 (LB5)
            refine hK.out _ _ hHeld (fun _ => ?_)
            clear hK K
            try simp only [Act.put, List.setIfInBounds_toArray, List.set_cons_zero, List.set_cons_succ]
            refine wpAnyH_ready (rs := [7, 12, 13]) (by kernel_rfl) (by simp) ?_
            refine AllReadyH.cons (o := ocop_3_7) rfl (fun K hK => ?_) (AllReadyH.cons (o := ocop_3_12) rfl (fun K hK => ?_) (AllReadyH.cons (o := ocop_3_13) rfl (fun K hK => ?_) (AllReadyH.nil)))
            · dsimp only [ocop_3_7]
              go_simp
              refine (cu _ E).mono ?_
              rintro e w62 ⟨ay, ycap, yk, yn, yc, yA, ym, yd, rfl, hpy, hq, x⟩
              have HY := hq.now
              have HPY := rd_const hpy w62 (fun _ => False)
              clear hq hpy
              have z19 := x.size
              replace E := E.trans x
              replace LB4 := LB4.ext x
              replace LB5 := LB5.ext x
              replace HX := HX.ext x
              replace HPX := HPX.ext x
              clear x
              clear hHeld
              have hHeld := And.intro LB4 (LB5)
              refine hK.out _ _ hHeld (fun _ => ?_)
              clear hK K
              try simp only [Act.put, List.setIfInBounds_toArray, List.set_cons_zero, List.set_cons_succ]
              refine wpAnyH_take (i := 8) (oi := { dst := some 63, op := Go.Op.field 29 (Go.Operand.tmp 62) 1, type := 27, pos := "law.go:31", after := #[{ on := 7, ground := Go.Ground.data }, { on := 14, ground := Go.Ground.gcOnly Go.Departure.lateStores }], guard := none }) (v := .slice (some ay) r ycap) rfl (by kernel_rfl) (by kernel_rfl) (by kernel_rfl) (fun _ _ _ h => h) (Or.inl ⟨by rfl, ?hy20f1f1⟩) hHeld ?rest20f1f1
              case hy20f1f1 => (intro w hSw; (try dsimp only at hSw); go_simp; try (first | rfl | (simp [Sem.run]; done)); (first | done | with_reducible rfl))
              try simp only [Act.put, List.setIfInBounds_toArray, List.set_cons_zero, List.set_cons_succ]
              refine wpAnyH_take (i := 10) (oi := { dst := some 65, op := Go.Op.indexAddr 27 (Go.Operand.tmp 63) (Go.Operand.tmp 64), type := 0, pos := "law.go:31", after := #[{ on := 8, ground := Go.Ground.data }, { on := 9, ground := Go.Ground.data }, { on := 14, ground := Go.Ground.gcOnly Go.Departure.lateStores }], guard := none }) (v := .pointer (some (ay.add (k * 4)))) rfl (by kernel_rfl) (by kernel_rfl) (by kernel_rfl) (fun _ _ _ h => h) (Or.inl ⟨by rfl, ?hy21f1f1⟩) hHeld ?rest21f1f1
              case hy21f1f1 => (intro w hSw; (try dsimp only at hSw); go_simp; try rw [if_pos (by omega)]; try rw [Int.toNat_natCast]; (first | done | with_reducible rfl))
              try simp only [Act.put, List.setIfInBounds_toArray, List.set_cons_zero, List.set_cons_succ]
              refine JD3_13 w62 ax xcap xk xn xc xA xm xd ay ycap yk yn yc yA ym yd ?_
              exact ⟨by omega, E, LB4, LB5, (HX.mono (fun i hi h => by ((try dsimp only [New] at h); omega))), HPX, (HY.mono (fun i hi h => by ((try dsimp only [New] at h); omega))), HPY⟩
            · dsimp only [ocop_3_12]
              rw [if_pos (by rfl)]
              refine allocI rfl ?_
              intro B9 w9 bB9 cB9 XB9 LB9 RB9
              have z22 := XB9.size
              replace E := E.trans XB9
              replace LB4 := LB4.ext XB9
              replace LB5 := LB5.ext XB9
              replace HX := HX.ext XB9
              replace HPX := HPX.ext XB9
              clear hHeld
              have hHeld := And.intro LB4 (LB5)
              refine hK.out _ _ hHeld (fun _ => ?_)
              clear hK K
              try simp only [Act.put, List.setIfInBounds_toArray, List.set_cons_zero, List.set_cons_succ]
              refine JD3_17 w9 B9 ax xcap xk xn xc xA xm xd ?_
              exact ⟨by omega, ⟨by omega, by omega⟩, E, LB4, LB5, LB9, RB9, (HX.mono (fun i hi h => by ((try dsimp only [New] at h); omega))), HPX⟩
            · dsimp only [ocop_3_13]
              rw [if_pos (by rfl)]
              refine allocI rfl ?_
              intro B10 w10 bB10 cB10 XB10 LB10 RB10
              have z23 := XB10.size
              replace E := E.trans XB10
              replace LB4 := LB4.ext XB10
              replace LB5 := LB5.ext XB10
              replace HX := HX.ext XB10
              replace HPX := HPX.ext XB10
              clear hHeld
              have hHeld := And.intro LB4 (LB5)
              refine hK.out _ _ hHeld (fun _ => ?_)
              clear hK K
              try simp only [Act.put, List.setIfInBounds_toArray, List.set_cons_zero, List.set_cons_succ]
              refine JD3_18 w10 B10 ax xcap xk xn xc xA xm xd ?_
              exact ⟨by omega, ⟨by omega, by omega⟩, E, LB4, LB5, LB10, RB10, (HX.mono (fun i hi h => by ((try dsimp only [New] at h); omega))), HPX⟩
          · dsimp only [ocop_3_7]
            go_simp
            refine (cu _ E).mono ?_
            rintro e w62 ⟨ay, ycap, yk, yn, yc, yA, ym, yd, rfl, hpy, hq, x⟩
            have HY := hq.now
            have HPY := rd_const hpy w62 (fun _ => False)
            clear hq hpy
            have z24 := x.size
            replace E := E.trans x
            replace LB4 := LB4.ext x
            replace LB5 := LB5.ext x
            replace HX := HX.ext x
            replace HPX := HPX.ext x
            clear x
            clear hHeld
            have hHeld := And.intro LB4 (LB5)
            refine hK.out _ _ hHeld (fun _ => ?_)
            clear hK K
            try simp only [Act.put, List.setIfInBounds_toArray, List.set_cons_zero, List.set_cons_succ]
            refine wpAnyH_take (i := 8) (oi := { dst := some 63, op := Go.Op.field 29 (Go.Operand.tmp 62) 1, type := 27, pos := "law.go:31", after := #[{ on := 7, ground := Go.Ground.data }, { on := 14, ground := Go.Ground.gcOnly Go.Departure.lateStores }], guard := none }) (v := .slice (some ay) r ycap) rfl (by kernel_rfl) (by kernel_rfl) (by kernel_rfl) (fun _ _ _ h => h) (Or.inl ⟨by rfl, ?hy25f1f1⟩) hHeld ?rest25f1f1
            case hy25f1f1 => (intro w hSw; (try dsimp only at hSw); go_simp; try (first | rfl | (simp [Sem.run]; done)); (first | done | with_reducible rfl))
            try simp only [Act.put, List.setIfInBounds_toArray, List.set_cons_zero, List.set_cons_succ]
            refine wpAnyH_take (i := 10) (oi := { dst := some 65, op := Go.Op.indexAddr 27 (Go.Operand.tmp 63) (Go.Operand.tmp 64), type := 0, pos := "law.go:31", after := #[{ on := 8, ground := Go.Ground.data }, { on := 9, ground := Go.Ground.data }, { on := 14, ground := Go.Ground.gcOnly Go.Departure.lateStores }], guard := none }) (v := .pointer (some (ay.add (k * 4)))) rfl (by kernel_rfl) (by kernel_rfl) (by kernel_rfl) (fun _ _ _ h => h) (Or.inl ⟨by rfl, ?hy26f1f1⟩) hHeld ?rest26f1f1
            case hy26f1f1 => (intro w hSw; (try dsimp only at hSw); go_simp; try rw [if_pos (by omega)]; try rw [Int.toNat_natCast]; (first | done | with_reducible rfl))
            try simp only [Act.put, List.setIfInBounds_toArray, List.set_cons_zero, List.set_cons_succ]
            refine wpAnyH_ready (rs := [5, 11, 12, 13]) (by kernel_rfl) (by simp) ?_
            refine AllReadyH.cons (o := ocop_3_5) rfl (fun K hK => ?_) (AllReadyH.cons (o := ocop_3_11) rfl (fun K hK => ?_) (AllReadyH.cons (o := ocop_3_12) rfl (fun K hK => ?_) (AllReadyH.cons (o := ocop_3_13) rfl (fun K hK => ?_) (AllReadyH.nil))))
            · dsimp only [ocop_3_5]
              rw [if_pos (by rfl)]
              refine load_it rfl rfl (HX.is) ?_
              clear hHeld
              have hHeld := And.intro LB4 (LB5)
              refine hK.out _ _ hHeld (fun _ => ?_)
              clear hK K
              try simp only [Act.put, List.setIfInBounds_toArray, List.set_cons_zero, List.set_cons_succ]
              refine JD3_13 w62 ax xcap xk xn xc xA xm xd ay ycap yk yn yc yA ym yd ?_
              exact ⟨by omega, E, LB4, LB5, (HX.mono (fun i hi h => by ((try dsimp only [New] at h); omega))), HPX, (HY.mono (fun i hi h => by ((try dsimp only [New] at h); omega))), HPY⟩
            · dsimp only [ocop_3_11]
              rw [if_pos (by rfl)]
              refine load_it rfl rfl (HY.is) ?_
              clear hHeld
              have hHeld := And.intro LB4 (LB5)
              refine hK.out _ _ hHeld (fun _ => ?_)
              clear hK K
              try simp only [Act.put, List.setIfInBounds_toArray, List.set_cons_zero, List.set_cons_succ]
              refine wpAnyH_ready (rs := [5, 12, 13]) (by kernel_rfl) (by simp) ?_
              refine AllReadyH.cons (o := ocop_3_5) rfl (fun K hK => ?_) (AllReadyH.cons (o := ocop_3_12) rfl (fun K hK => ?_) (AllReadyH.cons (o := ocop_3_13) rfl (fun K hK => ?_) (AllReadyH.nil)))
              · dsimp only [ocop_3_5]
                rw [if_pos (by rfl)]
                refine load_it rfl rfl (HX.is) ?_
                clear hHeld
                have hHeld := And.intro LB4 (LB5)
                refine hK.out _ _ hHeld (fun _ => ?_)
                clear hK K
                try simp only [Act.put, List.setIfInBounds_toArray, List.set_cons_zero, List.set_cons_succ]
                refine JD3_7 w62 ax xcap xk xn xc xA xm xd ay ycap yk yn yc yA ym yd ?_
                exact ⟨by omega, E, LB4, LB5, (HX.mono (fun i hi h => by ((try dsimp only [New] at h); omega))), HPX, (HY.mono (fun i hi h => by ((try dsimp only [New] at h); omega))), HPY⟩
              · dsimp only [ocop_3_12]
                rw [if_pos (by rfl)]
                refine allocI rfl ?_
                intro B9 w9 bB9 cB9 XB9 LB9 RB9
                have z27 := XB9.size
                replace E := E.trans XB9
                replace LB4 := LB4.ext XB9
                replace LB5 := LB5.ext XB9
                replace HX := HX.ext XB9
                replace HPX := HPX.ext XB9
                replace HY := HY.ext XB9
                replace HPY := HPY.ext XB9
                clear hHeld
                have hHeld := And.intro LB4 (LB5)
                refine hK.out _ _ hHeld (fun _ => ?_)
                clear hK K
                try simp only [Act.put, List.setIfInBounds_toArray, List.set_cons_zero, List.set_cons_succ]
                refine JD3_10 w9 B9 ax xcap xk xn xc xA xm xd ay ycap yk yn yc yA ym yd ?_
                exact ⟨by omega, ⟨by omega, by omega⟩, E, LB4, LB5, LB9, RB9, (HX.mono (fun i hi h => by ((try dsimp only [New] at h); omega))), HPX, (HY.mono (fun i hi h => by ((try dsimp only [New] at h); omega))), HPY⟩
              · dsimp only [ocop_3_13]
                rw [if_pos (by rfl)]
                refine allocI rfl ?_
                intro B10 w10 bB10 cB10 XB10 LB10 RB10
                have z28 := XB10.size
                replace E := E.trans XB10
                replace LB4 := LB4.ext XB10
                replace LB5 := LB5.ext XB10
                replace HX := HX.ext XB10
                replace HPX := HPX.ext XB10
                replace HY := HY.ext XB10
                replace HPY := HPY.ext XB10
                clear hHeld
                have hHeld := And.intro LB4 (LB5)
                refine hK.out _ _ hHeld (fun _ => ?_)
                clear hK K
                try simp only [Act.put, List.setIfInBounds_toArray, List.set_cons_zero, List.set_cons_succ]
                refine JD3_11 w10 B10 ax xcap xk xn xc xA xm xd ay ycap yk yn yc yA ym yd ?_
                exact ⟨by omega, ⟨by omega, by omega⟩, E, LB4, LB5, LB10, RB10, (HX.mono (fun i hi h => by ((try dsimp only [New] at h); omega))), HPX, (HY.mono (fun i hi h => by ((try dsimp only [New] at h); omega))), HPY⟩
            · dsimp only [ocop_3_12]
              rw [if_pos (by rfl)]
              refine allocI rfl ?_
              intro B9 w9 bB9 cB9 XB9 LB9 RB9
              have z29 := XB9.size
              replace E := E.trans XB9
              replace LB4 := LB4.ext XB9
              replace LB5 := LB5.ext XB9
              replace HX := HX.ext XB9
              replace HPX := HPX.ext XB9
              replace HY := HY.ext XB9
              replace HPY := HPY.ext XB9
              clear hHeld
              have hHeld := And.intro LB4 (LB5)
              refine hK.out _ _ hHeld (fun _ => ?_)
              clear hK K
              try simp only [Act.put, List.setIfInBounds_toArray, List.set_cons_zero, List.set_cons_succ]
              refine JD3_14 w9 B9 ax xcap xk xn xc xA xm xd ay ycap yk yn yc yA ym yd ?_
              exact ⟨by omega, ⟨by omega, by omega⟩, E, LB4, LB5, LB9, RB9, (HX.mono (fun i hi h => by ((try dsimp only [New] at h); omega))), HPX, (HY.mono (fun i hi h => by ((try dsimp only [New] at h); omega))), HPY⟩
            · dsimp only [ocop_3_13]
              rw [if_pos (by rfl)]
              refine allocI rfl ?_
              intro B10 w10 bB10 cB10 XB10 LB10 RB10
              have z30 := XB10.size
              replace E := E.trans XB10
              replace LB4 := LB4.ext XB10
              replace LB5 := LB5.ext XB10
              replace HX := HX.ext XB10
              replace HPX := HPX.ext XB10
              replace HY := HY.ext XB10
              replace HPY := HPY.ext XB10
              clear hHeld
              have hHeld := And.intro LB4 (LB5)
              refine hK.out _ _ hHeld (fun _ => ?_)
              clear hK K
              try simp only [Act.put, List.setIfInBounds_toArray, List.set_cons_zero, List.set_cons_succ]
              refine JD3_15 w10 B10 ax xcap xk xn xc xA xm xd ay ycap yk yn yc yA ym yd ?_
              exact ⟨by omega, ⟨by omega, by omega⟩, E, LB4, LB5, LB10, RB10, (HX.mono (fun i hi h => by ((try dsimp only [New] at h); omega))), HPX, (HY.mono (fun i hi h => by ((try dsimp only [New] at h); omega))), HPY⟩
          · dsimp only [ocop_3_12]
            rw [if_pos (by rfl)]
            refine allocI rfl ?_
            intro B9 w9 bB9 cB9 XB9 LB9 RB9
            have z31 := XB9.size
            replace E := E.trans XB9
            replace LB4 := LB4.ext XB9
            replace LB5 := LB5.ext XB9
            replace HX := HX.ext XB9
            replace HPX := HPX.ext XB9
            clear hHeld
            have hHeld := And.intro LB4 (LB5)
            refine hK.out _ _ hHeld (fun _ => ?_)
            clear hK K
            try simp only [Act.put, List.setIfInBounds_toArray, List.set_cons_zero, List.set_cons_succ]
            refine JD3_20 w9 B9 ax xcap xk xn xc xA xm xd ?_
            exact ⟨by omega, ⟨by omega, by omega⟩, E, LB4, LB5, LB9, RB9, (HX.mono (fun i hi h => by ((try dsimp only [New] at h); omega))), HPX⟩
          · dsimp only [ocop_3_13]
            rw [if_pos (by rfl)]
            refine allocI rfl ?_
            intro B10 w10 bB10 cB10 XB10 LB10 RB10
            have z32 := XB10.size
            replace E := E.trans XB10
            replace LB4 := LB4.ext XB10
            replace LB5 := LB5.ext XB10
            replace HX := HX.ext XB10
            replace HPX := HPX.ext XB10
            clear hHeld
            have hHeld := And.intro LB4 (LB5)
            refine hK.out _ _ hHeld (fun _ => ?_)
            clear hK K
            try simp only [Act.put, List.setIfInBounds_toArray, List.set_cons_zero, List.set_cons_succ]
            refine JD3_21 w10 B10 ax xcap xk xn xc xA xm xd ?_
            exact ⟨by omega, ⟨by omega, by omega⟩, E, LB4, LB5, LB10, RB10, (HX.mono (fun i hi h => by ((try dsimp only [New] at h); omega))), HPX⟩
        · dsimp only [ocop_3_12]
          rw [if_pos (by rfl)]
          refine allocI rfl ?_
          intro B9 w9 bB9 cB9 XB9 LB9 RB9
          have z33 := XB9.size
          replace E := E.trans XB9
          replace LB4 := LB4.ext XB9
          replace LB5 := LB5.ext XB9
          clear hHeld
          have hHeld := And.intro LB4 (LB5)
          refine hK.out _ _ hHeld (fun _ => ?_)
          clear hK K
          try simp only [Act.put, List.setIfInBounds_toArray, List.set_cons_zero, List.set_cons_succ]
          refine wpAnyH_ready (rs := [1, 13]) (by kernel_rfl) (by simp) ?_
          refine AllReadyH.cons (o := ocop_3_1) rfl (fun K hK => ?_) (AllReadyH.cons (o := ocop_3_13) rfl (fun K hK => ?_) (AllReadyH.nil))
          · dsimp only [ocop_3_1]
            go_simp
            refine (ct _ E).mono ?_
            rintro e w56 ⟨ax, xcap, xk, xn, xc, xA, xm, xd, rfl, hpx, hq, x⟩
            have HX := hq.now
            have HPX := rd_const hpx w56 (fun _ => False)
            clear hq hpx
            have z34 := x.size
            replace E := E.trans x
            replace LB4 := LB4.ext x
            replace LB5 := LB5.ext x
            replace LB9 := LB9.ext x
            replace RB9 := RB9.ext x
            clear x
            clear hHeld
            have hHeld := And.intro LB4 (LB5)
            refine hK.out _ _ hHeld (fun _ => ?_)
            clear hK K
            try simp only [Act.put, List.setIfInBounds_toArray, List.set_cons_zero, List.set_cons_succ]
            refine wpAnyH_take (i := 2) (oi := { dst := some 57, op := Go.Op.field 29 (Go.Operand.tmp 56) 1, type := 27, pos := "law.go:31", after := #[{ on := 1, ground := Go.Ground.data }], guard := none }) (v := .slice (some ax) m xcap) rfl (by kernel_rfl) (by kernel_rfl) (by kernel_rfl) (fun _ _ _ h => h) (Or.inl ⟨by rfl, ?hy35f1f1⟩) hHeld ?rest35f1f1
            case hy35f1f1 => (intro w hSw; (try dsimp only at hSw); go_simp; try (first | rfl | (simp [Sem.run]; done)); (first | done | with_reducible rfl))
            try simp only [Act.put, List.setIfInBounds_toArray, List.set_cons_zero, List.set_cons_succ]
            refine wpAnyH_take (i := 4) (oi := { dst := some 59, op := Go.Op.indexAddr 27 (Go.Operand.tmp 57) (Go.Operand.tmp 58), type := 0, pos := "law.go:31", after := #[{ on := 2, ground := Go.Ground.data }, { on := 3, ground := Go.Ground.data }], guard := none }) (v := .pointer (some (ax.add (i * 4)))) rfl (by kernel_rfl) (by kernel_rfl) (by kernel_rfl) (fun _ _ _ h => h) (Or.inl ⟨by rfl, ?hy36f1f1⟩) hHeld ?rest36f1f1
            case hy36f1f1 => (intro w hSw; (try dsimp only at hSw); go_simp; try rw [if_pos (by omega)]; try rw [Int.toNat_natCast]; (first | done | with_reducible rfl))
            try simp only [Act.put, List.setIfInBounds_toArray, List.set_cons_zero, List.set_cons_succ]
            refine JD3_20 w56 B9 ax xcap xk xn xc xA xm xd ?_
            exact ⟨by omega, ⟨by omega, by omega⟩, E, LB4, LB5, LB9, RB9, (HX.mono (fun i hi h => by ((try dsimp only [New] at h); omega))), HPX⟩
          · dsimp only [ocop_3_13]
            rw [if_pos (by rfl)]
            refine allocI rfl ?_
            intro B10 w10 bB10 cB10 XB10 LB10 RB10
            have z37 := XB10.size
            replace E := E.trans XB10
            replace LB4 := LB4.ext XB10
            replace LB5 := LB5.ext XB10
            replace LB9 := LB9.ext XB10
            replace RB9 := RB9.ext XB10
            clear hHeld
            have hHeld := And.intro LB4 (LB5)
            refine hK.out _ _ hHeld (fun _ => ?_)
            clear hK K
            try simp only [Act.put, List.setIfInBounds_toArray, List.set_cons_zero, List.set_cons_succ]
            refine JD3_22 w10 B9 B10 ?_
            exact ⟨by omega, ⟨by omega, by omega⟩, ⟨by omega, by omega⟩, by omega, E, LB4, LB5, LB9, LB10, RB9, RB10⟩
        · dsimp only [ocop_3_13]
          rw [if_pos (by rfl)]
          refine allocI rfl ?_
          intro B10 w10 bB10 cB10 XB10 LB10 RB10
          have z38 := XB10.size
          replace E := E.trans XB10
          replace LB4 := LB4.ext XB10
          replace LB5 := LB5.ext XB10
          clear hHeld
          have hHeld := And.intro LB4 (LB5)
          refine hK.out _ _ hHeld (fun _ => ?_)
          clear hK K
          try simp only [Act.put, List.setIfInBounds_toArray, List.set_cons_zero, List.set_cons_succ]
          refine wpAnyH_ready (rs := [1, 12]) (by kernel_rfl) (by simp) ?_
          refine AllReadyH.cons (o := ocop_3_1) rfl (fun K hK => ?_) (AllReadyH.cons (o := ocop_3_12) rfl (fun K hK => ?_) (AllReadyH.nil))
          · dsimp only [ocop_3_1]
            go_simp
            refine (ct _ E).mono ?_
            rintro e w56 ⟨ax, xcap, xk, xn, xc, xA, xm, xd, rfl, hpx, hq, x⟩
            have HX := hq.now
            have HPX := rd_const hpx w56 (fun _ => False)
            clear hq hpx
            have z39 := x.size
            replace E := E.trans x
            replace LB4 := LB4.ext x
            replace LB5 := LB5.ext x
            replace LB10 := LB10.ext x
            replace RB10 := RB10.ext x
            clear x
            clear hHeld
            have hHeld := And.intro LB4 (LB5)
            refine hK.out _ _ hHeld (fun _ => ?_)
            clear hK K
            try simp only [Act.put, List.setIfInBounds_toArray, List.set_cons_zero, List.set_cons_succ]
            refine wpAnyH_take (i := 2) (oi := { dst := some 57, op := Go.Op.field 29 (Go.Operand.tmp 56) 1, type := 27, pos := "law.go:31", after := #[{ on := 1, ground := Go.Ground.data }], guard := none }) (v := .slice (some ax) m xcap) rfl (by kernel_rfl) (by kernel_rfl) (by kernel_rfl) (fun _ _ _ h => h) (Or.inl ⟨by rfl, ?hy40f1f1⟩) hHeld ?rest40f1f1
            case hy40f1f1 => (intro w hSw; (try dsimp only at hSw); go_simp; try (first | rfl | (simp [Sem.run]; done)); (first | done | with_reducible rfl))
            try simp only [Act.put, List.setIfInBounds_toArray, List.set_cons_zero, List.set_cons_succ]
            refine wpAnyH_take (i := 4) (oi := { dst := some 59, op := Go.Op.indexAddr 27 (Go.Operand.tmp 57) (Go.Operand.tmp 58), type := 0, pos := "law.go:31", after := #[{ on := 2, ground := Go.Ground.data }, { on := 3, ground := Go.Ground.data }], guard := none }) (v := .pointer (some (ax.add (i * 4)))) rfl (by kernel_rfl) (by kernel_rfl) (by kernel_rfl) (fun _ _ _ h => h) (Or.inl ⟨by rfl, ?hy41f1f1⟩) hHeld ?rest41f1f1
            case hy41f1f1 => (intro w hSw; (try dsimp only at hSw); go_simp; try rw [if_pos (by omega)]; try rw [Int.toNat_natCast]; (first | done | with_reducible rfl))
            try simp only [Act.put, List.setIfInBounds_toArray, List.set_cons_zero, List.set_cons_succ]
            refine JD3_21 w56 B10 ax xcap xk xn xc xA xm xd ?_
            exact ⟨by omega, ⟨by omega, by omega⟩, E, LB4, LB5, LB10, RB10, (HX.mono (fun i hi h => by ((try dsimp only [New] at h); omega))), HPX⟩
          · dsimp only [ocop_3_12]
            rw [if_pos (by rfl)]
            refine allocI rfl ?_
            intro B9 w9 bB9 cB9 XB9 LB9 RB9
            have z42 := XB9.size
            replace E := E.trans XB9
            replace LB4 := LB4.ext XB9
            replace LB5 := LB5.ext XB9
            replace LB10 := LB10.ext XB9
            replace RB10 := RB10.ext XB9
            clear hHeld
            have hHeld := And.intro LB4 (LB5)
            refine hK.out _ _ hHeld (fun _ => ?_)
            clear hK K
            try simp only [Act.put, List.setIfInBounds_toArray, List.set_cons_zero, List.set_cons_succ]
            refine JD3_22 w9 B9 B10 ?_
            exact ⟨by omega, ⟨by omega, by omega⟩, ⟨by omega, by omega⟩, by omega, E, LB4, LB5, LB9, LB10, RB9, RB10⟩
      · intro wD3_22 B9 B10 hJ
        obtain ⟨z43, ⟨bB9, cB9⟩, ⟨bB10, cB10⟩, nB9B10, E, LB4, LB5, LB9, LB10, RB9, RB10⟩ := hJ
        try dsimp only
        have hHeld := And.intro LB4 (LB5)
        refine wpAnyH_ready (rs := [1]) (by kernel_rfl) (by simp) ?_
        refine AllReadyH.cons (o := ocop_3_1) rfl (fun K hK => ?_) (AllReadyH.nil)
        dsimp only [ocop_3_1]
        go_simp
        refine (ct _ E).mono ?_
        rintro e w56 ⟨ax, xcap, xk, xn, xc, xA, xm, xd, rfl, hpx, hq, x⟩
        have HX := hq.now
        have HPX := rd_const hpx w56 (fun _ => False)
        clear hq hpx
        have z44 := x.size
        replace E := E.trans x
        replace LB4 := LB4.ext x
        replace LB5 := LB5.ext x
        replace LB9 := LB9.ext x
        replace LB10 := LB10.ext x
        replace RB9 := RB9.ext x
        replace RB10 := RB10.ext x
        clear x
        clear hHeld
        have hHeld := And.intro LB4 (LB5)
        refine hK.out _ _ hHeld (fun _ => ?_)
        clear hK K
        try simp only [Act.put, List.setIfInBounds_toArray, List.set_cons_zero, List.set_cons_succ]
        refine wpAnyH_take (i := 2) (oi := { dst := some 57, op := Go.Op.field 29 (Go.Operand.tmp 56) 1, type := 27, pos := "law.go:31", after := #[{ on := 1, ground := Go.Ground.data }], guard := none }) (v := .slice (some ax) m xcap) rfl (by kernel_rfl) (by kernel_rfl) (by kernel_rfl) (fun _ _ _ h => h) (Or.inl ⟨by rfl, ?hy45f1f1⟩) hHeld ?rest45f1f1
        case hy45f1f1 => (intro w hSw; (try dsimp only at hSw); go_simp; try (first | rfl | (simp [Sem.run]; done)); (first | done | with_reducible rfl))
        try simp only [Act.put, List.setIfInBounds_toArray, List.set_cons_zero, List.set_cons_succ]
        refine wpAnyH_take (i := 4) (oi := { dst := some 59, op := Go.Op.indexAddr 27 (Go.Operand.tmp 57) (Go.Operand.tmp 58), type := 0, pos := "law.go:31", after := #[{ on := 2, ground := Go.Ground.data }, { on := 3, ground := Go.Ground.data }], guard := none }) (v := .pointer (some (ax.add (i * 4)))) rfl (by kernel_rfl) (by kernel_rfl) (by kernel_rfl) (fun _ _ _ h => h) (Or.inl ⟨by rfl, ?hy46f1f1⟩) hHeld ?rest46f1f1
        case hy46f1f1 => (intro w hSw; (try dsimp only at hSw); go_simp; try rw [if_pos (by omega)]; try rw [Int.toNat_natCast]; (first | done | with_reducible rfl))
        try simp only [Act.put, List.setIfInBounds_toArray, List.set_cons_zero, List.set_cons_succ]
        refine JD3_19 w56 B9 B10 ax xcap xk xn xc xA xm xd ?_
        exact ⟨by omega, ⟨by omega, by omega⟩, ⟨by omega, by omega⟩, by omega, E, LB4, LB5, LB9, LB10, RB9, RB10, (HX.mono (fun i hi h => by ((try dsimp only [New] at h); omega))), HPX⟩
      · intro wD3_21 B10 ax xcap xk xn xc xA xm xd hJ
        obtain ⟨z47, ⟨bB10, cB10⟩, E, LB4, LB5, LB10, RB10, HX, HPX⟩ := hJ
        try dsimp only
        have hHeld := And.intro LB4 (LB5)
        refine wpAnyH_ready (rs := [5, 7, 12]) (by kernel_rfl) (by simp) ?_
        refine AllReadyH.cons (o := ocop_3_5) rfl (fun K hK => ?_) (AllReadyH.cons (o := ocop_3_7) rfl (fun K hK => ?_) (AllReadyH.cons (o := ocop_3_12) rfl (fun K hK => ?_) (AllReadyH.nil)))
        · dsimp only [ocop_3_5]
          rw [if_pos (by rfl)]
          refine load_it rfl rfl (HX.is) ?_
          clear hHeld
          have hHeld := And.intro LB4 (LB5)
          refine hK.out _ _ hHeld (fun _ => ?_)
          clear hK K
          try simp only [Act.put, List.setIfInBounds_toArray, List.set_cons_zero, List.set_cons_succ]
          refine JD3_18 wD3_21 B10 ax xcap xk xn xc xA xm xd ?_
          exact ⟨by omega, ⟨by omega, by omega⟩, E, LB4, LB5, LB10, RB10, (HX.mono (fun i hi h => by ((try dsimp only [New] at h); omega))), HPX⟩
        · dsimp only [ocop_3_7]
          go_simp
          refine (cu _ E).mono ?_
          rintro e w62 ⟨ay, ycap, yk, yn, yc, yA, ym, yd, rfl, hpy, hq, x⟩
          have HY := hq.now
          have HPY := rd_const hpy w62 (fun _ => False)
          clear hq hpy
          have z48 := x.size
          replace E := E.trans x
          replace LB4 := LB4.ext x
          replace LB5 := LB5.ext x
          replace LB10 := LB10.ext x
          replace RB10 := RB10.ext x
          replace HX := HX.ext x
          replace HPX := HPX.ext x
          clear x
          clear hHeld
          have hHeld := And.intro LB4 (LB5)
          refine hK.out _ _ hHeld (fun _ => ?_)
          clear hK K
          try simp only [Act.put, List.setIfInBounds_toArray, List.set_cons_zero, List.set_cons_succ]
          refine wpAnyH_take (i := 8) (oi := { dst := some 63, op := Go.Op.field 29 (Go.Operand.tmp 62) 1, type := 27, pos := "law.go:31", after := #[{ on := 7, ground := Go.Ground.data }, { on := 14, ground := Go.Ground.gcOnly Go.Departure.lateStores }], guard := none }) (v := .slice (some ay) r ycap) rfl (by kernel_rfl) (by kernel_rfl) (by kernel_rfl) (fun _ _ _ h => h) (Or.inl ⟨by rfl, ?hy49f1f1⟩) hHeld ?rest49f1f1
          case hy49f1f1 => (intro w hSw; (try dsimp only at hSw); go_simp; try (first | rfl | (simp [Sem.run]; done)); (first | done | with_reducible rfl))
          try simp only [Act.put, List.setIfInBounds_toArray, List.set_cons_zero, List.set_cons_succ]
          refine wpAnyH_take (i := 10) (oi := { dst := some 65, op := Go.Op.indexAddr 27 (Go.Operand.tmp 63) (Go.Operand.tmp 64), type := 0, pos := "law.go:31", after := #[{ on := 8, ground := Go.Ground.data }, { on := 9, ground := Go.Ground.data }, { on := 14, ground := Go.Ground.gcOnly Go.Departure.lateStores }], guard := none }) (v := .pointer (some (ay.add (k * 4)))) rfl (by kernel_rfl) (by kernel_rfl) (by kernel_rfl) (fun _ _ _ h => h) (Or.inl ⟨by rfl, ?hy50f1f1⟩) hHeld ?rest50f1f1
          case hy50f1f1 => (intro w hSw; (try dsimp only at hSw); go_simp; try rw [if_pos (by omega)]; try rw [Int.toNat_natCast]; (first | done | with_reducible rfl))
          try simp only [Act.put, List.setIfInBounds_toArray, List.set_cons_zero, List.set_cons_succ]
          refine JD3_15 w62 B10 ax xcap xk xn xc xA xm xd ay ycap yk yn yc yA ym yd ?_
          exact ⟨by omega, ⟨by omega, by omega⟩, E, LB4, LB5, LB10, RB10, (HX.mono (fun i hi h => by ((try dsimp only [New] at h); omega))), HPX, (HY.mono (fun i hi h => by ((try dsimp only [New] at h); omega))), HPY⟩
        · dsimp only [ocop_3_12]
          rw [if_pos (by rfl)]
          refine allocI rfl ?_
          intro B9 w9 bB9 cB9 XB9 LB9 RB9
          have z51 := XB9.size
          replace E := E.trans XB9
          replace LB4 := LB4.ext XB9
          replace LB5 := LB5.ext XB9
          replace LB10 := LB10.ext XB9
          replace RB10 := RB10.ext XB9
          replace HX := HX.ext XB9
          replace HPX := HPX.ext XB9
          clear hHeld
          have hHeld := And.intro LB4 (LB5)
          refine hK.out _ _ hHeld (fun _ => ?_)
          clear hK K
          try simp only [Act.put, List.setIfInBounds_toArray, List.set_cons_zero, List.set_cons_succ]
          refine JD3_19 w9 B9 B10 ax xcap xk xn xc xA xm xd ?_
          exact ⟨by omega, ⟨by omega, by omega⟩, ⟨by omega, by omega⟩, by omega, E, LB4, LB5, LB9, LB10, RB9, RB10, (HX.mono (fun i hi h => by ((try dsimp only [New] at h); omega))), HPX⟩
      · intro wD3_20 B9 ax xcap xk xn xc xA xm xd hJ
        obtain ⟨z52, ⟨bB9, cB9⟩, E, LB4, LB5, LB9, RB9, HX, HPX⟩ := hJ
        try dsimp only
        have hHeld := And.intro LB4 (LB5)
        refine wpAnyH_ready (rs := [5, 7, 13]) (by kernel_rfl) (by simp) ?_
        refine AllReadyH.cons (o := ocop_3_5) rfl (fun K hK => ?_) (AllReadyH.cons (o := ocop_3_7) rfl (fun K hK => ?_) (AllReadyH.cons (o := ocop_3_13) rfl (fun K hK => ?_) (AllReadyH.nil)))
        · dsimp only [ocop_3_5]
          rw [if_pos (by rfl)]
          refine load_it rfl rfl (HX.is) ?_
          clear hHeld
          have hHeld := And.intro LB4 (LB5)
          refine hK.out _ _ hHeld (fun _ => ?_)
          clear hK K
          try simp only [Act.put, List.setIfInBounds_toArray, List.set_cons_zero, List.set_cons_succ]
          refine JD3_17 wD3_20 B9 ax xcap xk xn xc xA xm xd ?_
          exact ⟨by omega, ⟨by omega, by omega⟩, E, LB4, LB5, LB9, RB9, (HX.mono (fun i hi h => by ((try dsimp only [New] at h); omega))), HPX⟩
        · dsimp only [ocop_3_7]
          go_simp
          refine (cu _ E).mono ?_
          rintro e w62 ⟨ay, ycap, yk, yn, yc, yA, ym, yd, rfl, hpy, hq, x⟩
          have HY := hq.now
          have HPY := rd_const hpy w62 (fun _ => False)
          clear hq hpy
          have z53 := x.size
          replace E := E.trans x
          replace LB4 := LB4.ext x
          replace LB5 := LB5.ext x
          replace LB9 := LB9.ext x
          replace RB9 := RB9.ext x
          replace HX := HX.ext x
          replace HPX := HPX.ext x
          clear x
          clear hHeld
          have hHeld := And.intro LB4 (LB5)
          refine hK.out _ _ hHeld (fun _ => ?_)
          clear hK K
          try simp only [Act.put, List.setIfInBounds_toArray, List.set_cons_zero, List.set_cons_succ]
          refine wpAnyH_take (i := 8) (oi := { dst := some 63, op := Go.Op.field 29 (Go.Operand.tmp 62) 1, type := 27, pos := "law.go:31", after := #[{ on := 7, ground := Go.Ground.data }, { on := 14, ground := Go.Ground.gcOnly Go.Departure.lateStores }], guard := none }) (v := .slice (some ay) r ycap) rfl (by kernel_rfl) (by kernel_rfl) (by kernel_rfl) (fun _ _ _ h => h) (Or.inl ⟨by rfl, ?hy54f1f1⟩) hHeld ?rest54f1f1
          case hy54f1f1 => (intro w hSw; (try dsimp only at hSw); go_simp; try (first | rfl | (simp [Sem.run]; done)); (first | done | with_reducible rfl))
          try simp only [Act.put, List.setIfInBounds_toArray, List.set_cons_zero, List.set_cons_succ]
          refine wpAnyH_take (i := 10) (oi := { dst := some 65, op := Go.Op.indexAddr 27 (Go.Operand.tmp 63) (Go.Operand.tmp 64), type := 0, pos := "law.go:31", after := #[{ on := 8, ground := Go.Ground.data }, { on := 9, ground := Go.Ground.data }, { on := 14, ground := Go.Ground.gcOnly Go.Departure.lateStores }], guard := none }) (v := .pointer (some (ay.add (k * 4)))) rfl (by kernel_rfl) (by kernel_rfl) (by kernel_rfl) (fun _ _ _ h => h) (Or.inl ⟨by rfl, ?hy55f1f1⟩) hHeld ?rest55f1f1
          case hy55f1f1 => (intro w hSw; (try dsimp only at hSw); go_simp; try rw [if_pos (by omega)]; try rw [Int.toNat_natCast]; (first | done | with_reducible rfl))
          try simp only [Act.put, List.setIfInBounds_toArray, List.set_cons_zero, List.set_cons_succ]
          refine JD3_14 w62 B9 ax xcap xk xn xc xA xm xd ay ycap yk yn yc yA ym yd ?_
          exact ⟨by omega, ⟨by omega, by omega⟩, E, LB4, LB5, LB9, RB9, (HX.mono (fun i hi h => by ((try dsimp only [New] at h); omega))), HPX, (HY.mono (fun i hi h => by ((try dsimp only [New] at h); omega))), HPY⟩
        · dsimp only [ocop_3_13]
          rw [if_pos (by rfl)]
          refine allocI rfl ?_
          intro B10 w10 bB10 cB10 XB10 LB10 RB10
          have z56 := XB10.size
          replace E := E.trans XB10
          replace LB4 := LB4.ext XB10
          replace LB5 := LB5.ext XB10
          replace LB9 := LB9.ext XB10
          replace RB9 := RB9.ext XB10
          replace HX := HX.ext XB10
          replace HPX := HPX.ext XB10
          clear hHeld
          have hHeld := And.intro LB4 (LB5)
          refine hK.out _ _ hHeld (fun _ => ?_)
          clear hK K
          try simp only [Act.put, List.setIfInBounds_toArray, List.set_cons_zero, List.set_cons_succ]
          refine JD3_19 w10 B9 B10 ax xcap xk xn xc xA xm xd ?_
          exact ⟨by omega, ⟨by omega, by omega⟩, ⟨by omega, by omega⟩, by omega, E, LB4, LB5, LB9, LB10, RB9, RB10, (HX.mono (fun i hi h => by ((try dsimp only [New] at h); omega))), HPX⟩
      · intro wD3_19 B9 B10 ax xcap xk xn xc xA xm xd hJ
        obtain ⟨z57, ⟨bB9, cB9⟩, ⟨bB10, cB10⟩, nB9B10, E, LB4, LB5, LB9, LB10, RB9, RB10, HX, HPX⟩ := hJ
        try dsimp only
        have hHeld := And.intro LB4 (LB5)
        refine wpAnyH_ready (rs := [5, 7]) (by kernel_rfl) (by simp) ?_
        refine AllReadyH.cons (o := ocop_3_5) rfl (fun K hK => ?_) (AllReadyH.cons (o := ocop_3_7) rfl (fun K hK => ?_) (AllReadyH.nil))
        · dsimp only [ocop_3_5]
          rw [if_pos (by rfl)]
          refine load_it rfl rfl (HX.is) ?_
          clear hHeld
          have hHeld := And.intro LB4 (LB5)
          refine hK.out _ _ hHeld (fun _ => ?_)
          clear hK K
          try simp only [Act.put, List.setIfInBounds_toArray, List.set_cons_zero, List.set_cons_succ]
          refine JD3_16 wD3_19 B9 B10 ax xcap xk xn xc xA xm xd ?_
          exact ⟨by omega, ⟨by omega, by omega⟩, ⟨by omega, by omega⟩, by omega, E, LB4, LB5, LB9, LB10, RB9, RB10, (HX.mono (fun i hi h => by ((try dsimp only [New] at h); omega))), HPX⟩
        · dsimp only [ocop_3_7]
          go_simp
          refine (cu _ E).mono ?_
          rintro e w62 ⟨ay, ycap, yk, yn, yc, yA, ym, yd, rfl, hpy, hq, x⟩
          have HY := hq.now
          have HPY := rd_const hpy w62 (fun _ => False)
          clear hq hpy
          have z58 := x.size
          replace E := E.trans x
          replace LB4 := LB4.ext x
          replace LB5 := LB5.ext x
          replace LB9 := LB9.ext x
          replace LB10 := LB10.ext x
          replace RB9 := RB9.ext x
          replace RB10 := RB10.ext x
          replace HX := HX.ext x
          replace HPX := HPX.ext x
          clear x
          clear hHeld
          have hHeld := And.intro LB4 (LB5)
          refine hK.out _ _ hHeld (fun _ => ?_)
          clear hK K
          try simp only [Act.put, List.setIfInBounds_toArray, List.set_cons_zero, List.set_cons_succ]
          refine wpAnyH_take (i := 8) (oi := { dst := some 63, op := Go.Op.field 29 (Go.Operand.tmp 62) 1, type := 27, pos := "law.go:31", after := #[{ on := 7, ground := Go.Ground.data }, { on := 14, ground := Go.Ground.gcOnly Go.Departure.lateStores }], guard := none }) (v := .slice (some ay) r ycap) rfl (by kernel_rfl) (by kernel_rfl) (by kernel_rfl) (fun _ _ _ h => h) (Or.inl ⟨by rfl, ?hy59f1f1⟩) hHeld ?rest59f1f1
          case hy59f1f1 => (intro w hSw; (try dsimp only at hSw); go_simp; try (first | rfl | (simp [Sem.run]; done)); (first | done | with_reducible rfl))
          try simp only [Act.put, List.setIfInBounds_toArray, List.set_cons_zero, List.set_cons_succ]
          refine wpAnyH_take (i := 10) (oi := { dst := some 65, op := Go.Op.indexAddr 27 (Go.Operand.tmp 63) (Go.Operand.tmp 64), type := 0, pos := "law.go:31", after := #[{ on := 8, ground := Go.Ground.data }, { on := 9, ground := Go.Ground.data }, { on := 14, ground := Go.Ground.gcOnly Go.Departure.lateStores }], guard := none }) (v := .pointer (some (ay.add (k * 4)))) rfl (by kernel_rfl) (by kernel_rfl) (by kernel_rfl) (fun _ _ _ h => h) (Or.inl ⟨by rfl, ?hy60f1f1⟩) hHeld ?rest60f1f1
          case hy60f1f1 => (intro w hSw; (try dsimp only at hSw); go_simp; try rw [if_pos (by omega)]; try rw [Int.toNat_natCast]; (first | done | with_reducible rfl))
          try simp only [Act.put, List.setIfInBounds_toArray, List.set_cons_zero, List.set_cons_succ]
          refine JD3_12 w62 B9 B10 ax xcap xk xn xc xA xm xd ay ycap yk yn yc yA ym yd ?_
          exact ⟨by omega, ⟨by omega, by omega⟩, ⟨by omega, by omega⟩, by omega, E, LB4, LB5, LB9, LB10, RB9, RB10, (HX.mono (fun i hi h => by ((try dsimp only [New] at h); omega))), HPX, (HY.mono (fun i hi h => by ((try dsimp only [New] at h); omega))), HPY⟩
      · intro wD3_18 B10 ax xcap xk xn xc xA xm xd hJ
        obtain ⟨z61, ⟨bB10, cB10⟩, E, LB4, LB5, LB10, RB10, HX, HPX⟩ := hJ
        try dsimp only
        have hHeld := And.intro LB4 (LB5)
        refine wpAnyH_ready (rs := [7, 12]) (by kernel_rfl) (by simp) ?_
        refine AllReadyH.cons (o := ocop_3_7) rfl (fun K hK => ?_) (AllReadyH.cons (o := ocop_3_12) rfl (fun K hK => ?_) (AllReadyH.nil))
        · dsimp only [ocop_3_7]
          go_simp
          refine (cu _ E).mono ?_
          rintro e w62 ⟨ay, ycap, yk, yn, yc, yA, ym, yd, rfl, hpy, hq, x⟩
          have HY := hq.now
          have HPY := rd_const hpy w62 (fun _ => False)
          clear hq hpy
          have z62 := x.size
          replace E := E.trans x
          replace LB4 := LB4.ext x
          replace LB5 := LB5.ext x
          replace LB10 := LB10.ext x
          replace RB10 := RB10.ext x
          replace HX := HX.ext x
          replace HPX := HPX.ext x
          clear x
          clear hHeld
          have hHeld := And.intro LB4 (LB5)
          refine hK.out _ _ hHeld (fun _ => ?_)
          clear hK K
          try simp only [Act.put, List.setIfInBounds_toArray, List.set_cons_zero, List.set_cons_succ]
          refine wpAnyH_take (i := 8) (oi := { dst := some 63, op := Go.Op.field 29 (Go.Operand.tmp 62) 1, type := 27, pos := "law.go:31", after := #[{ on := 7, ground := Go.Ground.data }, { on := 14, ground := Go.Ground.gcOnly Go.Departure.lateStores }], guard := none }) (v := .slice (some ay) r ycap) rfl (by kernel_rfl) (by kernel_rfl) (by kernel_rfl) (fun _ _ _ h => h) (Or.inl ⟨by rfl, ?hy63f1f1⟩) hHeld ?rest63f1f1
          case hy63f1f1 => (intro w hSw; (try dsimp only at hSw); go_simp; try (first | rfl | (simp [Sem.run]; done)); (first | done | with_reducible rfl))
          try simp only [Act.put, List.setIfInBounds_toArray, List.set_cons_zero, List.set_cons_succ]
          refine wpAnyH_take (i := 10) (oi := { dst := some 65, op := Go.Op.indexAddr 27 (Go.Operand.tmp 63) (Go.Operand.tmp 64), type := 0, pos := "law.go:31", after := #[{ on := 8, ground := Go.Ground.data }, { on := 9, ground := Go.Ground.data }, { on := 14, ground := Go.Ground.gcOnly Go.Departure.lateStores }], guard := none }) (v := .pointer (some (ay.add (k * 4)))) rfl (by kernel_rfl) (by kernel_rfl) (by kernel_rfl) (fun _ _ _ h => h) (Or.inl ⟨by rfl, ?hy64f1f1⟩) hHeld ?rest64f1f1
          case hy64f1f1 => (intro w hSw; (try dsimp only at hSw); go_simp; try rw [if_pos (by omega)]; try rw [Int.toNat_natCast]; (first | done | with_reducible rfl))
          try simp only [Act.put, List.setIfInBounds_toArray, List.set_cons_zero, List.set_cons_succ]
          refine JD3_9 w62 B10 ax xcap xk xn xc xA xm xd ay ycap yk yn yc yA ym yd ?_
          exact ⟨by omega, ⟨by omega, by omega⟩, E, LB4, LB5, LB10, RB10, (HX.mono (fun i hi h => by ((try dsimp only [New] at h); omega))), HPX, (HY.mono (fun i hi h => by ((try dsimp only [New] at h); omega))), HPY⟩
        · dsimp only [ocop_3_12]
          rw [if_pos (by rfl)]
          refine allocI rfl ?_
          intro B9 w9 bB9 cB9 XB9 LB9 RB9
          have z65 := XB9.size
          replace E := E.trans XB9
          replace LB4 := LB4.ext XB9
          replace LB5 := LB5.ext XB9
          replace LB10 := LB10.ext XB9
          replace RB10 := RB10.ext XB9
          replace HX := HX.ext XB9
          replace HPX := HPX.ext XB9
          clear hHeld
          have hHeld := And.intro LB4 (LB5)
          refine hK.out _ _ hHeld (fun _ => ?_)
          clear hK K
          try simp only [Act.put, List.setIfInBounds_toArray, List.set_cons_zero, List.set_cons_succ]
          refine JD3_16 w9 B9 B10 ax xcap xk xn xc xA xm xd ?_
          exact ⟨by omega, ⟨by omega, by omega⟩, ⟨by omega, by omega⟩, by omega, E, LB4, LB5, LB9, LB10, RB9, RB10, (HX.mono (fun i hi h => by ((try dsimp only [New] at h); omega))), HPX⟩
      · intro wD3_17 B9 ax xcap xk xn xc xA xm xd hJ
        obtain ⟨z66, ⟨bB9, cB9⟩, E, LB4, LB5, LB9, RB9, HX, HPX⟩ := hJ
        try dsimp only
        have hHeld := And.intro LB4 (LB5)
        refine wpAnyH_ready (rs := [7, 13]) (by kernel_rfl) (by simp) ?_
        refine AllReadyH.cons (o := ocop_3_7) rfl (fun K hK => ?_) (AllReadyH.cons (o := ocop_3_13) rfl (fun K hK => ?_) (AllReadyH.nil))
        · dsimp only [ocop_3_7]
          go_simp
          refine (cu _ E).mono ?_
          rintro e w62 ⟨ay, ycap, yk, yn, yc, yA, ym, yd, rfl, hpy, hq, x⟩
          have HY := hq.now
          have HPY := rd_const hpy w62 (fun _ => False)
          clear hq hpy
          have z67 := x.size
          replace E := E.trans x
          replace LB4 := LB4.ext x
          replace LB5 := LB5.ext x
          replace LB9 := LB9.ext x
          replace RB9 := RB9.ext x
          replace HX := HX.ext x
          replace HPX := HPX.ext x
          clear x
          clear hHeld
          have hHeld := And.intro LB4 (LB5)
          refine hK.out _ _ hHeld (fun _ => ?_)
          clear hK K
          try simp only [Act.put, List.setIfInBounds_toArray, List.set_cons_zero, List.set_cons_succ]
          refine wpAnyH_take (i := 8) (oi := { dst := some 63, op := Go.Op.field 29 (Go.Operand.tmp 62) 1, type := 27, pos := "law.go:31", after := #[{ on := 7, ground := Go.Ground.data }, { on := 14, ground := Go.Ground.gcOnly Go.Departure.lateStores }], guard := none }) (v := .slice (some ay) r ycap) rfl (by kernel_rfl) (by kernel_rfl) (by kernel_rfl) (fun _ _ _ h => h) (Or.inl ⟨by rfl, ?hy68f1f1⟩) hHeld ?rest68f1f1
          case hy68f1f1 => (intro w hSw; (try dsimp only at hSw); go_simp; try (first | rfl | (simp [Sem.run]; done)); (first | done | with_reducible rfl))
          try simp only [Act.put, List.setIfInBounds_toArray, List.set_cons_zero, List.set_cons_succ]
          refine wpAnyH_take (i := 10) (oi := { dst := some 65, op := Go.Op.indexAddr 27 (Go.Operand.tmp 63) (Go.Operand.tmp 64), type := 0, pos := "law.go:31", after := #[{ on := 8, ground := Go.Ground.data }, { on := 9, ground := Go.Ground.data }, { on := 14, ground := Go.Ground.gcOnly Go.Departure.lateStores }], guard := none }) (v := .pointer (some (ay.add (k * 4)))) rfl (by kernel_rfl) (by kernel_rfl) (by kernel_rfl) (fun _ _ _ h => h) (Or.inl ⟨by rfl, ?hy69f1f1⟩) hHeld ?rest69f1f1
          case hy69f1f1 => (intro w hSw; (try dsimp only at hSw); go_simp; try rw [if_pos (by omega)]; try rw [Int.toNat_natCast]; (first | done | with_reducible rfl))
          try simp only [Act.put, List.setIfInBounds_toArray, List.set_cons_zero, List.set_cons_succ]
          refine JD3_8 w62 B9 ax xcap xk xn xc xA xm xd ay ycap yk yn yc yA ym yd ?_
          exact ⟨by omega, ⟨by omega, by omega⟩, E, LB4, LB5, LB9, RB9, (HX.mono (fun i hi h => by ((try dsimp only [New] at h); omega))), HPX, (HY.mono (fun i hi h => by ((try dsimp only [New] at h); omega))), HPY⟩
        · dsimp only [ocop_3_13]
          rw [if_pos (by rfl)]
          refine allocI rfl ?_
          intro B10 w10 bB10 cB10 XB10 LB10 RB10
          have z70 := XB10.size
          replace E := E.trans XB10
          replace LB4 := LB4.ext XB10
          replace LB5 := LB5.ext XB10
          replace LB9 := LB9.ext XB10
          replace RB9 := RB9.ext XB10
          replace HX := HX.ext XB10
          replace HPX := HPX.ext XB10
          clear hHeld
          have hHeld := And.intro LB4 (LB5)
          refine hK.out _ _ hHeld (fun _ => ?_)
          clear hK K
          try simp only [Act.put, List.setIfInBounds_toArray, List.set_cons_zero, List.set_cons_succ]
          refine JD3_16 w10 B9 B10 ax xcap xk xn xc xA xm xd ?_
          exact ⟨by omega, ⟨by omega, by omega⟩, ⟨by omega, by omega⟩, by omega, E, LB4, LB5, LB9, LB10, RB9, RB10, (HX.mono (fun i hi h => by ((try dsimp only [New] at h); omega))), HPX⟩
      · intro wD3_16 B9 B10 ax xcap xk xn xc xA xm xd hJ
        obtain ⟨z71, ⟨bB9, cB9⟩, ⟨bB10, cB10⟩, nB9B10, E, LB4, LB5, LB9, LB10, RB9, RB10, HX, HPX⟩ := hJ
        try dsimp only
        have hHeld := And.intro LB4 (LB5)
        refine wpAnyH_ready (rs := [7]) (by kernel_rfl) (by simp) ?_
        refine AllReadyH.cons (o := ocop_3_7) rfl (fun K hK => ?_) (AllReadyH.nil)
        dsimp only [ocop_3_7]
        go_simp
        refine (cu _ E).mono ?_
        rintro e w62 ⟨ay, ycap, yk, yn, yc, yA, ym, yd, rfl, hpy, hq, x⟩
        have HY := hq.now
        have HPY := rd_const hpy w62 (fun _ => False)
        clear hq hpy
        have z72 := x.size
        replace E := E.trans x
        replace LB4 := LB4.ext x
        replace LB5 := LB5.ext x
        replace LB9 := LB9.ext x
        replace LB10 := LB10.ext x
        replace RB9 := RB9.ext x
        replace RB10 := RB10.ext x
        replace HX := HX.ext x
        replace HPX := HPX.ext x
        clear x
        clear hHeld
        have hHeld := And.intro LB4 (LB5)
        refine hK.out _ _ hHeld (fun _ => ?_)
        clear hK K
        try simp only [Act.put, List.setIfInBounds_toArray, List.set_cons_zero, List.set_cons_succ]
        refine wpAnyH_take (i := 8) (oi := { dst := some 63, op := Go.Op.field 29 (Go.Operand.tmp 62) 1, type := 27, pos := "law.go:31", after := #[{ on := 7, ground := Go.Ground.data }, { on := 14, ground := Go.Ground.gcOnly Go.Departure.lateStores }], guard := none }) (v := .slice (some ay) r ycap) rfl (by kernel_rfl) (by kernel_rfl) (by kernel_rfl) (fun _ _ _ h => h) (Or.inl ⟨by rfl, ?hy73f1f1⟩) hHeld ?rest73f1f1
        case hy73f1f1 => (intro w hSw; (try dsimp only at hSw); go_simp; try (first | rfl | (simp [Sem.run]; done)); (first | done | with_reducible rfl))
        try simp only [Act.put, List.setIfInBounds_toArray, List.set_cons_zero, List.set_cons_succ]
        refine wpAnyH_take (i := 10) (oi := { dst := some 65, op := Go.Op.indexAddr 27 (Go.Operand.tmp 63) (Go.Operand.tmp 64), type := 0, pos := "law.go:31", after := #[{ on := 8, ground := Go.Ground.data }, { on := 9, ground := Go.Ground.data }, { on := 14, ground := Go.Ground.gcOnly Go.Departure.lateStores }], guard := none }) (v := .pointer (some (ay.add (k * 4)))) rfl (by kernel_rfl) (by kernel_rfl) (by kernel_rfl) (fun _ _ _ h => h) (Or.inl ⟨by rfl, ?hy74f1f1⟩) hHeld ?rest74f1f1
        case hy74f1f1 => (intro w hSw; (try dsimp only at hSw); go_simp; try rw [if_pos (by omega)]; try rw [Int.toNat_natCast]; (first | done | with_reducible rfl))
        try simp only [Act.put, List.setIfInBounds_toArray, List.set_cons_zero, List.set_cons_succ]
        refine JD3_5 w62 B9 B10 ax xcap xk xn xc xA xm xd ay ycap yk yn yc yA ym yd ?_
        exact ⟨by omega, ⟨by omega, by omega⟩, ⟨by omega, by omega⟩, by omega, E, LB4, LB5, LB9, LB10, RB9, RB10, (HX.mono (fun i hi h => by ((try dsimp only [New] at h); omega))), HPX, (HY.mono (fun i hi h => by ((try dsimp only [New] at h); omega))), HPY⟩
      · intro wD3_15 B10 ax xcap xk xn xc xA xm xd ay ycap yk yn yc yA ym yd hJ
        obtain ⟨z75, ⟨bB10, cB10⟩, E, LB4, LB5, LB10, RB10, HX, HPX, HY, HPY⟩ := hJ
        try dsimp only
        have hHeld := And.intro LB4 (LB5)
        refine wpAnyH_ready (rs := [5, 11, 12]) (by kernel_rfl) (by simp) ?_
        refine AllReadyH.cons (o := ocop_3_5) rfl (fun K hK => ?_) (AllReadyH.cons (o := ocop_3_11) rfl (fun K hK => ?_) (AllReadyH.cons (o := ocop_3_12) rfl (fun K hK => ?_) (AllReadyH.nil)))
        · dsimp only [ocop_3_5]
          rw [if_pos (by rfl)]
          refine load_it rfl rfl (HX.is) ?_
          clear hHeld
          have hHeld := And.intro LB4 (LB5)
          refine hK.out _ _ hHeld (fun _ => ?_)
          clear hK K
          try simp only [Act.put, List.setIfInBounds_toArray, List.set_cons_zero, List.set_cons_succ]
          refine JD3_9 wD3_15 B10 ax xcap xk xn xc xA xm xd ay ycap yk yn yc yA ym yd ?_
          exact ⟨by omega, ⟨by omega, by omega⟩, E, LB4, LB5, LB10, RB10, (HX.mono (fun i hi h => by ((try dsimp only [New] at h); omega))), HPX, (HY.mono (fun i hi h => by ((try dsimp only [New] at h); omega))), HPY⟩
        · dsimp only [ocop_3_11]
          rw [if_pos (by rfl)]
          refine load_it rfl rfl (HY.is) ?_
          clear hHeld
          have hHeld := And.intro LB4 (LB5)
          refine hK.out _ _ hHeld (fun _ => ?_)
          clear hK K
          try simp only [Act.put, List.setIfInBounds_toArray, List.set_cons_zero, List.set_cons_succ]
          refine JD3_11 wD3_15 B10 ax xcap xk xn xc xA xm xd ay ycap yk yn yc yA ym yd ?_
          exact ⟨by omega, ⟨by omega, by omega⟩, E, LB4, LB5, LB10, RB10, (HX.mono (fun i hi h => by ((try dsimp only [New] at h); omega))), HPX, (HY.mono (fun i hi h => by ((try dsimp only [New] at h); omega))), HPY⟩
        · dsimp only [ocop_3_12]
          rw [if_pos (by rfl)]
          refine allocI rfl ?_
          intro B9 w9 bB9 cB9 XB9 LB9 RB9
          have z76 := XB9.size
          replace E := E.trans XB9
          replace LB4 := LB4.ext XB9
          replace LB5 := LB5.ext XB9
          replace LB10 := LB10.ext XB9
          replace RB10 := RB10.ext XB9
          replace HX := HX.ext XB9
          replace HPX := HPX.ext XB9
          replace HY := HY.ext XB9
          replace HPY := HPY.ext XB9
          clear hHeld
          have hHeld := And.intro LB4 (LB5)
          refine hK.out _ _ hHeld (fun _ => ?_)
          clear hK K
          try simp only [Act.put, List.setIfInBounds_toArray, List.set_cons_zero, List.set_cons_succ]
          refine JD3_12 w9 B9 B10 ax xcap xk xn xc xA xm xd ay ycap yk yn yc yA ym yd ?_
          exact ⟨by omega, ⟨by omega, by omega⟩, ⟨by omega, by omega⟩, by omega, E, LB4, LB5, LB9, LB10, RB9, RB10, (HX.mono (fun i hi h => by ((try dsimp only [New] at h); omega))), HPX, (HY.mono (fun i hi h => by ((try dsimp only [New] at h); omega))), HPY⟩
      · intro wD3_14 B9 ax xcap xk xn xc xA xm xd ay ycap yk yn yc yA ym yd hJ
        obtain ⟨z77, ⟨bB9, cB9⟩, E, LB4, LB5, LB9, RB9, HX, HPX, HY, HPY⟩ := hJ
        try dsimp only
        have hHeld := And.intro LB4 (LB5)
        refine wpAnyH_ready (rs := [5, 11, 13]) (by kernel_rfl) (by simp) ?_
        refine AllReadyH.cons (o := ocop_3_5) rfl (fun K hK => ?_) (AllReadyH.cons (o := ocop_3_11) rfl (fun K hK => ?_) (AllReadyH.cons (o := ocop_3_13) rfl (fun K hK => ?_) (AllReadyH.nil)))
        · dsimp only [ocop_3_5]
          rw [if_pos (by rfl)]
          refine load_it rfl rfl (HX.is) ?_
          clear hHeld
          have hHeld := And.intro LB4 (LB5)
          refine hK.out _ _ hHeld (fun _ => ?_)
          clear hK K
          try simp only [Act.put, List.setIfInBounds_toArray, List.set_cons_zero, List.set_cons_succ]
          refine JD3_8 wD3_14 B9 ax xcap xk xn xc xA xm xd ay ycap yk yn yc yA ym yd ?_
          exact ⟨by omega, ⟨by omega, by omega⟩, E, LB4, LB5, LB9, RB9, (HX.mono (fun i hi h => by ((try dsimp only [New] at h); omega))), HPX, (HY.mono (fun i hi h => by ((try dsimp only [New] at h); omega))), HPY⟩
        · dsimp only [ocop_3_11]
          rw [if_pos (by rfl)]
          refine load_it rfl rfl (HY.is) ?_
          clear hHeld
          have hHeld := And.intro LB4 (LB5)
          refine hK.out _ _ hHeld (fun _ => ?_)
          clear hK K
          try simp only [Act.put, List.setIfInBounds_toArray, List.set_cons_zero, List.set_cons_succ]
          refine JD3_10 wD3_14 B9 ax xcap xk xn xc xA xm xd ay ycap yk yn yc yA ym yd ?_
          exact ⟨by omega, ⟨by omega, by omega⟩, E, LB4, LB5, LB9, RB9, (HX.mono (fun i hi h => by ((try dsimp only [New] at h); omega))), HPX, (HY.mono (fun i hi h => by ((try dsimp only [New] at h); omega))), HPY⟩
        · dsimp only [ocop_3_13]
          rw [if_pos (by rfl)]
          refine allocI rfl ?_
          intro B10 w10 bB10 cB10 XB10 LB10 RB10
          have z78 := XB10.size
          replace E := E.trans XB10
          replace LB4 := LB4.ext XB10
          replace LB5 := LB5.ext XB10
          replace LB9 := LB9.ext XB10
          replace RB9 := RB9.ext XB10
          replace HX := HX.ext XB10
          replace HPX := HPX.ext XB10
          replace HY := HY.ext XB10
          replace HPY := HPY.ext XB10
          clear hHeld
          have hHeld := And.intro LB4 (LB5)
          refine hK.out _ _ hHeld (fun _ => ?_)
          clear hK K
          try simp only [Act.put, List.setIfInBounds_toArray, List.set_cons_zero, List.set_cons_succ]
          refine JD3_12 w10 B9 B10 ax xcap xk xn xc xA xm xd ay ycap yk yn yc yA ym yd ?_
          exact ⟨by omega, ⟨by omega, by omega⟩, ⟨by omega, by omega⟩, by omega, E, LB4, LB5, LB9, LB10, RB9, RB10, (HX.mono (fun i hi h => by ((try dsimp only [New] at h); omega))), HPX, (HY.mono (fun i hi h => by ((try dsimp only [New] at h); omega))), HPY⟩
      · intro wD3_13 ax xcap xk xn xc xA xm xd ay ycap yk yn yc yA ym yd hJ
        obtain ⟨z79, E, LB4, LB5, HX, HPX, HY, HPY⟩ := hJ
        try dsimp only
        have hHeld := And.intro LB4 (LB5)
        refine wpAnyH_ready (rs := [11, 12, 13]) (by kernel_rfl) (by simp) ?_
        refine AllReadyH.cons (o := ocop_3_11) rfl (fun K hK => ?_) (AllReadyH.cons (o := ocop_3_12) rfl (fun K hK => ?_) (AllReadyH.cons (o := ocop_3_13) rfl (fun K hK => ?_) (AllReadyH.nil)))
        · dsimp only [ocop_3_11]
          rw [if_pos (by rfl)]
          refine load_it rfl rfl (HY.is) ?_
          clear hHeld
          have hHeld := And.intro LB4 (LB5)
          refine hK.out _ _ hHeld (fun _ => ?_)
          clear hK K
          try simp only [Act.put, List.setIfInBounds_toArray, List.set_cons_zero, List.set_cons_succ]
          refine JD3_7 wD3_13 ax xcap xk xn xc xA xm xd ay ycap yk yn yc yA ym yd ?_
          exact ⟨by omega, E, LB4, LB5, (HX.mono (fun i hi h => by ((try dsimp only [New] at h); omega))), HPX, (HY.mono (fun i hi h => by ((try dsimp only [New] at h); omega))), HPY⟩
        · dsimp only [ocop_3_12]
          rw [if_pos (by rfl)]
          refine allocI rfl ?_
          intro B9 w9 bB9 cB9 XB9 LB9 RB9
          have z80 := XB9.size
          replace E := E.trans XB9
          replace LB4 := LB4.ext XB9
          replace LB5 := LB5.ext XB9
          replace HX := HX.ext XB9
          replace HPX := HPX.ext XB9
          replace HY := HY.ext XB9
          replace HPY := HPY.ext XB9
          clear hHeld
          have hHeld := And.intro LB4 (LB5)
          refine hK.out _ _ hHeld (fun _ => ?_)
          clear hK K
          try simp only [Act.put, List.setIfInBounds_toArray, List.set_cons_zero, List.set_cons_succ]
          refine JD3_8 w9 B9 ax xcap xk xn xc xA xm xd ay ycap yk yn yc yA ym yd ?_
          exact ⟨by omega, ⟨by omega, by omega⟩, E, LB4, LB5, LB9, RB9, (HX.mono (fun i hi h => by ((try dsimp only [New] at h); omega))), HPX, (HY.mono (fun i hi h => by ((try dsimp only [New] at h); omega))), HPY⟩
        · dsimp only [ocop_3_13]
          rw [if_pos (by rfl)]
          refine allocI rfl ?_
          intro B10 w10 bB10 cB10 XB10 LB10 RB10
          have z81 := XB10.size
          replace E := E.trans XB10
          replace LB4 := LB4.ext XB10
          replace LB5 := LB5.ext XB10
          replace HX := HX.ext XB10
          replace HPX := HPX.ext XB10
          replace HY := HY.ext XB10
          replace HPY := HPY.ext XB10
          clear hHeld
          have hHeld := And.intro LB4 (LB5)
          refine hK.out _ _ hHeld (fun _ => ?_)
          clear hK K
          try simp only [Act.put, List.setIfInBounds_toArray, List.set_cons_zero, List.set_cons_succ]
          refine JD3_9 w10 B10 ax xcap xk xn xc xA xm xd ay ycap yk yn yc yA ym yd ?_
          exact ⟨by omega, ⟨by omega, by omega⟩, E, LB4, LB5, LB10, RB10, (HX.mono (fun i hi h => by ((try dsimp only [New] at h); omega))), HPX, (HY.mono (fun i hi h => by ((try dsimp only [New] at h); omega))), HPY⟩
      · intro wD3_12 B9 B10 ax xcap xk xn xc xA xm xd ay ycap yk yn yc yA ym yd hJ
        obtain ⟨z82, ⟨bB9, cB9⟩, ⟨bB10, cB10⟩, nB9B10, E, LB4, LB5, LB9, LB10, RB9, RB10, HX, HPX, HY, HPY⟩ := hJ
        try dsimp only
        have hHeld := And.intro LB4 (LB5)
        refine wpAnyH_ready (rs := [5, 11]) (by kernel_rfl) (by simp) ?_
        refine AllReadyH.cons (o := ocop_3_5) rfl (fun K hK => ?_) (AllReadyH.cons (o := ocop_3_11) rfl (fun K hK => ?_) (AllReadyH.nil))
        · dsimp only [ocop_3_5]
          rw [if_pos (by rfl)]
          refine load_it rfl rfl (HX.is) ?_
          clear hHeld
          have hHeld := And.intro LB4 (LB5)
          refine hK.out _ _ hHeld (fun _ => ?_)
          clear hK K
          try simp only [Act.put, List.setIfInBounds_toArray, List.set_cons_zero, List.set_cons_succ]
          refine JD3_5 wD3_12 B9 B10 ax xcap xk xn xc xA xm xd ay ycap yk yn yc yA ym yd ?_
          exact ⟨by omega, ⟨by omega, by omega⟩, ⟨by omega, by omega⟩, by omega, E, LB4, LB5, LB9, LB10, RB9, RB10, (HX.mono (fun i hi h => by ((try dsimp only [New] at h); omega))), HPX, (HY.mono (fun i hi h => by ((try dsimp only [New] at h); omega))), HPY⟩
        · dsimp only [ocop_3_11]
          rw [if_pos (by rfl)]
          refine load_it rfl rfl (HY.is) ?_
          clear hHeld
          have hHeld := And.intro LB4 (LB5)
          refine hK.out _ _ hHeld (fun _ => ?_)
          clear hK K
          try simp only [Act.put, List.setIfInBounds_toArray, List.set_cons_zero, List.set_cons_succ]
          refine JD3_6 wD3_12 B9 B10 ax xcap xk xn xc xA xm xd ay ycap yk yn yc yA ym yd ?_
          exact ⟨by omega, ⟨by omega, by omega⟩, ⟨by omega, by omega⟩, by omega, E, LB4, LB5, LB9, LB10, RB9, RB10, (HX.mono (fun i hi h => by ((try dsimp only [New] at h); omega))), HPX, (HY.mono (fun i hi h => by ((try dsimp only [New] at h); omega))), HPY⟩
      · intro wD3_11 B10 ax xcap xk xn xc xA xm xd ay ycap yk yn yc yA ym yd hJ
        obtain ⟨z83, ⟨bB10, cB10⟩, E, LB4, LB5, LB10, RB10, HX, HPX, HY, HPY⟩ := hJ
        try dsimp only
        have hHeld := And.intro LB4 (LB5)
        refine wpAnyH_ready (rs := [5, 12]) (by kernel_rfl) (by simp) ?_
        refine AllReadyH.cons (o := ocop_3_5) rfl (fun K hK => ?_) (AllReadyH.cons (o := ocop_3_12) rfl (fun K hK => ?_) (AllReadyH.nil))
        · dsimp only [ocop_3_5]
          rw [if_pos (by rfl)]
          refine load_it rfl rfl (HX.is) ?_
          clear hHeld
          have hHeld := And.intro LB4 (LB5)
          refine hK.out _ _ hHeld (fun _ => ?_)
          clear hK K
          try simp only [Act.put, List.setIfInBounds_toArray, List.set_cons_zero, List.set_cons_succ]
          refine JD3_4 wD3_11 B10 ax xcap xk xn xc xA xm xd ay ycap yk yn yc yA ym yd ?_
          exact ⟨by omega, ⟨by omega, by omega⟩, E, LB4, LB5, LB10, RB10, (HX.mono (fun i hi h => by ((try dsimp only [New] at h); omega))), HPX, (HY.mono (fun i hi h => by ((try dsimp only [New] at h); omega))), HPY⟩
        · dsimp only [ocop_3_12]
          rw [if_pos (by rfl)]
          refine allocI rfl ?_
          intro B9 w9 bB9 cB9 XB9 LB9 RB9
          have z84 := XB9.size
          replace E := E.trans XB9
          replace LB4 := LB4.ext XB9
          replace LB5 := LB5.ext XB9
          replace LB10 := LB10.ext XB9
          replace RB10 := RB10.ext XB9
          replace HX := HX.ext XB9
          replace HPX := HPX.ext XB9
          replace HY := HY.ext XB9
          replace HPY := HPY.ext XB9
          clear hHeld
          have hHeld := And.intro LB4 (LB5)
          refine hK.out _ _ hHeld (fun _ => ?_)
          clear hK K
          try simp only [Act.put, List.setIfInBounds_toArray, List.set_cons_zero, List.set_cons_succ]
          refine JD3_6 w9 B9 B10 ax xcap xk xn xc xA xm xd ay ycap yk yn yc yA ym yd ?_
          exact ⟨by omega, ⟨by omega, by omega⟩, ⟨by omega, by omega⟩, by omega, E, LB4, LB5, LB9, LB10, RB9, RB10, (HX.mono (fun i hi h => by ((try dsimp only [New] at h); omega))), HPX, (HY.mono (fun i hi h => by ((try dsimp only [New] at h); omega))), HPY⟩
      · intro wD3_10 B9 ax xcap xk xn xc xA xm xd ay ycap yk yn yc yA ym yd hJ
        obtain ⟨z85, ⟨bB9, cB9⟩, E, LB4, LB5, LB9, RB9, HX, HPX, HY, HPY⟩ := hJ
        try dsimp only
        have hHeld := And.intro LB4 (LB5)
        refine wpAnyH_ready (rs := [5, 13]) (by kernel_rfl) (by simp) ?_
        refine AllReadyH.cons (o := ocop_3_5) rfl (fun K hK => ?_) (AllReadyH.cons (o := ocop_3_13) rfl (fun K hK => ?_) (AllReadyH.nil))
        · dsimp only [ocop_3_5]
          rw [if_pos (by rfl)]
          refine load_it rfl rfl (HX.is) ?_
          clear hHeld
          have hHeld := And.intro LB4 (LB5)
          refine hK.out _ _ hHeld (fun _ => ?_)
          clear hK K
          try simp only [Act.put, List.setIfInBounds_toArray, List.set_cons_zero, List.set_cons_succ]
          refine JD3_3 wD3_10 B9 ax xcap xk xn xc xA xm xd ay ycap yk yn yc yA ym yd ?_
          exact ⟨by omega, ⟨by omega, by omega⟩, E, LB4, LB5, LB9, RB9, (HX.mono (fun i hi h => by ((try dsimp only [New] at h); omega))), HPX, (HY.mono (fun i hi h => by ((try dsimp only [New] at h); omega))), HPY⟩
        · dsimp only [ocop_3_13]
          rw [if_pos (by rfl)]
          refine allocI rfl ?_
          intro B10 w10 bB10 cB10 XB10 LB10 RB10
          have z86 := XB10.size
          replace E := E.trans XB10
          replace LB4 := LB4.ext XB10
          replace LB5 := LB5.ext XB10
          replace LB9 := LB9.ext XB10
          replace RB9 := RB9.ext XB10
          replace HX := HX.ext XB10
          replace HPX := HPX.ext XB10
          replace HY := HY.ext XB10
          replace HPY := HPY.ext XB10
          clear hHeld
          have hHeld := And.intro LB4 (LB5)
          refine hK.out _ _ hHeld (fun _ => ?_)
          clear hK K
          try simp only [Act.put, List.setIfInBounds_toArray, List.set_cons_zero, List.set_cons_succ]
          refine JD3_6 w10 B9 B10 ax xcap xk xn xc xA xm xd ay ycap yk yn yc yA ym yd ?_
          exact ⟨by omega, ⟨by omega, by omega⟩, ⟨by omega, by omega⟩, by omega, E, LB4, LB5, LB9, LB10, RB9, RB10, (HX.mono (fun i hi h => by ((try dsimp only [New] at h); omega))), HPX, (HY.mono (fun i hi h => by ((try dsimp only [New] at h); omega))), HPY⟩
      · intro wD3_9 B10 ax xcap xk xn xc xA xm xd ay ycap yk yn yc yA ym yd hJ
        obtain ⟨z87, ⟨bB10, cB10⟩, E, LB4, LB5, LB10, RB10, HX, HPX, HY, HPY⟩ := hJ
        try dsimp only
        have hHeld := And.intro LB4 (LB5)
        refine wpAnyH_ready (rs := [11, 12]) (by kernel_rfl) (by simp) ?_
        refine AllReadyH.cons (o := ocop_3_11) rfl (fun K hK => ?_) (AllReadyH.cons (o := ocop_3_12) rfl (fun K hK => ?_) (AllReadyH.nil))
        · dsimp only [ocop_3_11]
          rw [if_pos (by rfl)]
          refine load_it rfl rfl (HY.is) ?_
          clear hHeld
          have hHeld := And.intro LB4 (LB5)
          refine hK.out _ _ hHeld (fun _ => ?_)
          clear hK K
          try simp only [Act.put, List.setIfInBounds_toArray, List.set_cons_zero, List.set_cons_succ]
          refine JD3_4 wD3_9 B10 ax xcap xk xn xc xA xm xd ay ycap yk yn yc yA ym yd ?_
          exact ⟨by omega, ⟨by omega, by omega⟩, E, LB4, LB5, LB10, RB10, (HX.mono (fun i hi h => by ((try dsimp only [New] at h); omega))), HPX, (HY.mono (fun i hi h => by ((try dsimp only [New] at h); omega))), HPY⟩
        · dsimp only [ocop_3_12]
          rw [if_pos (by rfl)]
          refine allocI rfl ?_
          intro B9 w9 bB9 cB9 XB9 LB9 RB9
          have z88 := XB9.size
          replace E := E.trans XB9
          replace LB4 := LB4.ext XB9
          replace LB5 := LB5.ext XB9
          replace LB10 := LB10.ext XB9
          replace RB10 := RB10.ext XB9
          replace HX := HX.ext XB9
          replace HPX := HPX.ext XB9
          replace HY := HY.ext XB9
          replace HPY := HPY.ext XB9
          clear hHeld
          have hHeld := And.intro LB4 (LB5)
          refine hK.out _ _ hHeld (fun _ => ?_)
          clear hK K
          try simp only [Act.put, List.setIfInBounds_toArray, List.set_cons_zero, List.set_cons_succ]
          refine JD3_5 w9 B9 B10 ax xcap xk xn xc xA xm xd ay ycap yk yn yc yA ym yd ?_
          exact ⟨by omega, ⟨by omega, by omega⟩, ⟨by omega, by omega⟩, by omega, E, LB4, LB5, LB9, LB10, RB9, RB10, (HX.mono (fun i hi h => by ((try dsimp only [New] at h); omega))), HPX, (HY.mono (fun i hi h => by ((try dsimp only [New] at h); omega))), HPY⟩
      · intro wD3_8 B9 ax xcap xk xn xc xA xm xd ay ycap yk yn yc yA ym yd hJ
        obtain ⟨z89, ⟨bB9, cB9⟩, E, LB4, LB5, LB9, RB9, HX, HPX, HY, HPY⟩ := hJ
        try dsimp only
        have hHeld := And.intro LB4 (LB5)
        refine wpAnyH_ready (rs := [11, 13]) (by kernel_rfl) (by simp) ?_
        refine AllReadyH.cons (o := ocop_3_11) rfl (fun K hK => ?_) (AllReadyH.cons (o := ocop_3_13) rfl (fun K hK => ?_) (AllReadyH.nil))
        · dsimp only [ocop_3_11]
          rw [if_pos (by rfl)]
          refine load_it rfl rfl (HY.is) ?_
          clear hHeld
          have hHeld := And.intro LB4 (LB5)
          refine hK.out _ _ hHeld (fun _ => ?_)
          clear hK K
          try simp only [Act.put, List.setIfInBounds_toArray, List.set_cons_zero, List.set_cons_succ]
          refine JD3_3 wD3_8 B9 ax xcap xk xn xc xA xm xd ay ycap yk yn yc yA ym yd ?_
          exact ⟨by omega, ⟨by omega, by omega⟩, E, LB4, LB5, LB9, RB9, (HX.mono (fun i hi h => by ((try dsimp only [New] at h); omega))), HPX, (HY.mono (fun i hi h => by ((try dsimp only [New] at h); omega))), HPY⟩
        · dsimp only [ocop_3_13]
          rw [if_pos (by rfl)]
          refine allocI rfl ?_
          intro B10 w10 bB10 cB10 XB10 LB10 RB10
          have z90 := XB10.size
          replace E := E.trans XB10
          replace LB4 := LB4.ext XB10
          replace LB5 := LB5.ext XB10
          replace LB9 := LB9.ext XB10
          replace RB9 := RB9.ext XB10
          replace HX := HX.ext XB10
          replace HPX := HPX.ext XB10
          replace HY := HY.ext XB10
          replace HPY := HPY.ext XB10
          clear hHeld
          have hHeld := And.intro LB4 (LB5)
          refine hK.out _ _ hHeld (fun _ => ?_)
          clear hK K
          try simp only [Act.put, List.setIfInBounds_toArray, List.set_cons_zero, List.set_cons_succ]
          refine JD3_5 w10 B9 B10 ax xcap xk xn xc xA xm xd ay ycap yk yn yc yA ym yd ?_
          exact ⟨by omega, ⟨by omega, by omega⟩, ⟨by omega, by omega⟩, by omega, E, LB4, LB5, LB9, LB10, RB9, RB10, (HX.mono (fun i hi h => by ((try dsimp only [New] at h); omega))), HPX, (HY.mono (fun i hi h => by ((try dsimp only [New] at h); omega))), HPY⟩
      · intro wD3_7 ax xcap xk xn xc xA xm xd ay ycap yk yn yc yA ym yd hJ
        obtain ⟨z91, E, LB4, LB5, HX, HPX, HY, HPY⟩ := hJ
        try dsimp only
        have hHeld := And.intro LB4 (LB5)
        refine wpAnyH_ready (rs := [12, 13]) (by kernel_rfl) (by simp) ?_
        refine AllReadyH.cons (o := ocop_3_12) rfl (fun K hK => ?_) (AllReadyH.cons (o := ocop_3_13) rfl (fun K hK => ?_) (AllReadyH.nil))
        · dsimp only [ocop_3_12]
          rw [if_pos (by rfl)]
          refine allocI rfl ?_
          intro B9 w9 bB9 cB9 XB9 LB9 RB9
          have z92 := XB9.size
          replace E := E.trans XB9
          replace LB4 := LB4.ext XB9
          replace LB5 := LB5.ext XB9
          replace HX := HX.ext XB9
          replace HPX := HPX.ext XB9
          replace HY := HY.ext XB9
          replace HPY := HPY.ext XB9
          clear hHeld
          have hHeld := And.intro LB4 (LB5)
          refine hK.out _ _ hHeld (fun _ => ?_)
          clear hK K
          try simp only [Act.put, List.setIfInBounds_toArray, List.set_cons_zero, List.set_cons_succ]
          refine JD3_3 w9 B9 ax xcap xk xn xc xA xm xd ay ycap yk yn yc yA ym yd ?_
          exact ⟨by omega, ⟨by omega, by omega⟩, E, LB4, LB5, LB9, RB9, (HX.mono (fun i hi h => by ((try dsimp only [New] at h); omega))), HPX, (HY.mono (fun i hi h => by ((try dsimp only [New] at h); omega))), HPY⟩
        · dsimp only [ocop_3_13]
          rw [if_pos (by rfl)]
          refine allocI rfl ?_
          intro B10 w10 bB10 cB10 XB10 LB10 RB10
          have z93 := XB10.size
          replace E := E.trans XB10
          replace LB4 := LB4.ext XB10
          replace LB5 := LB5.ext XB10
          replace HX := HX.ext XB10
          replace HPX := HPX.ext XB10
          replace HY := HY.ext XB10
          replace HPY := HPY.ext XB10
          clear hHeld
          have hHeld := And.intro LB4 (LB5)
          refine hK.out _ _ hHeld (fun _ => ?_)
          clear hK K
          try simp only [Act.put, List.setIfInBounds_toArray, List.set_cons_zero, List.set_cons_succ]
          refine JD3_4 w10 B10 ax xcap xk xn xc xA xm xd ay ycap yk yn yc yA ym yd ?_
          exact ⟨by omega, ⟨by omega, by omega⟩, E, LB4, LB5, LB10, RB10, (HX.mono (fun i hi h => by ((try dsimp only [New] at h); omega))), HPX, (HY.mono (fun i hi h => by ((try dsimp only [New] at h); omega))), HPY⟩
      · intro wD3_6 B9 B10 ax xcap xk xn xc xA xm xd ay ycap yk yn yc yA ym yd hJ
        obtain ⟨z94, ⟨bB9, cB9⟩, ⟨bB10, cB10⟩, nB9B10, E, LB4, LB5, LB9, LB10, RB9, RB10, HX, HPX, HY, HPY⟩ := hJ
        try dsimp only
        have hHeld := And.intro LB4 (LB5)
        refine wpAnyH_ready (rs := [5]) (by kernel_rfl) (by simp) ?_
        refine AllReadyH.cons (o := ocop_3_5) rfl (fun K hK => ?_) (AllReadyH.nil)
        dsimp only [ocop_3_5]
        rw [if_pos (by rfl)]
        refine load_it rfl rfl (HX.is) ?_
        clear hHeld
        have hHeld := And.intro LB4 (LB5)
        refine hK.out _ _ hHeld (fun _ => ?_)
        clear hK K
        try simp only [Act.put, List.setIfInBounds_toArray, List.set_cons_zero, List.set_cons_succ]
        refine JD3_2 wD3_6 B9 B10 ax xcap xk xn xc xA xm xd ay ycap yk yn yc yA ym yd ?_
        exact ⟨by omega, ⟨by omega, by omega⟩, ⟨by omega, by omega⟩, by omega, E, LB4, LB5, LB9, LB10, RB9, RB10, (HX.mono (fun i hi h => by ((try dsimp only [New] at h); omega))), HPX, (HY.mono (fun i hi h => by ((try dsimp only [New] at h); omega))), HPY⟩
      · intro wD3_5 B9 B10 ax xcap xk xn xc xA xm xd ay ycap yk yn yc yA ym yd hJ
        obtain ⟨z95, ⟨bB9, cB9⟩, ⟨bB10, cB10⟩, nB9B10, E, LB4, LB5, LB9, LB10, RB9, RB10, HX, HPX, HY, HPY⟩ := hJ
        try dsimp only
        have hHeld := And.intro LB4 (LB5)
        refine wpAnyH_ready (rs := [11, 14]) (by kernel_rfl) (by simp) ?_
        refine AllReadyH.cons (o := ocop_3_11) rfl (fun K hK => ?_) (AllReadyH.cons (o := ocop_3_14) rfl (fun K hK => ?_) (AllReadyH.nil))
        · dsimp only [ocop_3_11]
          rw [if_pos (by rfl)]
          refine load_it rfl rfl (HY.is) ?_
          clear hHeld
          have hHeld := And.intro LB4 (LB5)
          refine hK.out _ _ hHeld (fun _ => ?_)
          clear hK K
          try simp only [Act.put, List.setIfInBounds_toArray, List.set_cons_zero, List.set_cons_succ]
          refine JD3_2 wD3_5 B9 B10 ax xcap xk xn xc xA xm xd ay ycap yk yn yc yA ym yd ?_
          exact ⟨by omega, ⟨by omega, by omega⟩, ⟨by omega, by omega⟩, by omega, E, LB4, LB5, LB9, LB10, RB9, RB10, (HX.mono (fun i hi h => by ((try dsimp only [New] at h); omega))), HPX, (HY.mono (fun i hi h => by ((try dsimp only [New] at h); omega))), HPY⟩
        · dsimp only [ocop_3_14]
          rw [if_pos (by rfl)]
          have hRl := (RB9).lt (Nat.zero_lt_succ _)
          refine storeI (by rfl) (by rfl) (v := (.agg #[.int .i64 xk, .float .f64 xn, .int .i32 xc, .slice xA xm xd])) (by rfl) RB9 (it_flat xk xn xc xA xm xd) ?_
          clear LB9
          intro s96 G96 LB9 RQ
          have z97 := G96.size
          replace E := grown_ext E G96 (by omega)
          replace LB4 := LB4.grown G96 (by omega)
          replace LB5 := LB5.grown G96 (by omega)
          replace LB10 := LB10.grown G96 (by omega)
          replace RB10 := RB10.grown G96 (by omega)
          replace HX := HX.grown G96 (by first | omega | (dsimp only [New]; omega))
          replace HPX := HPX.grown G96 (fun h => h)
          replace HY := HY.grown G96 (by first | omega | (dsimp only [New]; omega))
          replace HPY := HPY.grown G96 (fun h => h)
          clear RB9
          have RB9 := RQ
          clear RQ hRl G96
          clear hHeld
          have hHeld := And.intro LB4 (LB5)
          refine hK.out _ _ hHeld (fun _ => ?_)
          clear hK K
          try simp only [Act.put]
          refine wpAnyH_ready (rs := [11]) (by kernel_rfl) (by simp) ?_
          refine AllReadyH.cons (o := ocop_3_11) rfl (fun K hK => ?_) (AllReadyH.nil)
          dsimp only [ocop_3_11]
          rw [if_pos (by rfl)]
          refine load_it rfl rfl (HY.is) ?_
          clear hHeld
          have hHeld := And.intro LB4 (LB5)
          refine hK.out _ _ hHeld (fun _ => ?_)
          clear hK K
          try simp only [Act.put, List.setIfInBounds_toArray, List.set_cons_zero, List.set_cons_succ]
          refine JD3_1 s96 B9 B10 ax xcap xk xn xc xA xm xd ay ycap yk yn yc yA ym yd ?_
          exact ⟨by omega, ⟨by omega, by omega⟩, ⟨by omega, by omega⟩, by omega, E, LB4, LB5, LB9, LB10, RB10, (HX.mono (fun i hi h => by ((try dsimp only [New] at h); omega))), HPX, (HY.mono (fun i hi h => by ((try dsimp only [New] at h); omega))), HPY⟩
      · intro wD3_4 B10 ax xcap xk xn xc xA xm xd ay ycap yk yn yc yA ym yd hJ
        obtain ⟨z98, ⟨bB10, cB10⟩, E, LB4, LB5, LB10, RB10, HX, HPX, HY, HPY⟩ := hJ
        try dsimp only
        have hHeld := And.intro LB4 (LB5)
        refine wpAnyH_ready (rs := [12]) (by kernel_rfl) (by simp) ?_
        refine AllReadyH.cons (o := ocop_3_12) rfl (fun K hK => ?_) (AllReadyH.nil)
        dsimp only [ocop_3_12]
        rw [if_pos (by rfl)]
        refine allocI rfl ?_
        intro B9 w9 bB9 cB9 XB9 LB9 RB9
        have z99 := XB9.size
        replace E := E.trans XB9
        replace LB4 := LB4.ext XB9
        replace LB5 := LB5.ext XB9
        replace LB10 := LB10.ext XB9
        replace RB10 := RB10.ext XB9
        replace HX := HX.ext XB9
        replace HPX := HPX.ext XB9
        replace HY := HY.ext XB9
        replace HPY := HPY.ext XB9
        clear hHeld
        have hHeld := And.intro LB4 (LB5)
        refine hK.out _ _ hHeld (fun _ => ?_)
        clear hK K
        try simp only [Act.put, List.setIfInBounds_toArray, List.set_cons_zero, List.set_cons_succ]
        refine JD3_2 w9 B9 B10 ax xcap xk xn xc xA xm xd ay ycap yk yn yc yA ym yd ?_
        exact ⟨by omega, ⟨by omega, by omega⟩, ⟨by omega, by omega⟩, by omega, E, LB4, LB5, LB9, LB10, RB9, RB10, (HX.mono (fun i hi h => by ((try dsimp only [New] at h); omega))), HPX, (HY.mono (fun i hi h => by ((try dsimp only [New] at h); omega))), HPY⟩
      · intro wD3_3 B9 ax xcap xk xn xc xA xm xd ay ycap yk yn yc yA ym yd hJ
        obtain ⟨z100, ⟨bB9, cB9⟩, E, LB4, LB5, LB9, RB9, HX, HPX, HY, HPY⟩ := hJ
        try dsimp only
        have hHeld := And.intro LB4 (LB5)
        refine wpAnyH_ready (rs := [13]) (by kernel_rfl) (by simp) ?_
        refine AllReadyH.cons (o := ocop_3_13) rfl (fun K hK => ?_) (AllReadyH.nil)
        dsimp only [ocop_3_13]
        rw [if_pos (by rfl)]
        refine allocI rfl ?_
        intro B10 w10 bB10 cB10 XB10 LB10 RB10
        have z101 := XB10.size
        replace E := E.trans XB10
        replace LB4 := LB4.ext XB10
        replace LB5 := LB5.ext XB10
        replace LB9 := LB9.ext XB10
        replace RB9 := RB9.ext XB10
        replace HX := HX.ext XB10
        replace HPX := HPX.ext XB10
        replace HY := HY.ext XB10
        replace HPY := HPY.ext XB10
        clear hHeld
        have hHeld := And.intro LB4 (LB5)
        refine hK.out _ _ hHeld (fun _ => ?_)
        clear hK K
        try simp only [Act.put, List.setIfInBounds_toArray, List.set_cons_zero, List.set_cons_succ]
        refine JD3_2 w10 B9 B10 ax xcap xk xn xc xA xm xd ay ycap yk yn yc yA ym yd ?_
        exact ⟨by omega, ⟨by omega, by omega⟩, ⟨by omega, by omega⟩, by omega, E, LB4, LB5, LB9, LB10, RB9, RB10, (HX.mono (fun i hi h => by ((try dsimp only [New] at h); omega))), HPX, (HY.mono (fun i hi h => by ((try dsimp only [New] at h); omega))), HPY⟩
      · intro wD3_2 B9 B10 ax xcap xk xn xc xA xm xd ay ycap yk yn yc yA ym yd hJ
        obtain ⟨z102, ⟨bB9, cB9⟩, ⟨bB10, cB10⟩, nB9B10, E, LB4, LB5, LB9, LB10, RB9, RB10, HX, HPX, HY, HPY⟩ := hJ
        try dsimp only
        have hHeld := And.intro LB4 (LB5)
        refine wpAnyH_ready (rs := [14]) (by kernel_rfl) (by simp) ?_
        refine AllReadyH.cons (o := ocop_3_14) rfl (fun K hK => ?_) (AllReadyH.nil)
        dsimp only [ocop_3_14]
        rw [if_pos (by rfl)]
        have hRl := (RB9).lt (Nat.zero_lt_succ _)
        refine storeI (by rfl) (by rfl) (v := (.agg #[.int .i64 xk, .float .f64 xn, .int .i32 xc, .slice xA xm xd])) (by rfl) RB9 (it_flat xk xn xc xA xm xd) ?_
        clear LB9
        intro s103 G103 LB9 RQ
        have z104 := G103.size
        replace E := grown_ext E G103 (by omega)
        replace LB4 := LB4.grown G103 (by omega)
        replace LB5 := LB5.grown G103 (by omega)
        replace LB10 := LB10.grown G103 (by omega)
        replace RB10 := RB10.grown G103 (by omega)
        replace HX := HX.grown G103 (by first | omega | (dsimp only [New]; omega))
        replace HPX := HPX.grown G103 (fun h => h)
        replace HY := HY.grown G103 (by first | omega | (dsimp only [New]; omega))
        replace HPY := HPY.grown G103 (fun h => h)
        clear RB9
        have RB9 := RQ
        clear RQ hRl G103
        clear hHeld
        have hHeld := And.intro LB4 (LB5)
        refine hK.out _ _ hHeld (fun _ => ?_)
        clear hK K
        try simp only [Act.put]
        refine JD3_1 s103 B9 B10 ax xcap xk xn xc xA xm xd ay ycap yk yn yc yA ym yd ?_
        exact ⟨by omega, ⟨by omega, by omega⟩, ⟨by omega, by omega⟩, by omega, E, LB4, LB5, LB9, LB10, RB10, (HX.mono (fun i hi h => by ((try dsimp only [New] at h); omega))), HPX, (HY.mono (fun i hi h => by ((try dsimp only [New] at h); omega))), HPY⟩
      · intro wD3_1 B9 B10 ax xcap xk xn xc xA xm xd ay ycap yk yn yc yA ym yd hJ
        obtain ⟨z105, ⟨bB9, cB9⟩, ⟨bB10, cB10⟩, nB9B10, E, LB4, LB5, LB9, LB10, RB10, HX, HPX, HY, HPY⟩ := hJ
        try dsimp only
        have hHeld := And.intro LB4 (LB5)
        refine wpAnyH_ready (rs := [15]) (by kernel_rfl) (by simp) ?_
        refine AllReadyH.cons (o := ocop_3_15) rfl (fun K hK => ?_) (AllReadyH.nil)
        dsimp only [ocop_3_15]
        rw [if_pos (by rfl)]
        have hRl := (RB10).lt (Nat.zero_lt_succ _)
        refine storeI (by rfl) (by rfl) (v := (.agg #[.int .i64 yk, .float .f64 yn, .int .i32 yc, .slice yA ym yd])) (by rfl) RB10 (it_flat yk yn yc yA ym yd) ?_
        clear LB10
        intro s106 G106 LB10 RQ
        have z107 := G106.size
        replace E := grown_ext E G106 (by omega)
        replace LB4 := LB4.grown G106 (by omega)
        replace LB5 := LB5.grown G106 (by omega)
        replace LB9 := LB9.grown G106 (by omega)
        replace HX := HX.grown G106 (by first | omega | (dsimp only [New]; omega))
        replace HPX := HPX.grown G106 (fun h => h)
        replace HY := HY.grown G106 (by first | omega | (dsimp only [New]; omega))
        replace HPY := HPY.grown G106 (fun h => h)
        clear RB10
        have RB10 := RQ
        clear RQ hRl G106
        clear hHeld
        have hHeld := And.intro LB4 (LB5)
        refine hK.out _ _ hHeld (fun _ => ?_)
        clear hK K
        try simp only [Act.put]
        refine wpAnyH_done (by kernel_rfl) ?_ _
        refine JD3_0 s106 B9 B10 ax xcap xk xn xc xA xm xd ay ycap yk yn yc yA ym yd ?_
        exact ⟨by omega, ⟨by omega, by omega⟩, ⟨by omega, by omega⟩, by omega, E, LB4, LB5, LB9, LB10, HPX, HPY, lay_cell LB4 (j := 2) rfl, lay_cell LB5 (j := 2) rfl⟩
      · intro wD3_0 B9 B10 ax xcap xk xn xc xA xm xd ay ycap yk yn yc yA ym yd hJ
        obtain ⟨z108, ⟨bB9, cB9⟩, ⟨bB10, cB10⟩, nB9B10, E, LB4, LB5, LB9, LB10, HPX, HPY, cB4_2, cB5_2⟩ := hJ
        try dsimp only
        go_wp2_with fail
        try simp only [Act.put, List.setIfInBounds_toArray, List.set_cons_zero, List.set_cons_succ]
        have hq109 : wD3_0.heap.size ≤ wD3_0.drew.heap.size := Nat.le_refl _
        have z110 := (Ext.refl wD3_0).drew.size
        replace E := E.trans (Ext.refl wD3_0).drew
        replace LB4 := LB4.ext (Ext.refl wD3_0).drew
        replace LB5 := LB5.ext (Ext.refl wD3_0).drew
        replace LB9 := LB9.ext (Ext.refl wD3_0).drew
        replace LB10 := LB10.ext (Ext.refl wD3_0).drew
        replace HPX := HPX.ext (Ext.refl wD3_0).drew
        replace HPY := HPY.ext (Ext.refl wD3_0).drew
        replace cB4_2 := cell_ext ((Ext.refl wD3_0).drew) cB4_2
        replace cB5_2 := cell_ext ((Ext.refl wD3_0).drew) cB5_2
        refine wp_region_held_drew (S := (fun w' => Lay 3 w' B4 (.agg #[.slice sA ns sc, .slice iA m ic, .int .i64 fl]) ∧ Lay 3 w' B5 (.agg #[.slice tA nt tc, .slice jA r jc, .int .i64 fq]))) (by kernel_rfl) ⟨LB4, LB5⟩ (fun hHeld => ?_)
        refine wpAnyH_take (i := 0) (oi := { dst := some 68, op := Go.Op.load 29 (Go.Operand.tmp 4), type := 29, pos := "law.go:32", after := #[], guard := none }) (v := (.agg #[.slice sA ns sc, .slice iA m ic, .int .i64 fl])) rfl (by kernel_rfl) (by kernel_rfl) (by kernel_rfl) (fun _ _ _ h => h) (yieldP (by rfl) rfl rfl fun w' hx => hx.1) hHeld ?_
        try simp only [Act.put, List.setIfInBounds_toArray, List.set_cons_zero, List.set_cons_succ]
        refine wpAnyH_take (i := 3) (oi := { dst := some 71, op := Go.Op.move (Go.Operand.tmp 2), type := 3, pos := "law.go:32", after := #[], guard := none }) (v := ?v112f1f1) rfl (by kernel_rfl) (by kernel_rfl) (by kernel_rfl) (fun _ _ _ h => h) (Or.inl ⟨by rfl, ?hy112f1f1⟩) hHeld ?rest112f1f1
        case hy112f1f1 => (intro w hSw; (try dsimp only at hSw); go_simp; (first | done | with_reducible rfl))
        try simp only [Act.put, List.setIfInBounds_toArray, List.set_cons_zero, List.set_cons_succ]
        refine wpAnyH_take (i := 4) (oi := { dst := some 72, op := Go.Op.load 29 (Go.Operand.tmp 5), type := 29, pos := "law.go:32", after := #[], guard := none }) (v := (.agg #[.slice tA nt tc, .slice jA r jc, .int .i64 fq])) rfl (by kernel_rfl) (by kernel_rfl) (by kernel_rfl) (fun _ _ _ h => h) (yieldP (by rfl) rfl rfl fun w' hx => hx.2) hHeld ?_
        try simp only [Act.put, List.setIfInBounds_toArray, List.set_cons_zero, List.set_cons_succ]
        refine wpAnyH_take (i := 7) (oi := { dst := some 75, op := Go.Op.move (Go.Operand.tmp 3), type := 3, pos := "law.go:32", after := #[], guard := none }) (v := ?v114f1f1) rfl (by kernel_rfl) (by kernel_rfl) (by kernel_rfl) (fun _ _ _ h => h) (Or.inl ⟨by rfl, ?hy114f1f1⟩) hHeld ?rest114f1f1
        case hy114f1f1 => (intro w hSw; (try dsimp only at hSw); go_simp; (first | done | with_reducible rfl))
        try simp only [Act.put, List.setIfInBounds_toArray, List.set_cons_zero, List.set_cons_succ]
        refine wpAnyH_ready (rs := [1]) (by kernel_rfl) (by simp) ?_
        refine AllReadyH.cons (o := ocop_4_1) rfl (fun K hK => ?_) (AllReadyH.nil)
        dsimp only [ocop_4_1]
        go_simp
        refine (co _ E).mono ?_
        rintro e w69 ⟨c0, c1, c2, c3, c4, c5, c6, c7, c8, rfl, hf, hq, x⟩
        have HV := hq.now
        clear hf hq
        have z115 := x.size
        replace E := E.trans x
        replace LB4 := LB4.ext x
        replace LB5 := LB5.ext x
        replace LB9 := LB9.ext x
        replace LB10 := LB10.ext x
        replace HPX := HPX.ext x
        replace HPY := HPY.ext x
        replace cB4_2 := cell_ext (x) cB4_2
        replace cB5_2 := cell_ext (x) cB5_2
        clear x
        clear hHeld
        have hHeld := And.intro LB4 (LB5)
        refine hK.out _ _ hHeld (fun _ => ?_)
        clear hK K
        try simp only [Act.put, List.setIfInBounds_toArray, List.set_cons_zero, List.set_cons_succ]
        refine wpAnyH_take (i := 2) (oi := { dst := some 70, op := Go.Op.field 43 (Go.Operand.tmp 69) 1, type := 41, pos := "law.go:32", after := #[{ on := 1, ground := Go.Ground.data }], guard := none }) (v := (.agg #[c1, c2, c3, c4, c5, c6, c7, c8])) rfl (by kernel_rfl) (by kernel_rfl) (by kernel_rfl) (fun _ _ _ h => h) (Or.inl ⟨by rfl, ?hy116f1f1⟩) hHeld ?rest116f1f1
        case hy116f1f1 => (intro w hSw; (try dsimp only at hSw); go_simp; try (first | rfl | (simp [Sem.run]; done)); (first | done | with_reducible rfl))
        try simp only [Act.put, List.setIfInBounds_toArray, List.set_cons_zero, List.set_cons_succ]
        refine wpAnyH_ready (rs := [5]) (by kernel_rfl) (by simp) ?_
        refine AllReadyH.cons (o := ocop_4_5) rfl (fun K hK => ?_) (AllReadyH.nil)
        dsimp only [ocop_4_5]
        go_simp
        refine (cv _ E).mono ?_
        rintro e w73 ⟨d0, d1, d2, d3, d4, d5, d6, d7, d8, rfl, hf, hq, x⟩
        rcases hcase with ⟨e93, rfl, rfl⟩ | ⟨e93, e97, rfl, rfl⟩ | ⟨e93, e97, rfl, rfl, rfl, rfl⟩ | ⟨e93, e97, rfl, rfl, rfl, rfl⟩ | ⟨e93, e97, rfl, rfl, rfl, rfl⟩
        · have HU := hq.now
          clear hf hq
          have z117 := x.size
          replace E := E.trans x
          replace LB4 := LB4.ext x
          replace LB5 := LB5.ext x
          replace LB9 := LB9.ext x
          replace LB10 := LB10.ext x
          replace HPX := HPX.ext x
          replace HPY := HPY.ext x
          replace cB4_2 := cell_ext (x) cB4_2
          replace cB5_2 := cell_ext (x) cB5_2
          replace HV := HV.ext x
          clear x
          clear hHeld
          have hHeld := And.intro LB4 (LB5)
          refine hK.out _ _ hHeld (fun _ => ?_)
          clear hK K
          try simp only [Act.put, List.setIfInBounds_toArray, List.set_cons_zero, List.set_cons_succ]
          refine wpAnyH_take (i := 6) (oi := { dst := some 74, op := Go.Op.field 43 (Go.Operand.tmp 73) 1, type := 41, pos := "law.go:32", after := #[{ on := 5, ground := Go.Ground.data }], guard := none }) (v := (.agg #[d1, d2, d3, d4, d5, d6, d7, d8])) rfl (by kernel_rfl) (by kernel_rfl) (by kernel_rfl) (fun _ _ _ h => h) (Or.inl ⟨by rfl, ?hy118f0f1f1⟩) hHeld ?rest118f0f1f1
          case hy118f0f1f1 => (intro w hSw; (try dsimp only at hSw); go_simp; try (first | rfl | (simp [Sem.run]; done)); (first | done | with_reducible rfl))
          try simp only [Act.put, List.setIfInBounds_toArray, List.set_cons_zero, List.set_cons_succ]
          refine wpAnyH_ready (rs := [8]) (by kernel_rfl) (by simp) ?_
          refine AllReadyH.cons (o := ocop_4_8) rfl (fun K hK => ?_) (AllReadyH.nil)
          dsimp only [ocop_4_8]
          go_simp
          refine (kc _ _ _ HV.is HU.is).mono ?_
          rintro e w76 ⟨rfl, x⟩
          have z119 := x.size
          replace E := E.trans x
          replace LB4 := LB4.ext x
          replace LB5 := LB5.ext x
          replace LB9 := LB9.ext x
          replace LB10 := LB10.ext x
          replace HPX := HPX.ext x
          replace HPY := HPY.ext x
          replace cB4_2 := cell_ext (x) cB4_2
          replace cB5_2 := cell_ext (x) cB5_2
          replace HV := HV.ext x
          replace HU := HU.ext x
          clear x
          clear hHeld
          have hHeld := And.intro LB4 (LB5)
          refine hK.out _ _ hHeld (fun _ => ?_)
          clear hK K
          try simp only [Act.put, List.setIfInBounds_toArray, List.set_cons_zero, List.set_cons_succ]
          refine wpAnyH_take (i := 9) (oi := { dst := some 67, op := Go.Op.move (Go.Operand.tmp 76), type := 60, pos := "law.go:32", after := #[{ on := 8, ground := Go.Ground.data }], guard := none }) (v := ?v120f0f1f1) rfl (by kernel_rfl) (by kernel_rfl) (by kernel_rfl) (fun _ _ _ h => h) (Or.inl ⟨by rfl, ?hy120f0f1f1⟩) hHeld ?rest120f0f1f1
          case hy120f0f1f1 => (intro w hSw; (try dsimp only at hSw); go_simp; (first | done | with_reducible rfl))
          try simp only [Act.put, List.setIfInBounds_toArray, List.set_cons_zero, List.set_cons_succ]
          refine wpAnyH_take (i := 10) (oi := { dst := some 77, op := Go.Op.extract (Go.Operand.tmp 67) 0, type := 3, pos := "law.go:32", after := #[{ on := 9, ground := Go.Ground.data }], guard := none }) (v := ?v121f0f1f1) rfl (by kernel_rfl) (by kernel_rfl) (by kernel_rfl) (fun _ _ _ h => h) (Or.inl ⟨by rfl, ?hy121f0f1f1⟩) hHeld ?rest121f0f1f1
          case hy121f0f1f1 => (intro w hSw; (try dsimp only at hSw); go_simp; (first | done | with_reducible rfl))
          try simp only [Act.put, List.setIfInBounds_toArray, List.set_cons_zero, List.set_cons_succ]
          refine wpAnyH_take (i := 11) (oi := { dst := some 78, op := Go.Op.extract (Go.Operand.tmp 67) 1, type := 4, pos := "law.go:32", after := #[{ on := 9, ground := Go.Ground.data }, { on := 12, ground := Go.Ground.gcOnly Go.Departure.lateStores }], guard := none }) (v := ?v122f0f1f1) rfl (by kernel_rfl) (by kernel_rfl) (by kernel_rfl) (fun _ _ _ h => h) (Or.inl ⟨by rfl, ?hy122f0f1f1⟩) hHeld ?rest122f0f1f1
          case hy122f0f1f1 => (intro w hSw; (try dsimp only at hSw); go_simp; (first | done | with_reducible rfl))
          try simp only [Act.put, List.setIfInBounds_toArray, List.set_cons_zero, List.set_cons_succ]
          refine wpAnyH_take (i := 12) (oi := { dst := some 11, op := Go.Op.assign (Go.Operand.tmp 77), type := 3, pos := "law.go:32", after := #[{ on := 10, ground := Go.Ground.data }, { on := 8, ground := Go.Ground.chain }, { on := 0, ground := Go.Ground.phase }, { on := 1, ground := Go.Ground.phase }, { on := 2, ground := Go.Ground.phase }, { on := 3, ground := Go.Ground.phase }, { on := 4, ground := Go.Ground.phase }, { on := 5, ground := Go.Ground.phase }, { on := 6, ground := Go.Ground.phase }, { on := 7, ground := Go.Ground.phase }, { on := 8, ground := Go.Ground.phase }, { on := 9, ground := Go.Ground.phase }, { on := 10, ground := Go.Ground.phase }, { on := 11, ground := Go.Ground.textOnly Go.Departure.lateStores }], guard := none }) (v := ?v123f0f1f1) rfl (by kernel_rfl) (by kernel_rfl) (by kernel_rfl) (fun _ _ _ h => h) (Or.inl ⟨by rfl, ?hy123f0f1f1⟩) hHeld ?rest123f0f1f1
          case hy123f0f1f1 => (intro w hSw; (try dsimp only at hSw); go_simp; (first | done | with_reducible rfl))
          try simp only [Act.put, List.setIfInBounds_toArray, List.set_cons_zero, List.set_cons_succ]
          refine wpAnyH_take (i := 13) (oi := { dst := some 12, op := Go.Op.assign (Go.Operand.tmp 78), type := 4, pos := "law.go:32", after := #[{ on := 11, ground := Go.Ground.data }, { on := 12, ground := Go.Ground.chain }, { on := 0, ground := Go.Ground.phase }, { on := 1, ground := Go.Ground.phase }, { on := 2, ground := Go.Ground.phase }, { on := 3, ground := Go.Ground.phase }, { on := 4, ground := Go.Ground.phase }, { on := 5, ground := Go.Ground.phase }, { on := 6, ground := Go.Ground.phase }, { on := 7, ground := Go.Ground.phase }, { on := 8, ground := Go.Ground.phase }, { on := 9, ground := Go.Ground.phase }, { on := 10, ground := Go.Ground.phase }, { on := 11, ground := Go.Ground.phase }, { on := 12, ground := Go.Ground.phase }], guard := none }) (v := ?v124f0f1f1) rfl (by kernel_rfl) (by kernel_rfl) (by kernel_rfl) (fun _ _ _ h => h) (Or.inl ⟨by rfl, ?hy124f0f1f1⟩) hHeld ?rest124f0f1f1
          case hy124f0f1f1 => (intro w hSw; (try dsimp only at hSw); go_simp; (first | done | with_reducible rfl))
          try simp only [Act.put, List.setIfInBounds_toArray, List.set_cons_zero, List.set_cons_succ]
          refine wpAnyH_done (by kernel_rfl) ?_ _
          go_wp2_with fail
          try simp only [Act.put, List.setIfInBounds_toArray, List.set_cons_zero, List.set_cons_succ]
          have hq125 : w76.heap.size ≤ w76.drew.heap.size := Nat.le_refl _
          have z126 := (Ext.refl w76).drew.size
          replace E := E.trans (Ext.refl w76).drew
          replace LB4 := LB4.ext (Ext.refl w76).drew
          replace LB5 := LB5.ext (Ext.refl w76).drew
          replace LB9 := LB9.ext (Ext.refl w76).drew
          replace LB10 := LB10.ext (Ext.refl w76).drew
          replace HPX := HPX.ext (Ext.refl w76).drew
          replace HPY := HPY.ext (Ext.refl w76).drew
          replace cB4_2 := cell_ext ((Ext.refl w76).drew) cB4_2
          replace cB5_2 := cell_ext ((Ext.refl w76).drew) cB5_2
          replace HV := HV.ext (Ext.refl w76).drew
          replace HU := HU.ext (Ext.refl w76).drew
          refine wp_region_held_drew (S := (fun w' => w'.cell? ⟨B4, 2, none⟩ = some (.int .i64 fl))) (by kernel_rfl) (cB4_2) (fun hHeld => ?_)
          refine wpAnyH_take (i := 0) (oi := { dst := some 79, op := Go.Op.fieldAddr 29 (Go.Operand.tmp 4) 2, type := 0, pos := "law.go:33", after := #[], guard := none }) (v := ?v127f0f1f1) rfl (by kernel_rfl) (by kernel_rfl) (by kernel_rfl) (fun _ _ _ h => h) (Or.inl ⟨by rfl, ?hy127f0f1f1⟩) hHeld ?rest127f0f1f1
          case hy127f0f1f1 => (intro w hSw; (try dsimp only at hSw); go_simp; (first | done | with_reducible rfl))
          try simp only [Act.put, List.setIfInBounds_toArray, List.set_cons_zero, List.set_cons_succ]
          refine wpAnyH_take (i := 1) (oi := { dst := some 80, op := Go.Op.load 3 (Go.Operand.tmp 79), type := 3, pos := "law.go:33", after := #[{ on := 0, ground := Go.Ground.data }], guard := none }) (v := ?v128f0f1f1) rfl (by kernel_rfl) (by kernel_rfl) (by kernel_rfl) (fun _ _ _ h => h) (Or.inl ⟨by rfl, ?hy128f0f1f1⟩) hHeld ?rest128f0f1f1
          case hy128f0f1f1 => (intro w hSw; (try dsimp only at hSw); go_simp; (first | done | with_reducible rfl))
          try simp only [Act.put, List.setIfInBounds_toArray, List.set_cons_zero, List.set_cons_succ]
          refine wpAnyH_take (i := 3) (oi := { dst := some 82, op := Go.Op.fieldAddr 29 (Go.Operand.tmp 4) 2, type := 0, pos := "law.go:33", after := #[], guard := none }) (v := ?v129f0f1f1) rfl (by kernel_rfl) (by kernel_rfl) (by kernel_rfl) (fun _ _ _ h => h) (Or.inl ⟨by rfl, ?hy129f0f1f1⟩) hHeld ?rest129f0f1f1
          case hy129f0f1f1 => (intro w hSw; (try dsimp only at hSw); go_simp; (first | done | with_reducible rfl))
          try simp only [Act.put, List.setIfInBounds_toArray, List.set_cons_zero, List.set_cons_succ]
          refine wpAnyH_take (i := 4) (oi := { dst := some 83, op := Go.Op.load 3 (Go.Operand.tmp 82), type := 3, pos := "law.go:33", after := #[{ on := 3, ground := Go.Ground.data }], guard := none }) (v := ?v130f0f1f1) rfl (by kernel_rfl) (by kernel_rfl) (by kernel_rfl) (fun _ _ _ h => h) (Or.inl ⟨by rfl, ?hy130f0f1f1⟩) hHeld ?rest130f0f1f1
          case hy130f0f1f1 => (intro w hSw; (try dsimp only at hSw); go_simp; (first | done | with_reducible rfl))
          try simp only [Act.put, List.setIfInBounds_toArray, List.set_cons_zero, List.set_cons_succ]
          refine wpAnyH_take (i := 5) (oi := { dst := some 84, op := Go.Op.binOp Go.BinOp.lss 3 (Go.Operand.tmp 83) (Go.Operand.const (Go.Value.int Go.IntKind.i64 2)) 3, type := 4, pos := "law.go:33", after := #[{ on := 4, ground := Go.Ground.data }], guard := none }) (v := .bool hb) rfl (by kernel_rfl) (by kernel_rfl) (by kernel_rfl) (fun _ _ _ h => h) (Or.inl ⟨by rfl, ?hy131f0f1f1⟩) hHeld ?rest131f0f1f1
          case hy131f0f1f1 => (intro w hSw; (try dsimp only at hSw); go_simp; try rw [e84]; (first | done | with_reducible rfl))
          try simp only [Act.put, List.setIfInBounds_toArray, List.set_cons_zero, List.set_cons_succ]
          refine wpAnyH_ready (rs := [2]) (by kernel_rfl) (by simp) ?_
          refine AllReadyH.cons (o := ocop_5_2) rfl (fun K hK => ?_) (AllReadyH.nil)
          dsimp only [ocop_5_2]
          go_simp
          refine (ch _).mono ?_
          rintro e w81 ⟨rfl, x⟩
          have z132 := x.size
          replace E := E.trans x
          replace LB4 := LB4.ext x
          replace LB5 := LB5.ext x
          replace LB9 := LB9.ext x
          replace LB10 := LB10.ext x
          replace HPX := HPX.ext x
          replace HPY := HPY.ext x
          replace cB4_2 := cell_ext (x) cB4_2
          replace cB5_2 := cell_ext (x) cB5_2
          replace HV := HV.ext x
          replace HU := HU.ext x
          clear x
          clear hHeld
          have hHeld := (cB4_2)
          refine hK.out _ _ hHeld (fun _ => ?_)
          clear hK K
          try simp only [Act.put, List.setIfInBounds_toArray, List.set_cons_zero, List.set_cons_succ]
          refine wpAnyH_take (i := 6) (oi := { dst := some 85, op := Go.Op.binOp Go.BinOp.neq 4 (Go.Operand.tmp 81) (Go.Operand.tmp 84) 4, type := 4, pos := "law.go:33", after := #[{ on := 2, ground := Go.Ground.data }, { on := 5, ground := Go.Ground.data }], guard := none }) (v := .bool false) rfl (by kernel_rfl) (by kernel_rfl) (by kernel_rfl) (fun _ _ _ h => h) (Or.inl ⟨by rfl, ?hy133f0f1f1⟩) hHeld ?rest133f0f1f1
          case hy133f0f1f1 => (intro w hSw; (try dsimp only at hSw); go_simp; try (simp; done); (first | done | with_reducible rfl))
          try simp only [Act.put, List.setIfInBounds_toArray, List.set_cons_zero, List.set_cons_succ]
          refine wpAnyH_take (i := 7) (oi := { dst := some 86, op := Go.Op.move (Go.Operand.tmp 85), type := 4, pos := "law.go:33", after := #[{ on := 6, ground := Go.Ground.data }, { on := 2, ground := Go.Ground.chain }], guard := none }) (v := ?v134f0f1f1) rfl (by kernel_rfl) (by kernel_rfl) (by kernel_rfl) (fun _ _ _ h => h) (Or.inl ⟨by rfl, ?hy134f0f1f1⟩) hHeld ?rest134f0f1f1
          case hy134f0f1f1 => (intro w hSw; (try dsimp only at hSw); go_simp; (first | done | with_reducible rfl))
          try simp only [Act.put, List.setIfInBounds_toArray, List.set_cons_zero, List.set_cons_succ]
          refine wpAnyH_ready (rs := [8]) (by kernel_rfl) (by simp) ?_
          refine AllReadyH.cons (o := ocop_5_8) rfl (fun K hK => ?_) (AllReadyH.nil)
          dsimp only [ocop_5_8]
          go_simp
          refine (ch9 _).mono ?_
          rintro e w87 ⟨rfl, x⟩
          have z135 := x.size
          replace E := E.trans x
          replace LB4 := LB4.ext x
          replace LB5 := LB5.ext x
          replace LB9 := LB9.ext x
          replace LB10 := LB10.ext x
          replace HPX := HPX.ext x
          replace HPY := HPY.ext x
          replace cB4_2 := cell_ext (x) cB4_2
          replace cB5_2 := cell_ext (x) cB5_2
          replace HV := HV.ext x
          replace HU := HU.ext x
          clear x
          clear hHeld
          have hHeld := (cB4_2)
          refine hK.out _ _ hHeld (fun _ => ?_)
          clear hK K
          try simp only [Act.put, List.setIfInBounds_toArray, List.set_cons_zero, List.set_cons_succ]
          refine wpAnyH_take (i := 9) (oi := { dst := some 88, op := Go.Op.pick (Go.Operand.tmp 86) (Go.Operand.const (Go.Value.bool true)) (Go.Operand.tmp 87), type := 4, pos := "law.go:33", after := #[{ on := 7, ground := Go.Ground.data }, { on := 8, ground := Go.Ground.data }], guard := none }) (v := ?v136f0f1f1) rfl (by kernel_rfl) (by kernel_rfl) (by kernel_rfl) (fun _ _ _ h => h) (Or.inl ⟨by rfl, ?hy136f0f1f1⟩) hHeld ?rest136f0f1f1
          case hy136f0f1f1 => (intro w hSw; (try dsimp only at hSw); go_simp; (first | done | with_reducible rfl))
          try simp only [Act.put, List.setIfInBounds_toArray, List.set_cons_zero, List.set_cons_succ]
          refine wpAnyH_done (by kernel_rfl) ?_ _
          go_wp2_with fail
          refine (oawake_any _).mono ?_
          rintro e w106 ⟨rfl, x⟩
          have z137 := x.size
          replace E := E.trans x
          replace LB4 := LB4.ext x
          replace LB5 := LB5.ext x
          replace LB9 := LB9.ext x
          replace LB10 := LB10.ext x
          replace HPX := HPX.ext x
          replace HPY := HPY.ext x
          replace cB4_2 := cell_ext (x) cB4_2
          replace cB5_2 := cell_ext (x) cB5_2
          replace HV := HV.ext x
          replace HU := HU.ext x
          clear x
          go_wp2_with fail
          go_ret
          exact ⟨rfl, E⟩
        · have HU := hq.now
          clear hf hq
          have z117 := x.size
          replace E := E.trans x
          replace LB4 := LB4.ext x
          replace LB5 := LB5.ext x
          replace LB9 := LB9.ext x
          replace LB10 := LB10.ext x
          replace HPX := HPX.ext x
          replace HPY := HPY.ext x
          replace cB4_2 := cell_ext (x) cB4_2
          replace cB5_2 := cell_ext (x) cB5_2
          replace HV := HV.ext x
          clear x
          clear hHeld
          have hHeld := And.intro LB4 (LB5)
          refine hK.out _ _ hHeld (fun _ => ?_)
          clear hK K
          try simp only [Act.put, List.setIfInBounds_toArray, List.set_cons_zero, List.set_cons_succ]
          refine wpAnyH_take (i := 6) (oi := { dst := some 74, op := Go.Op.field 43 (Go.Operand.tmp 73) 1, type := 41, pos := "law.go:32", after := #[{ on := 5, ground := Go.Ground.data }], guard := none }) (v := (.agg #[d1, d2, d3, d4, d5, d6, d7, d8])) rfl (by kernel_rfl) (by kernel_rfl) (by kernel_rfl) (fun _ _ _ h => h) (Or.inl ⟨by rfl, ?hy118f1f1f1⟩) hHeld ?rest118f1f1f1
          case hy118f1f1f1 => (intro w hSw; (try dsimp only at hSw); go_simp; try (first | rfl | (simp [Sem.run]; done)); (first | done | with_reducible rfl))
          try simp only [Act.put, List.setIfInBounds_toArray, List.set_cons_zero, List.set_cons_succ]
          refine wpAnyH_ready (rs := [8]) (by kernel_rfl) (by simp) ?_
          refine AllReadyH.cons (o := ocop_4_8) rfl (fun K hK => ?_) (AllReadyH.nil)
          dsimp only [ocop_4_8]
          go_simp
          refine (kc _ _ _ HV.is HU.is).mono ?_
          rintro e w76 ⟨rfl, x⟩
          have z119 := x.size
          replace E := E.trans x
          replace LB4 := LB4.ext x
          replace LB5 := LB5.ext x
          replace LB9 := LB9.ext x
          replace LB10 := LB10.ext x
          replace HPX := HPX.ext x
          replace HPY := HPY.ext x
          replace cB4_2 := cell_ext (x) cB4_2
          replace cB5_2 := cell_ext (x) cB5_2
          replace HV := HV.ext x
          replace HU := HU.ext x
          clear x
          clear hHeld
          have hHeld := And.intro LB4 (LB5)
          refine hK.out _ _ hHeld (fun _ => ?_)
          clear hK K
          try simp only [Act.put, List.setIfInBounds_toArray, List.set_cons_zero, List.set_cons_succ]
          refine wpAnyH_take (i := 9) (oi := { dst := some 67, op := Go.Op.move (Go.Operand.tmp 76), type := 60, pos := "law.go:32", after := #[{ on := 8, ground := Go.Ground.data }], guard := none }) (v := ?v120f1f1f1) rfl (by kernel_rfl) (by kernel_rfl) (by kernel_rfl) (fun _ _ _ h => h) (Or.inl ⟨by rfl, ?hy120f1f1f1⟩) hHeld ?rest120f1f1f1
          case hy120f1f1f1 => (intro w hSw; (try dsimp only at hSw); go_simp; (first | done | with_reducible rfl))
          try simp only [Act.put, List.setIfInBounds_toArray, List.set_cons_zero, List.set_cons_succ]
          refine wpAnyH_take (i := 10) (oi := { dst := some 77, op := Go.Op.extract (Go.Operand.tmp 67) 0, type := 3, pos := "law.go:32", after := #[{ on := 9, ground := Go.Ground.data }], guard := none }) (v := ?v121f1f1f1) rfl (by kernel_rfl) (by kernel_rfl) (by kernel_rfl) (fun _ _ _ h => h) (Or.inl ⟨by rfl, ?hy121f1f1f1⟩) hHeld ?rest121f1f1f1
          case hy121f1f1f1 => (intro w hSw; (try dsimp only at hSw); go_simp; (first | done | with_reducible rfl))
          try simp only [Act.put, List.setIfInBounds_toArray, List.set_cons_zero, List.set_cons_succ]
          refine wpAnyH_take (i := 11) (oi := { dst := some 78, op := Go.Op.extract (Go.Operand.tmp 67) 1, type := 4, pos := "law.go:32", after := #[{ on := 9, ground := Go.Ground.data }, { on := 12, ground := Go.Ground.gcOnly Go.Departure.lateStores }], guard := none }) (v := ?v122f1f1f1) rfl (by kernel_rfl) (by kernel_rfl) (by kernel_rfl) (fun _ _ _ h => h) (Or.inl ⟨by rfl, ?hy122f1f1f1⟩) hHeld ?rest122f1f1f1
          case hy122f1f1f1 => (intro w hSw; (try dsimp only at hSw); go_simp; (first | done | with_reducible rfl))
          try simp only [Act.put, List.setIfInBounds_toArray, List.set_cons_zero, List.set_cons_succ]
          refine wpAnyH_take (i := 12) (oi := { dst := some 11, op := Go.Op.assign (Go.Operand.tmp 77), type := 3, pos := "law.go:32", after := #[{ on := 10, ground := Go.Ground.data }, { on := 8, ground := Go.Ground.chain }, { on := 0, ground := Go.Ground.phase }, { on := 1, ground := Go.Ground.phase }, { on := 2, ground := Go.Ground.phase }, { on := 3, ground := Go.Ground.phase }, { on := 4, ground := Go.Ground.phase }, { on := 5, ground := Go.Ground.phase }, { on := 6, ground := Go.Ground.phase }, { on := 7, ground := Go.Ground.phase }, { on := 8, ground := Go.Ground.phase }, { on := 9, ground := Go.Ground.phase }, { on := 10, ground := Go.Ground.phase }, { on := 11, ground := Go.Ground.textOnly Go.Departure.lateStores }], guard := none }) (v := ?v123f1f1f1) rfl (by kernel_rfl) (by kernel_rfl) (by kernel_rfl) (fun _ _ _ h => h) (Or.inl ⟨by rfl, ?hy123f1f1f1⟩) hHeld ?rest123f1f1f1
          case hy123f1f1f1 => (intro w hSw; (try dsimp only at hSw); go_simp; (first | done | with_reducible rfl))
          try simp only [Act.put, List.setIfInBounds_toArray, List.set_cons_zero, List.set_cons_succ]
          refine wpAnyH_take (i := 13) (oi := { dst := some 12, op := Go.Op.assign (Go.Operand.tmp 78), type := 4, pos := "law.go:32", after := #[{ on := 11, ground := Go.Ground.data }, { on := 12, ground := Go.Ground.chain }, { on := 0, ground := Go.Ground.phase }, { on := 1, ground := Go.Ground.phase }, { on := 2, ground := Go.Ground.phase }, { on := 3, ground := Go.Ground.phase }, { on := 4, ground := Go.Ground.phase }, { on := 5, ground := Go.Ground.phase }, { on := 6, ground := Go.Ground.phase }, { on := 7, ground := Go.Ground.phase }, { on := 8, ground := Go.Ground.phase }, { on := 9, ground := Go.Ground.phase }, { on := 10, ground := Go.Ground.phase }, { on := 11, ground := Go.Ground.phase }, { on := 12, ground := Go.Ground.phase }], guard := none }) (v := ?v124f1f1f1) rfl (by kernel_rfl) (by kernel_rfl) (by kernel_rfl) (fun _ _ _ h => h) (Or.inl ⟨by rfl, ?hy124f1f1f1⟩) hHeld ?rest124f1f1f1
          case hy124f1f1f1 => (intro w hSw; (try dsimp only at hSw); go_simp; (first | done | with_reducible rfl))
          try simp only [Act.put, List.setIfInBounds_toArray, List.set_cons_zero, List.set_cons_succ]
          refine wpAnyH_done (by kernel_rfl) ?_ _
          go_wp2_with fail
          try simp only [Act.put, List.setIfInBounds_toArray, List.set_cons_zero, List.set_cons_succ]
          have hq125 : w76.heap.size ≤ w76.drew.heap.size := Nat.le_refl _
          have z126 := (Ext.refl w76).drew.size
          replace E := E.trans (Ext.refl w76).drew
          replace LB4 := LB4.ext (Ext.refl w76).drew
          replace LB5 := LB5.ext (Ext.refl w76).drew
          replace LB9 := LB9.ext (Ext.refl w76).drew
          replace LB10 := LB10.ext (Ext.refl w76).drew
          replace HPX := HPX.ext (Ext.refl w76).drew
          replace HPY := HPY.ext (Ext.refl w76).drew
          replace cB4_2 := cell_ext ((Ext.refl w76).drew) cB4_2
          replace cB5_2 := cell_ext ((Ext.refl w76).drew) cB5_2
          replace HV := HV.ext (Ext.refl w76).drew
          replace HU := HU.ext (Ext.refl w76).drew
          refine wp_region_held_drew (S := (fun w' => w'.cell? ⟨B4, 2, none⟩ = some (.int .i64 fl))) (by kernel_rfl) (cB4_2) (fun hHeld => ?_)
          refine wpAnyH_take (i := 0) (oi := { dst := some 79, op := Go.Op.fieldAddr 29 (Go.Operand.tmp 4) 2, type := 0, pos := "law.go:33", after := #[], guard := none }) (v := ?v127f1f1f1) rfl (by kernel_rfl) (by kernel_rfl) (by kernel_rfl) (fun _ _ _ h => h) (Or.inl ⟨by rfl, ?hy127f1f1f1⟩) hHeld ?rest127f1f1f1
          case hy127f1f1f1 => (intro w hSw; (try dsimp only at hSw); go_simp; (first | done | with_reducible rfl))
          try simp only [Act.put, List.setIfInBounds_toArray, List.set_cons_zero, List.set_cons_succ]
          refine wpAnyH_take (i := 1) (oi := { dst := some 80, op := Go.Op.load 3 (Go.Operand.tmp 79), type := 3, pos := "law.go:33", after := #[{ on := 0, ground := Go.Ground.data }], guard := none }) (v := ?v128f1f1f1) rfl (by kernel_rfl) (by kernel_rfl) (by kernel_rfl) (fun _ _ _ h => h) (Or.inl ⟨by rfl, ?hy128f1f1f1⟩) hHeld ?rest128f1f1f1
          case hy128f1f1f1 => (intro w hSw; (try dsimp only at hSw); go_simp; (first | done | with_reducible rfl))
          try simp only [Act.put, List.setIfInBounds_toArray, List.set_cons_zero, List.set_cons_succ]
          refine wpAnyH_take (i := 3) (oi := { dst := some 82, op := Go.Op.fieldAddr 29 (Go.Operand.tmp 4) 2, type := 0, pos := "law.go:33", after := #[], guard := none }) (v := ?v129f1f1f1) rfl (by kernel_rfl) (by kernel_rfl) (by kernel_rfl) (fun _ _ _ h => h) (Or.inl ⟨by rfl, ?hy129f1f1f1⟩) hHeld ?rest129f1f1f1
          case hy129f1f1f1 => (intro w hSw; (try dsimp only at hSw); go_simp; (first | done | with_reducible rfl))
          try simp only [Act.put, List.setIfInBounds_toArray, List.set_cons_zero, List.set_cons_succ]
          refine wpAnyH_take (i := 4) (oi := { dst := some 83, op := Go.Op.load 3 (Go.Operand.tmp 82), type := 3, pos := "law.go:33", after := #[{ on := 3, ground := Go.Ground.data }], guard := none }) (v := ?v130f1f1f1) rfl (by kernel_rfl) (by kernel_rfl) (by kernel_rfl) (fun _ _ _ h => h) (Or.inl ⟨by rfl, ?hy130f1f1f1⟩) hHeld ?rest130f1f1f1
          case hy130f1f1f1 => (intro w hSw; (try dsimp only at hSw); go_simp; (first | done | with_reducible rfl))
          try simp only [Act.put, List.setIfInBounds_toArray, List.set_cons_zero, List.set_cons_succ]
          refine wpAnyH_take (i := 5) (oi := { dst := some 84, op := Go.Op.binOp Go.BinOp.lss 3 (Go.Operand.tmp 83) (Go.Operand.const (Go.Value.int Go.IntKind.i64 2)) 3, type := 4, pos := "law.go:33", after := #[{ on := 4, ground := Go.Ground.data }], guard := none }) (v := .bool hb) rfl (by kernel_rfl) (by kernel_rfl) (by kernel_rfl) (fun _ _ _ h => h) (Or.inl ⟨by rfl, ?hy131f1f1f1⟩) hHeld ?rest131f1f1f1
          case hy131f1f1f1 => (intro w hSw; (try dsimp only at hSw); go_simp; try rw [e84]; (first | done | with_reducible rfl))
          try simp only [Act.put, List.setIfInBounds_toArray, List.set_cons_zero, List.set_cons_succ]
          refine wpAnyH_ready (rs := [2]) (by kernel_rfl) (by simp) ?_
          refine AllReadyH.cons (o := ocop_5_2) rfl (fun K hK => ?_) (AllReadyH.nil)
          dsimp only [ocop_5_2]
          go_simp
          refine (ch _).mono ?_
          rintro e w81 ⟨rfl, x⟩
          have z132 := x.size
          replace E := E.trans x
          replace LB4 := LB4.ext x
          replace LB5 := LB5.ext x
          replace LB9 := LB9.ext x
          replace LB10 := LB10.ext x
          replace HPX := HPX.ext x
          replace HPY := HPY.ext x
          replace cB4_2 := cell_ext (x) cB4_2
          replace cB5_2 := cell_ext (x) cB5_2
          replace HV := HV.ext x
          replace HU := HU.ext x
          clear x
          clear hHeld
          have hHeld := (cB4_2)
          refine hK.out _ _ hHeld (fun _ => ?_)
          clear hK K
          try simp only [Act.put, List.setIfInBounds_toArray, List.set_cons_zero, List.set_cons_succ]
          refine wpAnyH_take (i := 6) (oi := { dst := some 85, op := Go.Op.binOp Go.BinOp.neq 4 (Go.Operand.tmp 81) (Go.Operand.tmp 84) 4, type := 4, pos := "law.go:33", after := #[{ on := 2, ground := Go.Ground.data }, { on := 5, ground := Go.Ground.data }], guard := none }) (v := .bool false) rfl (by kernel_rfl) (by kernel_rfl) (by kernel_rfl) (fun _ _ _ h => h) (Or.inl ⟨by rfl, ?hy133f1f1f1⟩) hHeld ?rest133f1f1f1
          case hy133f1f1f1 => (intro w hSw; (try dsimp only at hSw); go_simp; try (simp; done); (first | done | with_reducible rfl))
          try simp only [Act.put, List.setIfInBounds_toArray, List.set_cons_zero, List.set_cons_succ]
          refine wpAnyH_take (i := 7) (oi := { dst := some 86, op := Go.Op.move (Go.Operand.tmp 85), type := 4, pos := "law.go:33", after := #[{ on := 6, ground := Go.Ground.data }, { on := 2, ground := Go.Ground.chain }], guard := none }) (v := ?v134f1f1f1) rfl (by kernel_rfl) (by kernel_rfl) (by kernel_rfl) (fun _ _ _ h => h) (Or.inl ⟨by rfl, ?hy134f1f1f1⟩) hHeld ?rest134f1f1f1
          case hy134f1f1f1 => (intro w hSw; (try dsimp only at hSw); go_simp; (first | done | with_reducible rfl))
          try simp only [Act.put, List.setIfInBounds_toArray, List.set_cons_zero, List.set_cons_succ]
          refine wpAnyH_ready (rs := [8]) (by kernel_rfl) (by simp) ?_
          refine AllReadyH.cons (o := ocop_5_8) rfl (fun K hK => ?_) (AllReadyH.nil)
          dsimp only [ocop_5_8]
          go_simp
          refine (ch9 _).mono ?_
          rintro e w87 ⟨rfl, x⟩
          have z135 := x.size
          replace E := E.trans x
          replace LB4 := LB4.ext x
          replace LB5 := LB5.ext x
          replace LB9 := LB9.ext x
          replace LB10 := LB10.ext x
          replace HPX := HPX.ext x
          replace HPY := HPY.ext x
          replace cB4_2 := cell_ext (x) cB4_2
          replace cB5_2 := cell_ext (x) cB5_2
          replace HV := HV.ext x
          replace HU := HU.ext x
          clear x
          clear hHeld
          have hHeld := (cB4_2)
          refine hK.out _ _ hHeld (fun _ => ?_)
          clear hK K
          try simp only [Act.put, List.setIfInBounds_toArray, List.set_cons_zero, List.set_cons_succ]
          refine wpAnyH_take (i := 9) (oi := { dst := some 88, op := Go.Op.pick (Go.Operand.tmp 86) (Go.Operand.const (Go.Value.bool true)) (Go.Operand.tmp 87), type := 4, pos := "law.go:33", after := #[{ on := 7, ground := Go.Ground.data }, { on := 8, ground := Go.Ground.data }], guard := none }) (v := ?v136f1f1f1) rfl (by kernel_rfl) (by kernel_rfl) (by kernel_rfl) (fun _ _ _ h => h) (Or.inl ⟨by rfl, ?hy136f1f1f1⟩) hHeld ?rest136f1f1f1
          case hy136f1f1f1 => (intro w hSw; (try dsimp only at hSw); go_simp; (first | done | with_reducible rfl))
          try simp only [Act.put, List.setIfInBounds_toArray, List.set_cons_zero, List.set_cons_succ]
          refine wpAnyH_done (by kernel_rfl) ?_ _
          go_wp2_with fail
          refine (oawake_any _).mono ?_
          rintro e w106 ⟨rfl, x⟩
          have z137 := x.size
          replace E := E.trans x
          replace LB4 := LB4.ext x
          replace LB5 := LB5.ext x
          replace LB9 := LB9.ext x
          replace LB10 := LB10.ext x
          replace HPX := HPX.ext x
          replace HPY := HPY.ext x
          replace cB4_2 := cell_ext (x) cB4_2
          replace cB5_2 := cell_ext (x) cB5_2
          replace HV := HV.ext x
          replace HU := HU.ext x
          clear x
          go_wp2_with fail
          go_ret
          exact ⟨rfl, E⟩
        · have HU := hq.now
          clear hf hq
          have z117 := x.size
          replace E := E.trans x
          replace LB4 := LB4.ext x
          replace LB5 := LB5.ext x
          replace LB9 := LB9.ext x
          replace LB10 := LB10.ext x
          replace HPX := HPX.ext x
          replace HPY := HPY.ext x
          replace cB4_2 := cell_ext (x) cB4_2
          replace cB5_2 := cell_ext (x) cB5_2
          replace HV := HV.ext x
          clear x
          clear hHeld
          have hHeld := And.intro LB4 (LB5)
          refine hK.out _ _ hHeld (fun _ => ?_)
          clear hK K
          try simp only [Act.put, List.setIfInBounds_toArray, List.set_cons_zero, List.set_cons_succ]
          refine wpAnyH_take (i := 6) (oi := { dst := some 74, op := Go.Op.field 43 (Go.Operand.tmp 73) 1, type := 41, pos := "law.go:32", after := #[{ on := 5, ground := Go.Ground.data }], guard := none }) (v := (.agg #[d1, d2, d3, d4, d5, d6, d7, d8])) rfl (by kernel_rfl) (by kernel_rfl) (by kernel_rfl) (fun _ _ _ h => h) (Or.inl ⟨by rfl, ?hy118f2f1f1⟩) hHeld ?rest118f2f1f1
          case hy118f2f1f1 => (intro w hSw; (try dsimp only at hSw); go_simp; try (first | rfl | (simp [Sem.run]; done)); (first | done | with_reducible rfl))
          try simp only [Act.put, List.setIfInBounds_toArray, List.set_cons_zero, List.set_cons_succ]
          refine wpAnyH_ready (rs := [8]) (by kernel_rfl) (by simp) ?_
          refine AllReadyH.cons (o := ocop_4_8) rfl (fun K hK => ?_) (AllReadyH.nil)
          dsimp only [ocop_4_8]
          go_simp
          refine (kc _ _ _ HV.is HU.is).mono ?_
          rintro e w76 ⟨rfl, x⟩
          have z119 := x.size
          replace E := E.trans x
          replace LB4 := LB4.ext x
          replace LB5 := LB5.ext x
          replace LB9 := LB9.ext x
          replace LB10 := LB10.ext x
          replace HPX := HPX.ext x
          replace HPY := HPY.ext x
          replace cB4_2 := cell_ext (x) cB4_2
          replace cB5_2 := cell_ext (x) cB5_2
          replace HV := HV.ext x
          replace HU := HU.ext x
          clear x
          clear hHeld
          have hHeld := And.intro LB4 (LB5)
          refine hK.out _ _ hHeld (fun _ => ?_)
          clear hK K
          try simp only [Act.put, List.setIfInBounds_toArray, List.set_cons_zero, List.set_cons_succ]
          refine wpAnyH_take (i := 9) (oi := { dst := some 67, op := Go.Op.move (Go.Operand.tmp 76), type := 60, pos := "law.go:32", after := #[{ on := 8, ground := Go.Ground.data }], guard := none }) (v := ?v120f2f1f1) rfl (by kernel_rfl) (by kernel_rfl) (by kernel_rfl) (fun _ _ _ h => h) (Or.inl ⟨by rfl, ?hy120f2f1f1⟩) hHeld ?rest120f2f1f1
          case hy120f2f1f1 => (intro w hSw; (try dsimp only at hSw); go_simp; (first | done | with_reducible rfl))
          try simp only [Act.put, List.setIfInBounds_toArray, List.set_cons_zero, List.set_cons_succ]
          refine wpAnyH_take (i := 10) (oi := { dst := some 77, op := Go.Op.extract (Go.Operand.tmp 67) 0, type := 3, pos := "law.go:32", after := #[{ on := 9, ground := Go.Ground.data }], guard := none }) (v := ?v121f2f1f1) rfl (by kernel_rfl) (by kernel_rfl) (by kernel_rfl) (fun _ _ _ h => h) (Or.inl ⟨by rfl, ?hy121f2f1f1⟩) hHeld ?rest121f2f1f1
          case hy121f2f1f1 => (intro w hSw; (try dsimp only at hSw); go_simp; (first | done | with_reducible rfl))
          try simp only [Act.put, List.setIfInBounds_toArray, List.set_cons_zero, List.set_cons_succ]
          refine wpAnyH_take (i := 11) (oi := { dst := some 78, op := Go.Op.extract (Go.Operand.tmp 67) 1, type := 4, pos := "law.go:32", after := #[{ on := 9, ground := Go.Ground.data }, { on := 12, ground := Go.Ground.gcOnly Go.Departure.lateStores }], guard := none }) (v := ?v122f2f1f1) rfl (by kernel_rfl) (by kernel_rfl) (by kernel_rfl) (fun _ _ _ h => h) (Or.inl ⟨by rfl, ?hy122f2f1f1⟩) hHeld ?rest122f2f1f1
          case hy122f2f1f1 => (intro w hSw; (try dsimp only at hSw); go_simp; (first | done | with_reducible rfl))
          try simp only [Act.put, List.setIfInBounds_toArray, List.set_cons_zero, List.set_cons_succ]
          refine wpAnyH_take (i := 12) (oi := { dst := some 11, op := Go.Op.assign (Go.Operand.tmp 77), type := 3, pos := "law.go:32", after := #[{ on := 10, ground := Go.Ground.data }, { on := 8, ground := Go.Ground.chain }, { on := 0, ground := Go.Ground.phase }, { on := 1, ground := Go.Ground.phase }, { on := 2, ground := Go.Ground.phase }, { on := 3, ground := Go.Ground.phase }, { on := 4, ground := Go.Ground.phase }, { on := 5, ground := Go.Ground.phase }, { on := 6, ground := Go.Ground.phase }, { on := 7, ground := Go.Ground.phase }, { on := 8, ground := Go.Ground.phase }, { on := 9, ground := Go.Ground.phase }, { on := 10, ground := Go.Ground.phase }, { on := 11, ground := Go.Ground.textOnly Go.Departure.lateStores }], guard := none }) (v := ?v123f2f1f1) rfl (by kernel_rfl) (by kernel_rfl) (by kernel_rfl) (fun _ _ _ h => h) (Or.inl ⟨by rfl, ?hy123f2f1f1⟩) hHeld ?rest123f2f1f1
          case hy123f2f1f1 => (intro w hSw; (try dsimp only at hSw); go_simp; (first | done | with_reducible rfl))
          try simp only [Act.put, List.setIfInBounds_toArray, List.set_cons_zero, List.set_cons_succ]
          refine wpAnyH_take (i := 13) (oi := { dst := some 12, op := Go.Op.assign (Go.Operand.tmp 78), type := 4, pos := "law.go:32", after := #[{ on := 11, ground := Go.Ground.data }, { on := 12, ground := Go.Ground.chain }, { on := 0, ground := Go.Ground.phase }, { on := 1, ground := Go.Ground.phase }, { on := 2, ground := Go.Ground.phase }, { on := 3, ground := Go.Ground.phase }, { on := 4, ground := Go.Ground.phase }, { on := 5, ground := Go.Ground.phase }, { on := 6, ground := Go.Ground.phase }, { on := 7, ground := Go.Ground.phase }, { on := 8, ground := Go.Ground.phase }, { on := 9, ground := Go.Ground.phase }, { on := 10, ground := Go.Ground.phase }, { on := 11, ground := Go.Ground.phase }, { on := 12, ground := Go.Ground.phase }], guard := none }) (v := ?v124f2f1f1) rfl (by kernel_rfl) (by kernel_rfl) (by kernel_rfl) (fun _ _ _ h => h) (Or.inl ⟨by rfl, ?hy124f2f1f1⟩) hHeld ?rest124f2f1f1
          case hy124f2f1f1 => (intro w hSw; (try dsimp only at hSw); go_simp; (first | done | with_reducible rfl))
          try simp only [Act.put, List.setIfInBounds_toArray, List.set_cons_zero, List.set_cons_succ]
          refine wpAnyH_done (by kernel_rfl) ?_ _
          go_wp2_with fail
          try simp only [Act.put, List.setIfInBounds_toArray, List.set_cons_zero, List.set_cons_succ]
          have hq125 : w76.heap.size ≤ w76.drew.heap.size := Nat.le_refl _
          have z126 := (Ext.refl w76).drew.size
          replace E := E.trans (Ext.refl w76).drew
          replace LB4 := LB4.ext (Ext.refl w76).drew
          replace LB5 := LB5.ext (Ext.refl w76).drew
          replace LB9 := LB9.ext (Ext.refl w76).drew
          replace LB10 := LB10.ext (Ext.refl w76).drew
          replace HPX := HPX.ext (Ext.refl w76).drew
          replace HPY := HPY.ext (Ext.refl w76).drew
          replace cB4_2 := cell_ext ((Ext.refl w76).drew) cB4_2
          replace cB5_2 := cell_ext ((Ext.refl w76).drew) cB5_2
          replace HV := HV.ext (Ext.refl w76).drew
          replace HU := HU.ext (Ext.refl w76).drew
          refine wp_region_held_drew (S := (fun w' => w'.cell? ⟨B4, 2, none⟩ = some (.int .i64 fl))) (by kernel_rfl) (cB4_2) (fun hHeld => ?_)
          refine wpAnyH_take (i := 0) (oi := { dst := some 79, op := Go.Op.fieldAddr 29 (Go.Operand.tmp 4) 2, type := 0, pos := "law.go:33", after := #[], guard := none }) (v := ?v127f2f1f1) rfl (by kernel_rfl) (by kernel_rfl) (by kernel_rfl) (fun _ _ _ h => h) (Or.inl ⟨by rfl, ?hy127f2f1f1⟩) hHeld ?rest127f2f1f1
          case hy127f2f1f1 => (intro w hSw; (try dsimp only at hSw); go_simp; (first | done | with_reducible rfl))
          try simp only [Act.put, List.setIfInBounds_toArray, List.set_cons_zero, List.set_cons_succ]
          refine wpAnyH_take (i := 1) (oi := { dst := some 80, op := Go.Op.load 3 (Go.Operand.tmp 79), type := 3, pos := "law.go:33", after := #[{ on := 0, ground := Go.Ground.data }], guard := none }) (v := ?v128f2f1f1) rfl (by kernel_rfl) (by kernel_rfl) (by kernel_rfl) (fun _ _ _ h => h) (Or.inl ⟨by rfl, ?hy128f2f1f1⟩) hHeld ?rest128f2f1f1
          case hy128f2f1f1 => (intro w hSw; (try dsimp only at hSw); go_simp; (first | done | with_reducible rfl))
          try simp only [Act.put, List.setIfInBounds_toArray, List.set_cons_zero, List.set_cons_succ]
          refine wpAnyH_take (i := 3) (oi := { dst := some 82, op := Go.Op.fieldAddr 29 (Go.Operand.tmp 4) 2, type := 0, pos := "law.go:33", after := #[], guard := none }) (v := ?v129f2f1f1) rfl (by kernel_rfl) (by kernel_rfl) (by kernel_rfl) (fun _ _ _ h => h) (Or.inl ⟨by rfl, ?hy129f2f1f1⟩) hHeld ?rest129f2f1f1
          case hy129f2f1f1 => (intro w hSw; (try dsimp only at hSw); go_simp; (first | done | with_reducible rfl))
          try simp only [Act.put, List.setIfInBounds_toArray, List.set_cons_zero, List.set_cons_succ]
          refine wpAnyH_take (i := 4) (oi := { dst := some 83, op := Go.Op.load 3 (Go.Operand.tmp 82), type := 3, pos := "law.go:33", after := #[{ on := 3, ground := Go.Ground.data }], guard := none }) (v := ?v130f2f1f1) rfl (by kernel_rfl) (by kernel_rfl) (by kernel_rfl) (fun _ _ _ h => h) (Or.inl ⟨by rfl, ?hy130f2f1f1⟩) hHeld ?rest130f2f1f1
          case hy130f2f1f1 => (intro w hSw; (try dsimp only at hSw); go_simp; (first | done | with_reducible rfl))
          try simp only [Act.put, List.setIfInBounds_toArray, List.set_cons_zero, List.set_cons_succ]
          refine wpAnyH_take (i := 5) (oi := { dst := some 84, op := Go.Op.binOp Go.BinOp.lss 3 (Go.Operand.tmp 83) (Go.Operand.const (Go.Value.int Go.IntKind.i64 2)) 3, type := 4, pos := "law.go:33", after := #[{ on := 4, ground := Go.Ground.data }], guard := none }) (v := .bool hb) rfl (by kernel_rfl) (by kernel_rfl) (by kernel_rfl) (fun _ _ _ h => h) (Or.inl ⟨by rfl, ?hy131f2f1f1⟩) hHeld ?rest131f2f1f1
          case hy131f2f1f1 => (intro w hSw; (try dsimp only at hSw); go_simp; try rw [e84]; (first | done | with_reducible rfl))
          try simp only [Act.put, List.setIfInBounds_toArray, List.set_cons_zero, List.set_cons_succ]
          refine wpAnyH_ready (rs := [2]) (by kernel_rfl) (by simp) ?_
          refine AllReadyH.cons (o := ocop_5_2) rfl (fun K hK => ?_) (AllReadyH.nil)
          dsimp only [ocop_5_2]
          go_simp
          refine (ch _).mono ?_
          rintro e w81 ⟨rfl, x⟩
          have z132 := x.size
          replace E := E.trans x
          replace LB4 := LB4.ext x
          replace LB5 := LB5.ext x
          replace LB9 := LB9.ext x
          replace LB10 := LB10.ext x
          replace HPX := HPX.ext x
          replace HPY := HPY.ext x
          replace cB4_2 := cell_ext (x) cB4_2
          replace cB5_2 := cell_ext (x) cB5_2
          replace HV := HV.ext x
          replace HU := HU.ext x
          clear x
          clear hHeld
          have hHeld := (cB4_2)
          refine hK.out _ _ hHeld (fun _ => ?_)
          clear hK K
          try simp only [Act.put, List.setIfInBounds_toArray, List.set_cons_zero, List.set_cons_succ]
          refine wpAnyH_take (i := 6) (oi := { dst := some 85, op := Go.Op.binOp Go.BinOp.neq 4 (Go.Operand.tmp 81) (Go.Operand.tmp 84) 4, type := 4, pos := "law.go:33", after := #[{ on := 2, ground := Go.Ground.data }, { on := 5, ground := Go.Ground.data }], guard := none }) (v := .bool false) rfl (by kernel_rfl) (by kernel_rfl) (by kernel_rfl) (fun _ _ _ h => h) (Or.inl ⟨by rfl, ?hy133f2f1f1⟩) hHeld ?rest133f2f1f1
          case hy133f2f1f1 => (intro w hSw; (try dsimp only at hSw); go_simp; try (simp; done); (first | done | with_reducible rfl))
          try simp only [Act.put, List.setIfInBounds_toArray, List.set_cons_zero, List.set_cons_succ]
          refine wpAnyH_take (i := 7) (oi := { dst := some 86, op := Go.Op.move (Go.Operand.tmp 85), type := 4, pos := "law.go:33", after := #[{ on := 6, ground := Go.Ground.data }, { on := 2, ground := Go.Ground.chain }], guard := none }) (v := ?v134f2f1f1) rfl (by kernel_rfl) (by kernel_rfl) (by kernel_rfl) (fun _ _ _ h => h) (Or.inl ⟨by rfl, ?hy134f2f1f1⟩) hHeld ?rest134f2f1f1
          case hy134f2f1f1 => (intro w hSw; (try dsimp only at hSw); go_simp; (first | done | with_reducible rfl))
          try simp only [Act.put, List.setIfInBounds_toArray, List.set_cons_zero, List.set_cons_succ]
          refine wpAnyH_ready (rs := [8]) (by kernel_rfl) (by simp) ?_
          refine AllReadyH.cons (o := ocop_5_8) rfl (fun K hK => ?_) (AllReadyH.nil)
          dsimp only [ocop_5_8]
          go_simp
          refine (ch9 _).mono ?_
          rintro e w87 ⟨rfl, x⟩
          have z135 := x.size
          replace E := E.trans x
          replace LB4 := LB4.ext x
          replace LB5 := LB5.ext x
          replace LB9 := LB9.ext x
          replace LB10 := LB10.ext x
          replace HPX := HPX.ext x
          replace HPY := HPY.ext x
          replace cB4_2 := cell_ext (x) cB4_2
          replace cB5_2 := cell_ext (x) cB5_2
          replace HV := HV.ext x
          replace HU := HU.ext x
          clear x
          clear hHeld
          have hHeld := (cB4_2)
          refine hK.out _ _ hHeld (fun _ => ?_)
          clear hK K
          try simp only [Act.put, List.setIfInBounds_toArray, List.set_cons_zero, List.set_cons_succ]
          refine wpAnyH_take (i := 9) (oi := { dst := some 88, op := Go.Op.pick (Go.Operand.tmp 86) (Go.Operand.const (Go.Value.bool true)) (Go.Operand.tmp 87), type := 4, pos := "law.go:33", after := #[{ on := 7, ground := Go.Ground.data }, { on := 8, ground := Go.Ground.data }], guard := none }) (v := ?v136f2f1f1) rfl (by kernel_rfl) (by kernel_rfl) (by kernel_rfl) (fun _ _ _ h => h) (Or.inl ⟨by rfl, ?hy136f2f1f1⟩) hHeld ?rest136f2f1f1
          case hy136f2f1f1 => (intro w hSw; (try dsimp only at hSw); go_simp; (first | done | with_reducible rfl))
          try simp only [Act.put, List.setIfInBounds_toArray, List.set_cons_zero, List.set_cons_succ]
          refine wpAnyH_done (by kernel_rfl) ?_ _
          go_wp2_with (first | (refine loadsI (B := B9) (by rfl) rfl rfl LB9 ?_) | (refine loadsI (B := B10) (by rfl) rfl rfl LB10 ?_))
          refine (kb1 (by trivial) _ _ HPX.is HPY.is _).mono ?_
          rintro e w110 ⟨rfl, x⟩
          have z137 := x.size
          replace E := E.trans x
          replace LB4 := LB4.ext x
          replace LB5 := LB5.ext x
          replace LB9 := LB9.ext x
          replace LB10 := LB10.ext x
          replace HPX := HPX.ext x
          replace HPY := HPY.ext x
          replace cB4_2 := cell_ext (x) cB4_2
          replace cB5_2 := cell_ext (x) cB5_2
          replace HV := HV.ext x
          replace HU := HU.ext x
          clear x
          go_wp2_with (first | (refine loadsI (B := B10) (by rfl) rfl rfl LB10 ?_) | (refine loadsI (B := B9) (by rfl) rfl rfl LB9 ?_))
          refine (kb2 (by trivial) _ _ HPX.is HPY.is _).mono ?_
          rintro e w113 ⟨rfl, x⟩
          have z138 := x.size
          replace E := E.trans x
          replace LB4 := LB4.ext x
          replace LB5 := LB5.ext x
          replace LB9 := LB9.ext x
          replace LB10 := LB10.ext x
          replace HPX := HPX.ext x
          replace HPY := HPY.ext x
          replace cB4_2 := cell_ext (x) cB4_2
          replace cB5_2 := cell_ext (x) cB5_2
          replace HV := HV.ext x
          replace HU := HU.ext x
          clear x
          go_wp2_with fail
          refine (oawake_any _).mono ?_
          rintro e w121 ⟨rfl, x⟩
          have z139 := x.size
          replace E := E.trans x
          replace LB4 := LB4.ext x
          replace LB5 := LB5.ext x
          replace LB9 := LB9.ext x
          replace LB10 := LB10.ext x
          replace HPX := HPX.ext x
          replace HPY := HPY.ext x
          replace cB4_2 := cell_ext (x) cB4_2
          replace cB5_2 := cell_ext (x) cB5_2
          replace HV := HV.ext x
          replace HU := HU.ext x
          clear x
          go_wp2_with fail
          go_ret
          exact ⟨rfl, E⟩
        · have HU := hq.now
          clear hf hq
          have z117 := x.size
          replace E := E.trans x
          replace LB4 := LB4.ext x
          replace LB5 := LB5.ext x
          replace LB9 := LB9.ext x
          replace LB10 := LB10.ext x
          replace HPX := HPX.ext x
          replace HPY := HPY.ext x
          replace cB4_2 := cell_ext (x) cB4_2
          replace cB5_2 := cell_ext (x) cB5_2
          replace HV := HV.ext x
          clear x
          clear hHeld
          have hHeld := And.intro LB4 (LB5)
          refine hK.out _ _ hHeld (fun _ => ?_)
          clear hK K
          try simp only [Act.put, List.setIfInBounds_toArray, List.set_cons_zero, List.set_cons_succ]
          refine wpAnyH_take (i := 6) (oi := { dst := some 74, op := Go.Op.field 43 (Go.Operand.tmp 73) 1, type := 41, pos := "law.go:32", after := #[{ on := 5, ground := Go.Ground.data }], guard := none }) (v := (.agg #[d1, d2, d3, d4, d5, d6, d7, d8])) rfl (by kernel_rfl) (by kernel_rfl) (by kernel_rfl) (fun _ _ _ h => h) (Or.inl ⟨by rfl, ?hy118f3f1f1⟩) hHeld ?rest118f3f1f1
          case hy118f3f1f1 => (intro w hSw; (try dsimp only at hSw); go_simp; try (first | rfl | (simp [Sem.run]; done)); (first | done | with_reducible rfl))
          try simp only [Act.put, List.setIfInBounds_toArray, List.set_cons_zero, List.set_cons_succ]
          refine wpAnyH_ready (rs := [8]) (by kernel_rfl) (by simp) ?_
          refine AllReadyH.cons (o := ocop_4_8) rfl (fun K hK => ?_) (AllReadyH.nil)
          dsimp only [ocop_4_8]
          go_simp
          refine (kc _ _ _ HV.is HU.is).mono ?_
          rintro e w76 ⟨rfl, x⟩
          have z119 := x.size
          replace E := E.trans x
          replace LB4 := LB4.ext x
          replace LB5 := LB5.ext x
          replace LB9 := LB9.ext x
          replace LB10 := LB10.ext x
          replace HPX := HPX.ext x
          replace HPY := HPY.ext x
          replace cB4_2 := cell_ext (x) cB4_2
          replace cB5_2 := cell_ext (x) cB5_2
          replace HV := HV.ext x
          replace HU := HU.ext x
          clear x
          clear hHeld
          have hHeld := And.intro LB4 (LB5)
          refine hK.out _ _ hHeld (fun _ => ?_)
          clear hK K
          try simp only [Act.put, List.setIfInBounds_toArray, List.set_cons_zero, List.set_cons_succ]
          refine wpAnyH_take (i := 9) (oi := { dst := some 67, op := Go.Op.move (Go.Operand.tmp 76), type := 60, pos := "law.go:32", after := #[{ on := 8, ground := Go.Ground.data }], guard := none }) (v := ?v120f3f1f1) rfl (by kernel_rfl) (by kernel_rfl) (by kernel_rfl) (fun _ _ _ h => h) (Or.inl ⟨by rfl, ?hy120f3f1f1⟩) hHeld ?rest120f3f1f1
          case hy120f3f1f1 => (intro w hSw; (try dsimp only at hSw); go_simp; (first | done | with_reducible rfl))
          try simp only [Act.put, List.setIfInBounds_toArray, List.set_cons_zero, List.set_cons_succ]
          refine wpAnyH_take (i := 10) (oi := { dst := some 77, op := Go.Op.extract (Go.Operand.tmp 67) 0, type := 3, pos := "law.go:32", after := #[{ on := 9, ground := Go.Ground.data }], guard := none }) (v := ?v121f3f1f1) rfl (by kernel_rfl) (by kernel_rfl) (by kernel_rfl) (fun _ _ _ h => h) (Or.inl ⟨by rfl, ?hy121f3f1f1⟩) hHeld ?rest121f3f1f1
          case hy121f3f1f1 => (intro w hSw; (try dsimp only at hSw); go_simp; (first | done | with_reducible rfl))
          try simp only [Act.put, List.setIfInBounds_toArray, List.set_cons_zero, List.set_cons_succ]
          refine wpAnyH_take (i := 11) (oi := { dst := some 78, op := Go.Op.extract (Go.Operand.tmp 67) 1, type := 4, pos := "law.go:32", after := #[{ on := 9, ground := Go.Ground.data }, { on := 12, ground := Go.Ground.gcOnly Go.Departure.lateStores }], guard := none }) (v := ?v122f3f1f1) rfl (by kernel_rfl) (by kernel_rfl) (by kernel_rfl) (fun _ _ _ h => h) (Or.inl ⟨by rfl, ?hy122f3f1f1⟩) hHeld ?rest122f3f1f1
          case hy122f3f1f1 => (intro w hSw; (try dsimp only at hSw); go_simp; (first | done | with_reducible rfl))
          try simp only [Act.put, List.setIfInBounds_toArray, List.set_cons_zero, List.set_cons_succ]
          refine wpAnyH_take (i := 12) (oi := { dst := some 11, op := Go.Op.assign (Go.Operand.tmp 77), type := 3, pos := "law.go:32", after := #[{ on := 10, ground := Go.Ground.data }, { on := 8, ground := Go.Ground.chain }, { on := 0, ground := Go.Ground.phase }, { on := 1, ground := Go.Ground.phase }, { on := 2, ground := Go.Ground.phase }, { on := 3, ground := Go.Ground.phase }, { on := 4, ground := Go.Ground.phase }, { on := 5, ground := Go.Ground.phase }, { on := 6, ground := Go.Ground.phase }, { on := 7, ground := Go.Ground.phase }, { on := 8, ground := Go.Ground.phase }, { on := 9, ground := Go.Ground.phase }, { on := 10, ground := Go.Ground.phase }, { on := 11, ground := Go.Ground.textOnly Go.Departure.lateStores }], guard := none }) (v := ?v123f3f1f1) rfl (by kernel_rfl) (by kernel_rfl) (by kernel_rfl) (fun _ _ _ h => h) (Or.inl ⟨by rfl, ?hy123f3f1f1⟩) hHeld ?rest123f3f1f1
          case hy123f3f1f1 => (intro w hSw; (try dsimp only at hSw); go_simp; (first | done | with_reducible rfl))
          try simp only [Act.put, List.setIfInBounds_toArray, List.set_cons_zero, List.set_cons_succ]
          refine wpAnyH_take (i := 13) (oi := { dst := some 12, op := Go.Op.assign (Go.Operand.tmp 78), type := 4, pos := "law.go:32", after := #[{ on := 11, ground := Go.Ground.data }, { on := 12, ground := Go.Ground.chain }, { on := 0, ground := Go.Ground.phase }, { on := 1, ground := Go.Ground.phase }, { on := 2, ground := Go.Ground.phase }, { on := 3, ground := Go.Ground.phase }, { on := 4, ground := Go.Ground.phase }, { on := 5, ground := Go.Ground.phase }, { on := 6, ground := Go.Ground.phase }, { on := 7, ground := Go.Ground.phase }, { on := 8, ground := Go.Ground.phase }, { on := 9, ground := Go.Ground.phase }, { on := 10, ground := Go.Ground.phase }, { on := 11, ground := Go.Ground.phase }, { on := 12, ground := Go.Ground.phase }], guard := none }) (v := ?v124f3f1f1) rfl (by kernel_rfl) (by kernel_rfl) (by kernel_rfl) (fun _ _ _ h => h) (Or.inl ⟨by rfl, ?hy124f3f1f1⟩) hHeld ?rest124f3f1f1
          case hy124f3f1f1 => (intro w hSw; (try dsimp only at hSw); go_simp; (first | done | with_reducible rfl))
          try simp only [Act.put, List.setIfInBounds_toArray, List.set_cons_zero, List.set_cons_succ]
          refine wpAnyH_done (by kernel_rfl) ?_ _
          go_wp2_with fail
          try simp only [Act.put, List.setIfInBounds_toArray, List.set_cons_zero, List.set_cons_succ]
          have hq125 : w76.heap.size ≤ w76.drew.heap.size := Nat.le_refl _
          have z126 := (Ext.refl w76).drew.size
          replace E := E.trans (Ext.refl w76).drew
          replace LB4 := LB4.ext (Ext.refl w76).drew
          replace LB5 := LB5.ext (Ext.refl w76).drew
          replace LB9 := LB9.ext (Ext.refl w76).drew
          replace LB10 := LB10.ext (Ext.refl w76).drew
          replace HPX := HPX.ext (Ext.refl w76).drew
          replace HPY := HPY.ext (Ext.refl w76).drew
          replace cB4_2 := cell_ext ((Ext.refl w76).drew) cB4_2
          replace cB5_2 := cell_ext ((Ext.refl w76).drew) cB5_2
          replace HV := HV.ext (Ext.refl w76).drew
          replace HU := HU.ext (Ext.refl w76).drew
          refine wp_region_held_drew (S := (fun w' => w'.cell? ⟨B4, 2, none⟩ = some (.int .i64 fl))) (by kernel_rfl) (cB4_2) (fun hHeld => ?_)
          refine wpAnyH_take (i := 0) (oi := { dst := some 79, op := Go.Op.fieldAddr 29 (Go.Operand.tmp 4) 2, type := 0, pos := "law.go:33", after := #[], guard := none }) (v := ?v127f3f1f1) rfl (by kernel_rfl) (by kernel_rfl) (by kernel_rfl) (fun _ _ _ h => h) (Or.inl ⟨by rfl, ?hy127f3f1f1⟩) hHeld ?rest127f3f1f1
          case hy127f3f1f1 => (intro w hSw; (try dsimp only at hSw); go_simp; (first | done | with_reducible rfl))
          try simp only [Act.put, List.setIfInBounds_toArray, List.set_cons_zero, List.set_cons_succ]
          refine wpAnyH_take (i := 1) (oi := { dst := some 80, op := Go.Op.load 3 (Go.Operand.tmp 79), type := 3, pos := "law.go:33", after := #[{ on := 0, ground := Go.Ground.data }], guard := none }) (v := ?v128f3f1f1) rfl (by kernel_rfl) (by kernel_rfl) (by kernel_rfl) (fun _ _ _ h => h) (Or.inl ⟨by rfl, ?hy128f3f1f1⟩) hHeld ?rest128f3f1f1
          case hy128f3f1f1 => (intro w hSw; (try dsimp only at hSw); go_simp; (first | done | with_reducible rfl))
          try simp only [Act.put, List.setIfInBounds_toArray, List.set_cons_zero, List.set_cons_succ]
          refine wpAnyH_take (i := 3) (oi := { dst := some 82, op := Go.Op.fieldAddr 29 (Go.Operand.tmp 4) 2, type := 0, pos := "law.go:33", after := #[], guard := none }) (v := ?v129f3f1f1) rfl (by kernel_rfl) (by kernel_rfl) (by kernel_rfl) (fun _ _ _ h => h) (Or.inl ⟨by rfl, ?hy129f3f1f1⟩) hHeld ?rest129f3f1f1
          case hy129f3f1f1 => (intro w hSw; (try dsimp only at hSw); go_simp; (first | done | with_reducible rfl))
          try simp only [Act.put, List.setIfInBounds_toArray, List.set_cons_zero, List.set_cons_succ]
          refine wpAnyH_take (i := 4) (oi := { dst := some 83, op := Go.Op.load 3 (Go.Operand.tmp 82), type := 3, pos := "law.go:33", after := #[{ on := 3, ground := Go.Ground.data }], guard := none }) (v := ?v130f3f1f1) rfl (by kernel_rfl) (by kernel_rfl) (by kernel_rfl) (fun _ _ _ h => h) (Or.inl ⟨by rfl, ?hy130f3f1f1⟩) hHeld ?rest130f3f1f1
          case hy130f3f1f1 => (intro w hSw; (try dsimp only at hSw); go_simp; (first | done | with_reducible rfl))
          try simp only [Act.put, List.setIfInBounds_toArray, List.set_cons_zero, List.set_cons_succ]
          refine wpAnyH_take (i := 5) (oi := { dst := some 84, op := Go.Op.binOp Go.BinOp.lss 3 (Go.Operand.tmp 83) (Go.Operand.const (Go.Value.int Go.IntKind.i64 2)) 3, type := 4, pos := "law.go:33", after := #[{ on := 4, ground := Go.Ground.data }], guard := none }) (v := .bool hb) rfl (by kernel_rfl) (by kernel_rfl) (by kernel_rfl) (fun _ _ _ h => h) (Or.inl ⟨by rfl, ?hy131f3f1f1⟩) hHeld ?rest131f3f1f1
          case hy131f3f1f1 => (intro w hSw; (try dsimp only at hSw); go_simp; try rw [e84]; (first | done | with_reducible rfl))
          try simp only [Act.put, List.setIfInBounds_toArray, List.set_cons_zero, List.set_cons_succ]
          refine wpAnyH_ready (rs := [2]) (by kernel_rfl) (by simp) ?_
          refine AllReadyH.cons (o := ocop_5_2) rfl (fun K hK => ?_) (AllReadyH.nil)
          dsimp only [ocop_5_2]
          go_simp
          refine (ch _).mono ?_
          rintro e w81 ⟨rfl, x⟩
          have z132 := x.size
          replace E := E.trans x
          replace LB4 := LB4.ext x
          replace LB5 := LB5.ext x
          replace LB9 := LB9.ext x
          replace LB10 := LB10.ext x
          replace HPX := HPX.ext x
          replace HPY := HPY.ext x
          replace cB4_2 := cell_ext (x) cB4_2
          replace cB5_2 := cell_ext (x) cB5_2
          replace HV := HV.ext x
          replace HU := HU.ext x
          clear x
          clear hHeld
          have hHeld := (cB4_2)
          refine hK.out _ _ hHeld (fun _ => ?_)
          clear hK K
          try simp only [Act.put, List.setIfInBounds_toArray, List.set_cons_zero, List.set_cons_succ]
          refine wpAnyH_take (i := 6) (oi := { dst := some 85, op := Go.Op.binOp Go.BinOp.neq 4 (Go.Operand.tmp 81) (Go.Operand.tmp 84) 4, type := 4, pos := "law.go:33", after := #[{ on := 2, ground := Go.Ground.data }, { on := 5, ground := Go.Ground.data }], guard := none }) (v := .bool false) rfl (by kernel_rfl) (by kernel_rfl) (by kernel_rfl) (fun _ _ _ h => h) (Or.inl ⟨by rfl, ?hy133f3f1f1⟩) hHeld ?rest133f3f1f1
          case hy133f3f1f1 => (intro w hSw; (try dsimp only at hSw); go_simp; try (simp; done); (first | done | with_reducible rfl))
          try simp only [Act.put, List.setIfInBounds_toArray, List.set_cons_zero, List.set_cons_succ]
          refine wpAnyH_take (i := 7) (oi := { dst := some 86, op := Go.Op.move (Go.Operand.tmp 85), type := 4, pos := "law.go:33", after := #[{ on := 6, ground := Go.Ground.data }, { on := 2, ground := Go.Ground.chain }], guard := none }) (v := ?v134f3f1f1) rfl (by kernel_rfl) (by kernel_rfl) (by kernel_rfl) (fun _ _ _ h => h) (Or.inl ⟨by rfl, ?hy134f3f1f1⟩) hHeld ?rest134f3f1f1
          case hy134f3f1f1 => (intro w hSw; (try dsimp only at hSw); go_simp; (first | done | with_reducible rfl))
          try simp only [Act.put, List.setIfInBounds_toArray, List.set_cons_zero, List.set_cons_succ]
          refine wpAnyH_ready (rs := [8]) (by kernel_rfl) (by simp) ?_
          refine AllReadyH.cons (o := ocop_5_8) rfl (fun K hK => ?_) (AllReadyH.nil)
          dsimp only [ocop_5_8]
          go_simp
          refine (ch9 _).mono ?_
          rintro e w87 ⟨rfl, x⟩
          have z135 := x.size
          replace E := E.trans x
          replace LB4 := LB4.ext x
          replace LB5 := LB5.ext x
          replace LB9 := LB9.ext x
          replace LB10 := LB10.ext x
          replace HPX := HPX.ext x
          replace HPY := HPY.ext x
          replace cB4_2 := cell_ext (x) cB4_2
          replace cB5_2 := cell_ext (x) cB5_2
          replace HV := HV.ext x
          replace HU := HU.ext x
          clear x
          clear hHeld
          have hHeld := (cB4_2)
          refine hK.out _ _ hHeld (fun _ => ?_)
          clear hK K
          try simp only [Act.put, List.setIfInBounds_toArray, List.set_cons_zero, List.set_cons_succ]
          refine wpAnyH_take (i := 9) (oi := { dst := some 88, op := Go.Op.pick (Go.Operand.tmp 86) (Go.Operand.const (Go.Value.bool true)) (Go.Operand.tmp 87), type := 4, pos := "law.go:33", after := #[{ on := 7, ground := Go.Ground.data }, { on := 8, ground := Go.Ground.data }], guard := none }) (v := ?v136f3f1f1) rfl (by kernel_rfl) (by kernel_rfl) (by kernel_rfl) (fun _ _ _ h => h) (Or.inl ⟨by rfl, ?hy136f3f1f1⟩) hHeld ?rest136f3f1f1
          case hy136f3f1f1 => (intro w hSw; (try dsimp only at hSw); go_simp; (first | done | with_reducible rfl))
          try simp only [Act.put, List.setIfInBounds_toArray, List.set_cons_zero, List.set_cons_succ]
          refine wpAnyH_done (by kernel_rfl) ?_ _
          go_wp2_with (first | (refine loadsI (B := B9) (by rfl) rfl rfl LB9 ?_) | (refine loadsI (B := B10) (by rfl) rfl rfl LB10 ?_))
          refine (kb1 (by trivial) _ _ HPX.is HPY.is _).mono ?_
          rintro e w110 ⟨rfl, x⟩
          have z137 := x.size
          replace E := E.trans x
          replace LB4 := LB4.ext x
          replace LB5 := LB5.ext x
          replace LB9 := LB9.ext x
          replace LB10 := LB10.ext x
          replace HPX := HPX.ext x
          replace HPY := HPY.ext x
          replace cB4_2 := cell_ext (x) cB4_2
          replace cB5_2 := cell_ext (x) cB5_2
          replace HV := HV.ext x
          replace HU := HU.ext x
          clear x
          go_wp2_with (first | (refine loadsI (B := B10) (by rfl) rfl rfl LB10 ?_) | (refine loadsI (B := B9) (by rfl) rfl rfl LB9 ?_))
          refine (kb2 (by trivial) _ _ HPX.is HPY.is _).mono ?_
          rintro e w113 ⟨rfl, x⟩
          have z138 := x.size
          replace E := E.trans x
          replace LB4 := LB4.ext x
          replace LB5 := LB5.ext x
          replace LB9 := LB9.ext x
          replace LB10 := LB10.ext x
          replace HPX := HPX.ext x
          replace HPY := HPY.ext x
          replace cB4_2 := cell_ext (x) cB4_2
          replace cB5_2 := cell_ext (x) cB5_2
          replace HV := HV.ext x
          replace HU := HU.ext x
          clear x
          go_wp2_with fail
          refine (oawake_any _).mono ?_
          rintro e w121 ⟨rfl, x⟩
          have z139 := x.size
          replace E := E.trans x
          replace LB4 := LB4.ext x
          replace LB5 := LB5.ext x
          replace LB9 := LB9.ext x
          replace LB10 := LB10.ext x
          replace HPX := HPX.ext x
          replace HPY := HPY.ext x
          replace cB4_2 := cell_ext (x) cB4_2
          replace cB5_2 := cell_ext (x) cB5_2
          replace HV := HV.ext x
          replace HU := HU.ext x
          clear x
          go_wp2_with fail
          go_ret
          exact ⟨rfl, E⟩
        · have HU := hq.now
          clear hf hq
          have z117 := x.size
          replace E := E.trans x
          replace LB4 := LB4.ext x
          replace LB5 := LB5.ext x
          replace LB9 := LB9.ext x
          replace LB10 := LB10.ext x
          replace HPX := HPX.ext x
          replace HPY := HPY.ext x
          replace cB4_2 := cell_ext (x) cB4_2
          replace cB5_2 := cell_ext (x) cB5_2
          replace HV := HV.ext x
          clear x
          clear hHeld
          have hHeld := And.intro LB4 (LB5)
          refine hK.out _ _ hHeld (fun _ => ?_)
          clear hK K
          try simp only [Act.put, List.setIfInBounds_toArray, List.set_cons_zero, List.set_cons_succ]
          refine wpAnyH_take (i := 6) (oi := { dst := some 74, op := Go.Op.field 43 (Go.Operand.tmp 73) 1, type := 41, pos := "law.go:32", after := #[{ on := 5, ground := Go.Ground.data }], guard := none }) (v := (.agg #[d1, d2, d3, d4, d5, d6, d7, d8])) rfl (by kernel_rfl) (by kernel_rfl) (by kernel_rfl) (fun _ _ _ h => h) (Or.inl ⟨by rfl, ?hy118f4f1f1⟩) hHeld ?rest118f4f1f1
          case hy118f4f1f1 => (intro w hSw; (try dsimp only at hSw); go_simp; try (first | rfl | (simp [Sem.run]; done)); (first | done | with_reducible rfl))
          try simp only [Act.put, List.setIfInBounds_toArray, List.set_cons_zero, List.set_cons_succ]
          refine wpAnyH_ready (rs := [8]) (by kernel_rfl) (by simp) ?_
          refine AllReadyH.cons (o := ocop_4_8) rfl (fun K hK => ?_) (AllReadyH.nil)
          dsimp only [ocop_4_8]
          go_simp
          refine (kc _ _ _ HV.is HU.is).mono ?_
          rintro e w76 ⟨rfl, x⟩
          have z119 := x.size
          replace E := E.trans x
          replace LB4 := LB4.ext x
          replace LB5 := LB5.ext x
          replace LB9 := LB9.ext x
          replace LB10 := LB10.ext x
          replace HPX := HPX.ext x
          replace HPY := HPY.ext x
          replace cB4_2 := cell_ext (x) cB4_2
          replace cB5_2 := cell_ext (x) cB5_2
          replace HV := HV.ext x
          replace HU := HU.ext x
          clear x
          clear hHeld
          have hHeld := And.intro LB4 (LB5)
          refine hK.out _ _ hHeld (fun _ => ?_)
          clear hK K
          try simp only [Act.put, List.setIfInBounds_toArray, List.set_cons_zero, List.set_cons_succ]
          refine wpAnyH_take (i := 9) (oi := { dst := some 67, op := Go.Op.move (Go.Operand.tmp 76), type := 60, pos := "law.go:32", after := #[{ on := 8, ground := Go.Ground.data }], guard := none }) (v := ?v120f4f1f1) rfl (by kernel_rfl) (by kernel_rfl) (by kernel_rfl) (fun _ _ _ h => h) (Or.inl ⟨by rfl, ?hy120f4f1f1⟩) hHeld ?rest120f4f1f1
          case hy120f4f1f1 => (intro w hSw; (try dsimp only at hSw); go_simp; (first | done | with_reducible rfl))
          try simp only [Act.put, List.setIfInBounds_toArray, List.set_cons_zero, List.set_cons_succ]
          refine wpAnyH_take (i := 10) (oi := { dst := some 77, op := Go.Op.extract (Go.Operand.tmp 67) 0, type := 3, pos := "law.go:32", after := #[{ on := 9, ground := Go.Ground.data }], guard := none }) (v := ?v121f4f1f1) rfl (by kernel_rfl) (by kernel_rfl) (by kernel_rfl) (fun _ _ _ h => h) (Or.inl ⟨by rfl, ?hy121f4f1f1⟩) hHeld ?rest121f4f1f1
          case hy121f4f1f1 => (intro w hSw; (try dsimp only at hSw); go_simp; (first | done | with_reducible rfl))
          try simp only [Act.put, List.setIfInBounds_toArray, List.set_cons_zero, List.set_cons_succ]
          refine wpAnyH_take (i := 11) (oi := { dst := some 78, op := Go.Op.extract (Go.Operand.tmp 67) 1, type := 4, pos := "law.go:32", after := #[{ on := 9, ground := Go.Ground.data }, { on := 12, ground := Go.Ground.gcOnly Go.Departure.lateStores }], guard := none }) (v := ?v122f4f1f1) rfl (by kernel_rfl) (by kernel_rfl) (by kernel_rfl) (fun _ _ _ h => h) (Or.inl ⟨by rfl, ?hy122f4f1f1⟩) hHeld ?rest122f4f1f1
          case hy122f4f1f1 => (intro w hSw; (try dsimp only at hSw); go_simp; (first | done | with_reducible rfl))
          try simp only [Act.put, List.setIfInBounds_toArray, List.set_cons_zero, List.set_cons_succ]
          refine wpAnyH_take (i := 12) (oi := { dst := some 11, op := Go.Op.assign (Go.Operand.tmp 77), type := 3, pos := "law.go:32", after := #[{ on := 10, ground := Go.Ground.data }, { on := 8, ground := Go.Ground.chain }, { on := 0, ground := Go.Ground.phase }, { on := 1, ground := Go.Ground.phase }, { on := 2, ground := Go.Ground.phase }, { on := 3, ground := Go.Ground.phase }, { on := 4, ground := Go.Ground.phase }, { on := 5, ground := Go.Ground.phase }, { on := 6, ground := Go.Ground.phase }, { on := 7, ground := Go.Ground.phase }, { on := 8, ground := Go.Ground.phase }, { on := 9, ground := Go.Ground.phase }, { on := 10, ground := Go.Ground.phase }, { on := 11, ground := Go.Ground.textOnly Go.Departure.lateStores }], guard := none }) (v := ?v123f4f1f1) rfl (by kernel_rfl) (by kernel_rfl) (by kernel_rfl) (fun _ _ _ h => h) (Or.inl ⟨by rfl, ?hy123f4f1f1⟩) hHeld ?rest123f4f1f1
          case hy123f4f1f1 => (intro w hSw; (try dsimp only at hSw); go_simp; (first | done | with_reducible rfl))
          try simp only [Act.put, List.setIfInBounds_toArray, List.set_cons_zero, List.set_cons_succ]
          refine wpAnyH_take (i := 13) (oi := { dst := some 12, op := Go.Op.assign (Go.Operand.tmp 78), type := 4, pos := "law.go:32", after := #[{ on := 11, ground := Go.Ground.data }, { on := 12, ground := Go.Ground.chain }, { on := 0, ground := Go.Ground.phase }, { on := 1, ground := Go.Ground.phase }, { on := 2, ground := Go.Ground.phase }, { on := 3, ground := Go.Ground.phase }, { on := 4, ground := Go.Ground.phase }, { on := 5, ground := Go.Ground.phase }, { on := 6, ground := Go.Ground.phase }, { on := 7, ground := Go.Ground.phase }, { on := 8, ground := Go.Ground.phase }, { on := 9, ground := Go.Ground.phase }, { on := 10, ground := Go.Ground.phase }, { on := 11, ground := Go.Ground.phase }, { on := 12, ground := Go.Ground.phase }], guard := none }) (v := ?v124f4f1f1) rfl (by kernel_rfl) (by kernel_rfl) (by kernel_rfl) (fun _ _ _ h => h) (Or.inl ⟨by rfl, ?hy124f4f1f1⟩) hHeld ?rest124f4f1f1
          case hy124f4f1f1 => (intro w hSw; (try dsimp only at hSw); go_simp; (first | done | with_reducible rfl))
          try simp only [Act.put, List.setIfInBounds_toArray, List.set_cons_zero, List.set_cons_succ]
          refine wpAnyH_done (by kernel_rfl) ?_ _
          go_wp2_with fail
          try simp only [Act.put, List.setIfInBounds_toArray, List.set_cons_zero, List.set_cons_succ]
          have hq125 : w76.heap.size ≤ w76.drew.heap.size := Nat.le_refl _
          have z126 := (Ext.refl w76).drew.size
          replace E := E.trans (Ext.refl w76).drew
          replace LB4 := LB4.ext (Ext.refl w76).drew
          replace LB5 := LB5.ext (Ext.refl w76).drew
          replace LB9 := LB9.ext (Ext.refl w76).drew
          replace LB10 := LB10.ext (Ext.refl w76).drew
          replace HPX := HPX.ext (Ext.refl w76).drew
          replace HPY := HPY.ext (Ext.refl w76).drew
          replace cB4_2 := cell_ext ((Ext.refl w76).drew) cB4_2
          replace cB5_2 := cell_ext ((Ext.refl w76).drew) cB5_2
          replace HV := HV.ext (Ext.refl w76).drew
          replace HU := HU.ext (Ext.refl w76).drew
          refine wp_region_held_drew (S := (fun w' => w'.cell? ⟨B4, 2, none⟩ = some (.int .i64 fl))) (by kernel_rfl) (cB4_2) (fun hHeld => ?_)
          refine wpAnyH_take (i := 0) (oi := { dst := some 79, op := Go.Op.fieldAddr 29 (Go.Operand.tmp 4) 2, type := 0, pos := "law.go:33", after := #[], guard := none }) (v := ?v127f4f1f1) rfl (by kernel_rfl) (by kernel_rfl) (by kernel_rfl) (fun _ _ _ h => h) (Or.inl ⟨by rfl, ?hy127f4f1f1⟩) hHeld ?rest127f4f1f1
          case hy127f4f1f1 => (intro w hSw; (try dsimp only at hSw); go_simp; (first | done | with_reducible rfl))
          try simp only [Act.put, List.setIfInBounds_toArray, List.set_cons_zero, List.set_cons_succ]
          refine wpAnyH_take (i := 1) (oi := { dst := some 80, op := Go.Op.load 3 (Go.Operand.tmp 79), type := 3, pos := "law.go:33", after := #[{ on := 0, ground := Go.Ground.data }], guard := none }) (v := ?v128f4f1f1) rfl (by kernel_rfl) (by kernel_rfl) (by kernel_rfl) (fun _ _ _ h => h) (Or.inl ⟨by rfl, ?hy128f4f1f1⟩) hHeld ?rest128f4f1f1
          case hy128f4f1f1 => (intro w hSw; (try dsimp only at hSw); go_simp; (first | done | with_reducible rfl))
          try simp only [Act.put, List.setIfInBounds_toArray, List.set_cons_zero, List.set_cons_succ]
          refine wpAnyH_take (i := 3) (oi := { dst := some 82, op := Go.Op.fieldAddr 29 (Go.Operand.tmp 4) 2, type := 0, pos := "law.go:33", after := #[], guard := none }) (v := ?v129f4f1f1) rfl (by kernel_rfl) (by kernel_rfl) (by kernel_rfl) (fun _ _ _ h => h) (Or.inl ⟨by rfl, ?hy129f4f1f1⟩) hHeld ?rest129f4f1f1
          case hy129f4f1f1 => (intro w hSw; (try dsimp only at hSw); go_simp; (first | done | with_reducible rfl))
          try simp only [Act.put, List.setIfInBounds_toArray, List.set_cons_zero, List.set_cons_succ]
          refine wpAnyH_take (i := 4) (oi := { dst := some 83, op := Go.Op.load 3 (Go.Operand.tmp 82), type := 3, pos := "law.go:33", after := #[{ on := 3, ground := Go.Ground.data }], guard := none }) (v := ?v130f4f1f1) rfl (by kernel_rfl) (by kernel_rfl) (by kernel_rfl) (fun _ _ _ h => h) (Or.inl ⟨by rfl, ?hy130f4f1f1⟩) hHeld ?rest130f4f1f1
          case hy130f4f1f1 => (intro w hSw; (try dsimp only at hSw); go_simp; (first | done | with_reducible rfl))
          try simp only [Act.put, List.setIfInBounds_toArray, List.set_cons_zero, List.set_cons_succ]
          refine wpAnyH_take (i := 5) (oi := { dst := some 84, op := Go.Op.binOp Go.BinOp.lss 3 (Go.Operand.tmp 83) (Go.Operand.const (Go.Value.int Go.IntKind.i64 2)) 3, type := 4, pos := "law.go:33", after := #[{ on := 4, ground := Go.Ground.data }], guard := none }) (v := .bool hb) rfl (by kernel_rfl) (by kernel_rfl) (by kernel_rfl) (fun _ _ _ h => h) (Or.inl ⟨by rfl, ?hy131f4f1f1⟩) hHeld ?rest131f4f1f1
          case hy131f4f1f1 => (intro w hSw; (try dsimp only at hSw); go_simp; try rw [e84]; (first | done | with_reducible rfl))
          try simp only [Act.put, List.setIfInBounds_toArray, List.set_cons_zero, List.set_cons_succ]
          refine wpAnyH_ready (rs := [2]) (by kernel_rfl) (by simp) ?_
          refine AllReadyH.cons (o := ocop_5_2) rfl (fun K hK => ?_) (AllReadyH.nil)
          dsimp only [ocop_5_2]
          go_simp
          refine (ch _).mono ?_
          rintro e w81 ⟨rfl, x⟩
          have z132 := x.size
          replace E := E.trans x
          replace LB4 := LB4.ext x
          replace LB5 := LB5.ext x
          replace LB9 := LB9.ext x
          replace LB10 := LB10.ext x
          replace HPX := HPX.ext x
          replace HPY := HPY.ext x
          replace cB4_2 := cell_ext (x) cB4_2
          replace cB5_2 := cell_ext (x) cB5_2
          replace HV := HV.ext x
          replace HU := HU.ext x
          clear x
          clear hHeld
          have hHeld := (cB4_2)
          refine hK.out _ _ hHeld (fun _ => ?_)
          clear hK K
          try simp only [Act.put, List.setIfInBounds_toArray, List.set_cons_zero, List.set_cons_succ]
          refine wpAnyH_take (i := 6) (oi := { dst := some 85, op := Go.Op.binOp Go.BinOp.neq 4 (Go.Operand.tmp 81) (Go.Operand.tmp 84) 4, type := 4, pos := "law.go:33", after := #[{ on := 2, ground := Go.Ground.data }, { on := 5, ground := Go.Ground.data }], guard := none }) (v := .bool false) rfl (by kernel_rfl) (by kernel_rfl) (by kernel_rfl) (fun _ _ _ h => h) (Or.inl ⟨by rfl, ?hy133f4f1f1⟩) hHeld ?rest133f4f1f1
          case hy133f4f1f1 => (intro w hSw; (try dsimp only at hSw); go_simp; try (simp; done); (first | done | with_reducible rfl))
          try simp only [Act.put, List.setIfInBounds_toArray, List.set_cons_zero, List.set_cons_succ]
          refine wpAnyH_take (i := 7) (oi := { dst := some 86, op := Go.Op.move (Go.Operand.tmp 85), type := 4, pos := "law.go:33", after := #[{ on := 6, ground := Go.Ground.data }, { on := 2, ground := Go.Ground.chain }], guard := none }) (v := ?v134f4f1f1) rfl (by kernel_rfl) (by kernel_rfl) (by kernel_rfl) (fun _ _ _ h => h) (Or.inl ⟨by rfl, ?hy134f4f1f1⟩) hHeld ?rest134f4f1f1
          case hy134f4f1f1 => (intro w hSw; (try dsimp only at hSw); go_simp; (first | done | with_reducible rfl))
          try simp only [Act.put, List.setIfInBounds_toArray, List.set_cons_zero, List.set_cons_succ]
          refine wpAnyH_ready (rs := [8]) (by kernel_rfl) (by simp) ?_
          refine AllReadyH.cons (o := ocop_5_8) rfl (fun K hK => ?_) (AllReadyH.nil)
          dsimp only [ocop_5_8]
          go_simp
          refine (ch9 _).mono ?_
          rintro e w87 ⟨rfl, x⟩
          have z135 := x.size
          replace E := E.trans x
          replace LB4 := LB4.ext x
          replace LB5 := LB5.ext x
          replace LB9 := LB9.ext x
          replace LB10 := LB10.ext x
          replace HPX := HPX.ext x
          replace HPY := HPY.ext x
          replace cB4_2 := cell_ext (x) cB4_2
          replace cB5_2 := cell_ext (x) cB5_2
          replace HV := HV.ext x
          replace HU := HU.ext x
          clear x
          clear hHeld
          have hHeld := (cB4_2)
          refine hK.out _ _ hHeld (fun _ => ?_)
          clear hK K
          try simp only [Act.put, List.setIfInBounds_toArray, List.set_cons_zero, List.set_cons_succ]
          refine wpAnyH_take (i := 9) (oi := { dst := some 88, op := Go.Op.pick (Go.Operand.tmp 86) (Go.Operand.const (Go.Value.bool true)) (Go.Operand.tmp 87), type := 4, pos := "law.go:33", after := #[{ on := 7, ground := Go.Ground.data }, { on := 8, ground := Go.Ground.data }], guard := none }) (v := ?v136f4f1f1) rfl (by kernel_rfl) (by kernel_rfl) (by kernel_rfl) (fun _ _ _ h => h) (Or.inl ⟨by rfl, ?hy136f4f1f1⟩) hHeld ?rest136f4f1f1
          case hy136f4f1f1 => (intro w hSw; (try dsimp only at hSw); go_simp; (first | done | with_reducible rfl))
          try simp only [Act.put, List.setIfInBounds_toArray, List.set_cons_zero, List.set_cons_succ]
          refine wpAnyH_done (by kernel_rfl) ?_ _
          go_wp2_with (first | (refine loadsI (B := B9) (by rfl) rfl rfl LB9 ?_) | (refine loadsI (B := B10) (by rfl) rfl rfl LB10 ?_))
          refine (kb1 (by trivial) _ _ HPX.is HPY.is _).mono ?_
          rintro e w110 ⟨rfl, x⟩
          have z137 := x.size
          replace E := E.trans x
          replace LB4 := LB4.ext x
          replace LB5 := LB5.ext x
          replace LB9 := LB9.ext x
          replace LB10 := LB10.ext x
          replace HPX := HPX.ext x
          replace HPY := HPY.ext x
          replace cB4_2 := cell_ext (x) cB4_2
          replace cB5_2 := cell_ext (x) cB5_2
          replace HV := HV.ext x
          replace HU := HU.ext x
          clear x
          go_wp2_with (first | (refine loadsI (B := B10) (by rfl) rfl rfl LB10 ?_) | (refine loadsI (B := B9) (by rfl) rfl rfl LB9 ?_))
          refine (kb2 (by trivial) _ _ HPX.is HPY.is _).mono ?_
          rintro e w113 ⟨rfl, x⟩
          have z138 := x.size
          replace E := E.trans x
          replace LB4 := LB4.ext x
          replace LB5 := LB5.ext x
          replace LB9 := LB9.ext x
          replace LB10 := LB10.ext x
          replace HPX := HPX.ext x
          replace HPY := HPY.ext x
          replace cB4_2 := cell_ext (x) cB4_2
          replace cB5_2 := cell_ext (x) cB5_2
          replace HV := HV.ext x
          replace HU := HU.ext x
          clear x
          go_wp2_with fail
          refine (oawake_any _).mono ?_
          rintro e w121 ⟨rfl, x⟩
          have z139 := x.size
          replace E := E.trans x
          replace LB4 := LB4.ext x
          replace LB5 := LB5.ext x
          replace LB9 := LB9.ext x
          replace LB10 := LB10.ext x
          replace HPX := HPX.ext x
          replace HPY := HPY.ext x
          replace cB4_2 := cell_ext (x) cB4_2
          replace cB5_2 := cell_ext (x) cB5_2
          replace HV := HV.ext x
          replace HU := HU.ext x
          clear x
          go_wp2_with fail
          go_ret
          exact ⟨rfl, E⟩
end Go.Proofs.Ytidnikndjhfgaaa
