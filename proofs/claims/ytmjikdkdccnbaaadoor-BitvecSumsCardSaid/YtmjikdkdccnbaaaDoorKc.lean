/- BitvecSums: the walk. -/
import Derived.Test.YtmjikdkdccnbaaaDoorKb
import Derived.Test.YtmjikdkdccnbaaaDoorPk
namespace Go.Proofs.YtmjikdkdccnbaaaDoor
open Go.ChangeShapes Go.WideShapes Go.RowKit Bv
set_option maxHeartbeats 2000000
set_option maxRecDepth 100000
theorem wrap_small {x : Int} (h0 : 0 ≤ x) (h1 : x < 9223372036854775808) : IntKind.i64.wrap x = x := by
  simp only [IntKind.wrap, IntKind.bits, IntKind.signed]
  simp
  repeat (first | split | omega)
theorem joinK0 {F KA : World → Prop} {G : Prop} (h : (∀ w, F w → KA w) → G) (t : ∀ w, F w → KA w) : G := h t
theorem joinK2 {A0 A1 : Type} {F KA : World → A0 → A1 → Prop} {G : Prop} (h : (∀ w a0 a1, F w a0 a1 → KA w a0 a1) → G) (t : ∀ w a0 a1, F w a0 a1 → KA w a0 a1) : G := h t
theorem joinK3 {A0 A1 A2 : Type} {F KA : World → A0 → A1 → A2 → Prop} {G : Prop} (h : (∀ w a0 a1 a2, F w a0 a1 a2 → KA w a0 a1 a2) → G) (t : ∀ w a0 a1 a2, F w a0 a1 a2 → KA w a0 a1 a2) : G := h t
theorem joinK4 {A0 A1 A2 A3 : Type} {F KA : World → A0 → A1 → A2 → A3 → Prop} {G : Prop} (h : (∀ w a0 a1 a2 a3, F w a0 a1 a2 a3 → KA w a0 a1 a2 a3) → G) (t : ∀ w a0 a1 a2 a3, F w a0 a1 a2 a3 → KA w a0 a1 a2 a3) : G := h t
abbrev bsums_5_10 : Go.Oper := { dst := none, op := Go.Op.store 26 (Go.Operand.tmp 7) (Go.Operand.tmp 23), type := 0, pos := "law.go:104", after := #[{ on := 8, ground := Go.Ground.data }, { on := 2, ground := Go.Ground.data }, { on := 7, ground := Go.Ground.chain }, { on := 0, ground := Go.Ground.phase }, { on := 1, ground := Go.Ground.phase }, { on := 2, ground := Go.Ground.phase }, { on := 3, ground := Go.Ground.textOnly Go.Departure.lateStores }, { on := 4, ground := Go.Ground.textOnly Go.Departure.lateStores }, { on := 5, ground := Go.Ground.textOnly Go.Departure.lateStores }, { on := 6, ground := Go.Ground.textOnly Go.Departure.lateStoresUnsure }, { on := 7, ground := Go.Ground.textOnly Go.Departure.lateStoresUnsure }, { on := 8, ground := Go.Ground.phase }, { on := 9, ground := Go.Ground.phase }], guard := none }
abbrev bsums_5_11 : Go.Oper := { dst := none, op := Go.Op.store 26 (Go.Operand.tmp 8) (Go.Operand.tmp 28), type := 0, pos := "law.go:104", after := #[{ on := 9, ground := Go.Ground.data }, { on := 7, ground := Go.Ground.data }, { on := 10, ground := Go.Ground.chain }, { on := 0, ground := Go.Ground.phase }, { on := 1, ground := Go.Ground.phase }, { on := 2, ground := Go.Ground.phase }, { on := 3, ground := Go.Ground.phase }, { on := 4, ground := Go.Ground.phase }, { on := 5, ground := Go.Ground.phase }, { on := 6, ground := Go.Ground.phase }, { on := 7, ground := Go.Ground.phase }, { on := 8, ground := Go.Ground.phase }, { on := 9, ground := Go.Ground.phase }, { on := 10, ground := Go.Ground.phase }], guard := none }
abbrev bsums_5_2 : Go.Oper := { dst := some 23, op := Go.Op.call { callee := Go.Callee.value (Go.Operand.func 24), args := #[Go.Operand.tmp 21, Go.Operand.const (Go.Value.int Go.IntKind.i64 0), Go.Operand.tmp 22], argTypes := #[26, 3, 3] }, type := 26, pos := "law.go:104", after := #[{ on := 0, ground := Go.Ground.data }, { on := 1, ground := Go.Ground.data }], guard := none }
abbrev bsums_5_7 : Go.Oper := { dst := some 28, op := Go.Op.call { callee := Go.Callee.value (Go.Operand.func 24), args := #[Go.Operand.tmp 24, Go.Operand.tmp 25, Go.Operand.tmp 27], argTypes := #[26, 3, 3] }, type := 26, pos := "law.go:104", after := #[{ on := 3, ground := Go.Ground.data }, { on := 4, ground := Go.Ground.data }, { on := 6, ground := Go.Ground.data }, { on := 2, ground := Go.Ground.chain }], guard := none }
abbrev bsums_5_8 : Go.Oper := { dst := some 7, op := Go.Op.alloc 26, type := 0, pos := "law.go:104", after := #[], guard := none }
abbrev bsums_5_9 : Go.Oper := { dst := some 8, op := Go.Op.alloc 26, type := 0, pos := "law.go:104", after := #[], guard := none }
abbrev bsums_6_1 : Go.Oper := { dst := some 30, op := Go.Op.call { callee := Go.Callee.value (Go.Operand.func 17), args := #[Go.Operand.tmp 29], argTypes := #[26] }, type := 3, pos := "law.go:105", after := #[{ on := 0, ground := Go.Ground.data }], guard := none }
abbrev bsums_6_10 : Go.Oper := { dst := some 39, op := Go.Op.call { callee := Go.Callee.value (Go.Operand.func 17), args := #[Go.Operand.tmp 38], argTypes := #[26] }, type := 3, pos := "law.go:105", after := #[{ on := 9, ground := Go.Ground.data }, { on := 8, ground := Go.Ground.chain }, { on := 6, ground := Go.Ground.guard }], guard := some (6, true) }
abbrev bsums_6_13 : Go.Oper := { dst := some 42, op := Go.Op.call { callee := Go.Callee.value (Go.Operand.func 17), args := #[Go.Operand.tmp 41], argTypes := #[26] }, type := 3, pos := "law.go:105", after := #[{ on := 12, ground := Go.Ground.data }, { on := 10, ground := Go.Ground.chain }, { on := 6, ground := Go.Ground.guard }], guard := some (6, true) }
abbrev bsums_6_18 : Go.Oper := { dst := some 47, op := Go.Op.call { callee := Go.Callee.value (Go.Operand.func 17), args := #[Go.Operand.tmp 46], argTypes := #[26] }, type := 3, pos := "law.go:105", after := #[{ on := 17, ground := Go.Ground.data }, { on := 16, ground := Go.Ground.chain }, { on := 16, ground := Go.Ground.guard }], guard := some (16, true) }
abbrev bsums_6_22 : Go.Oper := { dst := some 51, op := Go.Op.call { callee := Go.Callee.value (Go.Operand.func 21), args := #[Go.Operand.tmp 50], argTypes := #[26] }, type := 3, pos := "law.go:105", after := #[{ on := 21, ground := Go.Ground.data }, { on := 20, ground := Go.Ground.chain }, { on := 20, ground := Go.Ground.guard }], guard := some (20, false) }
abbrev bsums_6_24 : Go.Oper := { dst := some 53, op := Go.Op.call { callee := Go.Callee.value (Go.Operand.func 21), args := #[Go.Operand.tmp 52], argTypes := #[26] }, type := 3, pos := "law.go:105", after := #[{ on := 23, ground := Go.Ground.data }, { on := 22, ground := Go.Ground.chain }, { on := 20, ground := Go.Ground.guard }], guard := some (20, false) }
abbrev bsums_6_30 : Go.Oper := { dst := some 59, op := Go.Op.call { callee := Go.Callee.value (Go.Operand.func 17), args := #[Go.Operand.tmp 58], argTypes := #[26] }, type := 3, pos := "law.go:105", after := #[{ on := 29, ground := Go.Ground.data }, { on := 28, ground := Go.Ground.chain }, { on := 28, ground := Go.Ground.guard }], guard := some (28, true) }
abbrev bsums_6_34 : Go.Oper := { dst := some 63, op := Go.Op.call { callee := Go.Callee.value (Go.Operand.func 21), args := #[Go.Operand.tmp 62], argTypes := #[26] }, type := 3, pos := "law.go:105", after := #[{ on := 33, ground := Go.Ground.data }, { on := 32, ground := Go.Ground.chain }, { on := 32, ground := Go.Ground.guard }], guard := some (32, false) }
abbrev bsums_6_38 : Go.Oper := { dst := some 67, op := Go.Op.call { callee := Go.Callee.value (Go.Operand.func 21), args := #[Go.Operand.tmp 66], argTypes := #[26] }, type := 3, pos := "law.go:105", after := #[{ on := 37, ground := Go.Ground.data }, { on := 34, ground := Go.Ground.chain }, { on := 32, ground := Go.Ground.guard }], guard := some (32, false) }
abbrev bsums_6_4 : Go.Oper := { dst := some 33, op := Go.Op.call { callee := Go.Callee.value (Go.Operand.func 20), args := #[Go.Operand.tmp 31, Go.Operand.tmp 32], argTypes := #[26, 3] }, type := 3, pos := "law.go:105", after := #[{ on := 2, ground := Go.Ground.data }, { on := 3, ground := Go.Ground.data }, { on := 1, ground := Go.Ground.chain }], guard := none }
abbrev bsums_6_43 : Go.Oper := { dst := some 72, op := Go.Op.call { callee := Go.Callee.value (Go.Operand.func 9), args := #[], argTypes := #[] }, type := 4, pos := "law.go:105", after := #[{ on := 42, ground := Go.Ground.chain }, { on := 42, ground := Go.Ground.guard }], guard := some (42, true) }
abbrev bsums_6_8 : Go.Oper := { dst := some 37, op := Go.Op.call { callee := Go.Callee.value (Go.Operand.func 17), args := #[Go.Operand.tmp 36], argTypes := #[26] }, type := 3, pos := "law.go:105", after := #[{ on := 7, ground := Go.Ground.data }, { on := 6, ground := Go.Ground.chain }, { on := 6, ground := Go.Ground.guard }], guard := some (6, true) }
theorem bsums_lo (A : Option Addr) (m c : Nat) (at_ k : Nat) (w : World) (L X Y : List Bool)
    (ht : ∀ w', Ext w w' → Calls Tryd.prog 9 #[] w' fun e w2 => e = .returned (.bool true) ∧ Ext w' w2)
    (PK : ∀ w', Ext w w' → Calls Tryd.prog 10 #[.slice A m c] w' fun e w2 => ∃ v, e = .returned v ∧ BitS w2 v L (New w'.heap.size) ∧ Ext w' w2)
    (C1 : ∀ v w', IsB w' v L → Calls Tryd.prog 24 #[v, .int .i64 0, .int .i64 (k : Int)] w' fun e w2 => ∃ v, e = .returned v ∧ BitS w2 v X (New w'.heap.size) ∧ Ext w' w2)
    (C2 : ∀ v w', IsB w' v L → Calls Tryd.prog 24 #[v, .int .i64 (k : Int), .int .i64 (m : Int)] w' fun e w2 => ∃ v, e = .returned v ∧ BitS w2 v Y (New w'.heap.size) ∧ Ext w' w2)
    (n1 n2 f1 f2 : Nat) (hb : n1 ≤ 1500 ∧ n2 ≤ 1500 ∧ f2 ≤ 1500 ∧ k ≤ 1500)
    (cL : ∀ v w', IsB w' v L → Calls Tryd.prog 17 #[v] w' fun e w2 => e = .returned (.int .i64 ((n1 : Int) + (n2 : Int))) ∧ Ext w' w2)
    (cX : ∀ v w', IsB w' v X → Calls Tryd.prog 17 #[v] w' fun e w2 => e = .returned (.int .i64 (n1 : Int)) ∧ Ext w' w2)
    (cY : ∀ v w', IsB w' v Y → Calls Tryd.prog 17 #[v] w' fun e w2 => e = .returned (.int .i64 (n2 : Int)) ∧ Ext w' w2)
    (cR : ∀ v w', IsB w' v L → Calls Tryd.prog 20 #[v, .int .i64 (k : Int)] w' fun e w2 => e = .returned (.int .i64 (n1 : Int)) ∧ Ext w' w2)
    (gL : ∀ v w', Ext w w' → IsB w' v L → Calls Tryd.prog 21 #[v] w' fun e w2 => e = .returned (.int .i64 (f1 : Int)) ∧ Ext w' w2)
    (gX : ∀ v w', Ext w w' → IsB w' v X → Calls Tryd.prog 21 #[v] w' fun e w2 => e = .returned (.int .i64 (f1 : Int)) ∧ Ext w' w2)
    (_ : ∀ v w', Ext w w' → IsB w' v Y → Calls Tryd.prog 21 #[v] w' fun e w2 => e = .returned (.int .i64 (f2 : Int)) ∧ Ext w' w2)
    (hat : at_ < 65536) (hm : m ≤ 1500) (_ : (0 : Int) ≤ (k : Int)) (hki : (at_ : Int).tmod ((m : Int) + 1) = (k : Int)) (h0 : 0 < n1) : Calls Tryd.prog 7 #[.slice A m c, .int .u16 (at_ : Int)] w fun e w' => e = .returned (.bool true) ∧ Ext w w' := by
  have W1 : IntKind.i64.wrap ((n1 : Int) + (n2 : Int)) = (n1 : Int) + (n2 : Int) := wrap_small (by omega) (by omega)
  have E := Ext.refl w
  go_enter Tryd.func7, Tryd.ntmps7
  go_wp2_with fail
  refine (PK _ E).mono ?_
  rintro e w14 ⟨v, rfl, hq, x⟩
  have HB := hq.now
  clear hq
  have z1 := x.size
  replace E := E.trans x
  clear x
  have TB5 : True := trivial
  have TG3 : True := trivial
  go_wp2_with (first | (clear TB5; refine allocsB rfl rfl ?_; intro B5 w5 bB5 cB5 XB5 LB5 RB5; have z2 := XB5.size; replace E := E.trans XB5; replace HB := HB.ext XB5) | (clear TG3; have hRl := (RB5).lt (Nat.zero_lt_succ _); refine storesB (B := B5) rfl rfl rfl (v := v) rfl RB5 HB.is.flat ?_; clear LB5; intro s3 G3 LB5 RQ; have z4 := G3.size; replace E := grown_ext E G3 (by omega); replace HB := HB.grown G3 (by first | omega | (dsimp only [New]; omega)); clear RB5; have RB5 := RQ; clear RQ hRl; clear RB5))
  try simp only [Act.put, List.setIfInBounds_toArray, List.set_cons_zero, List.set_cons_succ]
  apply joinK0 (F := fun (wS5 : World) => s3.heap.size ≤ wS5.heap.size ∧ Ext w wS5 ∧ Lay 2 wS5 B5 v ∧ BitS wS5 v L (fun i => i < wS5.heap.size))
  · intro J
    refine J s3 ?_
    exact ⟨Nat.le_refl _, E, LB5, (HB.mono (fun i hi h => by ((try dsimp only [New] at h); omega)))⟩
  intro wS5 hJS
  clear E HB LB5
  refine wp_region_held_drew (S := (fun w' => Lay 2 w' B5 v)) (by kernel_rfl) (by obtain ⟨z7, E, LB5, HB⟩ := hJS; exact LB5) (fun hH0 => ?_)
  apply joinK4 (F := fun (wD5_0 : World) (B7 : Nat) (B8 : Nat) (xv : Value) (yv : Value) => wS5.heap.size ≤ wD5_0.heap.size ∧ (wS5.heap.size ≤ B7 ∧ B7 < wD5_0.heap.size) ∧ (wS5.heap.size ≤ B8 ∧ B8 < wD5_0.heap.size) ∧ B7 ≠ B8 ∧ Ext w wD5_0 ∧ Lay 2 wD5_0 B5 v ∧ Lay 2 wD5_0 B7 xv ∧ Lay 2 wD5_0 B8 yv ∧ BitS wD5_0 v L (fun i => i < wD5_0.heap.size ∧ i ≠ B7 ∧ i ≠ B8) ∧ BitS wD5_0 xv X (fun i => i < wD5_0.heap.size ∧ i ≠ B7 ∧ i ≠ B8) ∧ BitS wD5_0 yv Y (fun i => i < wD5_0.heap.size ∧ i ≠ B7 ∧ i ≠ B8))
  intro JD5_0
  apply joinK4 (F := fun (wD5_1 : World) (B7 : Nat) (B8 : Nat) (xv : Value) (yv : Value) => wS5.heap.size ≤ wD5_1.heap.size ∧ (wS5.heap.size ≤ B7 ∧ B7 < wD5_1.heap.size) ∧ (wS5.heap.size ≤ B8 ∧ B8 < wD5_1.heap.size) ∧ B7 ≠ B8 ∧ Ext w wD5_1 ∧ Lay 2 wD5_1 B5 v ∧ Lay 2 wD5_1 B7 zeroBits ∧ Lay 2 wD5_1 B8 zeroBits ∧ Room 2 wD5_1 B7 ∧ Room 2 wD5_1 B8 ∧ BitS wD5_1 v L (fun i => i < wD5_1.heap.size ∧ i ≠ B7 ∧ i ≠ B8) ∧ BitS wD5_1 xv X (fun i => i < wD5_1.heap.size ∧ i ≠ B7 ∧ i ≠ B8) ∧ BitS wD5_1 yv Y (fun i => i < wD5_1.heap.size ∧ i ≠ B7 ∧ i ≠ B8))
  intro JD5_1
  apply joinK3 (F := fun (wD5_2 : World) (B7 : Nat) (xv : Value) (yv : Value) => wS5.heap.size ≤ wD5_2.heap.size ∧ (wS5.heap.size ≤ B7 ∧ B7 < wD5_2.heap.size) ∧ Ext w wD5_2 ∧ Lay 2 wD5_2 B5 v ∧ Lay 2 wD5_2 B7 zeroBits ∧ Room 2 wD5_2 B7 ∧ BitS wD5_2 v L (fun i => i < wD5_2.heap.size ∧ i ≠ B7) ∧ BitS wD5_2 xv X (fun i => i < wD5_2.heap.size ∧ i ≠ B7) ∧ BitS wD5_2 yv Y (fun i => i < wD5_2.heap.size ∧ i ≠ B7))
  intro JD5_2
  apply joinK3 (F := fun (wD5_3 : World) (B8 : Nat) (xv : Value) (yv : Value) => wS5.heap.size ≤ wD5_3.heap.size ∧ (wS5.heap.size ≤ B8 ∧ B8 < wD5_3.heap.size) ∧ Ext w wD5_3 ∧ Lay 2 wD5_3 B5 v ∧ Lay 2 wD5_3 B8 zeroBits ∧ Room 2 wD5_3 B8 ∧ BitS wD5_3 v L (fun i => i < wD5_3.heap.size ∧ i ≠ B8) ∧ BitS wD5_3 xv X (fun i => i < wD5_3.heap.size ∧ i ≠ B8) ∧ BitS wD5_3 yv Y (fun i => i < wD5_3.heap.size ∧ i ≠ B8))
  intro JD5_3
  apply joinK3 (F := fun (wD5_4 : World) (B7 : Nat) (B8 : Nat) (xv : Value) => wS5.heap.size ≤ wD5_4.heap.size ∧ (wS5.heap.size ≤ B7 ∧ B7 < wD5_4.heap.size) ∧ (wS5.heap.size ≤ B8 ∧ B8 < wD5_4.heap.size) ∧ B7 ≠ B8 ∧ Ext w wD5_4 ∧ Lay 2 wD5_4 B5 v ∧ Lay 2 wD5_4 B7 zeroBits ∧ Lay 2 wD5_4 B8 zeroBits ∧ Room 2 wD5_4 B7 ∧ Room 2 wD5_4 B8 ∧ BitS wD5_4 v L (fun i => i < wD5_4.heap.size ∧ i ≠ B7 ∧ i ≠ B8) ∧ BitS wD5_4 xv X (fun i => i < wD5_4.heap.size ∧ i ≠ B7 ∧ i ≠ B8))
  intro JD5_4
  apply joinK2 (F := fun (wD5_5 : World) (B7 : Nat) (xv : Value) => wS5.heap.size ≤ wD5_5.heap.size ∧ (wS5.heap.size ≤ B7 ∧ B7 < wD5_5.heap.size) ∧ Ext w wD5_5 ∧ Lay 2 wD5_5 B5 v ∧ Lay 2 wD5_5 B7 zeroBits ∧ Room 2 wD5_5 B7 ∧ BitS wD5_5 v L (fun i => i < wD5_5.heap.size ∧ i ≠ B7) ∧ BitS wD5_5 xv X (fun i => i < wD5_5.heap.size ∧ i ≠ B7))
  intro JD5_5
  apply joinK2 (F := fun (wD5_6 : World) (B8 : Nat) (xv : Value) => wS5.heap.size ≤ wD5_6.heap.size ∧ (wS5.heap.size ≤ B8 ∧ B8 < wD5_6.heap.size) ∧ Ext w wD5_6 ∧ Lay 2 wD5_6 B5 v ∧ Lay 2 wD5_6 B8 zeroBits ∧ Room 2 wD5_6 B8 ∧ BitS wD5_6 v L (fun i => i < wD5_6.heap.size ∧ i ≠ B8) ∧ BitS wD5_6 xv X (fun i => i < wD5_6.heap.size ∧ i ≠ B8))
  intro JD5_6
  apply joinK2 (F := fun (wD5_7 : World) (B7 : Nat) (B8 : Nat) => wS5.heap.size ≤ wD5_7.heap.size ∧ (wS5.heap.size ≤ B7 ∧ B7 < wD5_7.heap.size) ∧ (wS5.heap.size ≤ B8 ∧ B8 < wD5_7.heap.size) ∧ B7 ≠ B8 ∧ Ext w wD5_7 ∧ Lay 2 wD5_7 B5 v ∧ Lay 2 wD5_7 B7 zeroBits ∧ Lay 2 wD5_7 B8 zeroBits ∧ Room 2 wD5_7 B7 ∧ Room 2 wD5_7 B8 ∧ BitS wD5_7 v L (fun i => i < wD5_7.heap.size ∧ i ≠ B7 ∧ i ≠ B8))
  intro JD5_7
  · have hJQ := hJS
    obtain ⟨z7, E, LB5, HB⟩ := hJQ
    have hq8 : wS5.heap.size ≤ wS5.drew.heap.size := Nat.le_refl _
    have z9 := (Ext.refl wS5).drew.size
    replace E := E.trans (Ext.refl wS5).drew
    replace LB5 := LB5.ext (Ext.refl wS5).drew
    replace HB := HB.ext (Ext.refl wS5).drew
    have hHeld := LB5
    refine wpAnyH_take (i := 0) (oi := { dst := some 21, op := Go.Op.load 26 (Go.Operand.tmp 5), type := 26, pos := "law.go:104", after := #[], guard := none }) (v := v) rfl (by kernel_rfl) (by kernel_rfl) (by kernel_rfl) (fun _ _ _ h => h) (yieldB (by rfl) rfl rfl fun w' hx => hx) hHeld ?_
    try simp only [Act.put, List.setIfInBounds_toArray, List.set_cons_zero, List.set_cons_succ]
    refine wpAnyH_take (i := 1) (oi := { dst := some 22, op := Go.Op.move (Go.Operand.tmp 6), type := 3, pos := "law.go:104", after := #[], guard := none }) (v := ?v11) rfl (by kernel_rfl) (by kernel_rfl) (by kernel_rfl) (fun _ _ _ h => h) (Or.inl ⟨by rfl, ?hy11⟩) hHeld ?rest11
    case hy11 => (intro w hSw; (try dsimp only at hSw); go_simp; (first | done | with_reducible rfl))
    try simp only [Act.put, List.setIfInBounds_toArray, List.set_cons_zero, List.set_cons_succ]
    refine wpAnyH_take (i := 3) (oi := { dst := some 24, op := Go.Op.load 26 (Go.Operand.tmp 5), type := 26, pos := "law.go:104", after := #[], guard := none }) (v := v) rfl (by kernel_rfl) (by kernel_rfl) (by kernel_rfl) (fun _ _ _ h => h) (yieldB (by rfl) rfl rfl fun w' hx => hx) hHeld ?_
    try simp only [Act.put, List.setIfInBounds_toArray, List.set_cons_zero, List.set_cons_succ]
    refine wpAnyH_take (i := 4) (oi := { dst := some 25, op := Go.Op.move (Go.Operand.tmp 6), type := 3, pos := "law.go:104", after := #[], guard := none }) (v := ?v13) rfl (by kernel_rfl) (by kernel_rfl) (by kernel_rfl) (fun _ _ _ h => h) (Or.inl ⟨by rfl, ?hy13⟩) hHeld ?rest13
    case hy13 => (intro w hSw; (try dsimp only at hSw); go_simp; (first | done | with_reducible rfl))
    try simp only [Act.put, List.setIfInBounds_toArray, List.set_cons_zero, List.set_cons_succ]
    refine wpAnyH_take (i := 5) (oi := { dst := some 26, op := Go.Op.move (Go.Operand.tmp 0), type := 22, pos := "law.go:104", after := #[], guard := none }) (v := ?v14) rfl (by kernel_rfl) (by kernel_rfl) (by kernel_rfl) (fun _ _ _ h => h) (Or.inl ⟨by rfl, ?hy14⟩) hHeld ?rest14
    case hy14 => (intro w hSw; (try dsimp only at hSw); go_simp; (first | done | with_reducible rfl))
    try simp only [Act.put, List.setIfInBounds_toArray, List.set_cons_zero, List.set_cons_succ]
    refine wpAnyH_take (i := 6) (oi := { dst := some 27, op := Go.Op.call { callee := Go.Callee.builtin Go.Builtin.len, args := #[Go.Operand.tmp 26], argTypes := #[22] }, type := 3, pos := "law.go:104", after := #[{ on := 5, ground := Go.Ground.data }], guard := none }) (v := ?v15) rfl (by kernel_rfl) (by kernel_rfl) (by kernel_rfl) (fun _ _ _ h => h) (Or.inl ⟨by rfl, ?hy15⟩) hHeld ?rest15
    case hy15 => (intro w hSw; (try dsimp only at hSw); go_simp; (first | done | with_reducible rfl))
    try simp only [Act.put, List.setIfInBounds_toArray, List.set_cons_zero, List.set_cons_succ]
    refine wpAnyH_ready (rs := [2, 8, 9]) (by kernel_rfl) (by simp) ?_
    refine AllReadyH.cons (o := bsums_5_2) rfl (fun K hK => ?_) (AllReadyH.cons (o := bsums_5_8) rfl (fun K hK => ?_) (AllReadyH.cons (o := bsums_5_9) rfl (fun K hK => ?_) (AllReadyH.nil)))
    · dsimp only [bsums_5_2]
      go_simp
      refine (C1 v _ HB.is).mono ?_
      rintro e w23 ⟨xv, rfl, hq, x⟩
      have HX := hq.now
      clear hq
      have z16 := x.size
      replace E := E.trans x
      replace LB5 := LB5.ext x
      replace HB := HB.ext x
      clear x
      clear hHeld
      have hHeld := LB5
      refine hK.out _ _ hHeld (fun _ => ?_)
      clear hK K
      try simp only [Act.put, List.setIfInBounds_toArray, List.set_cons_zero, List.set_cons_succ]
      refine wpAnyH_ready (rs := [7, 8, 9]) (by kernel_rfl) (by simp) ?_
      refine AllReadyH.cons (o := bsums_5_7) rfl (fun K hK => ?_) (AllReadyH.cons (o := bsums_5_8) rfl (fun K hK => ?_) (AllReadyH.cons (o := bsums_5_9) rfl (fun K hK => ?_) (AllReadyH.nil)))
      · dsimp only [bsums_5_7]
        go_simp
        refine (C2 v _ HB.is).mono ?_
        rintro e w28 ⟨yv, rfl, hq, x⟩
        have HY := hq.now
        clear hq
        have z17 := x.size
        replace E := E.trans x
        replace LB5 := LB5.ext x
        replace HB := HB.ext x
        replace HX := HX.ext x
        clear x
        clear hHeld
        have hHeld := LB5
        refine hK.out _ _ hHeld (fun _ => ?_)
        clear hK K
        try simp only [Act.put, List.setIfInBounds_toArray, List.set_cons_zero, List.set_cons_succ]
        refine wpAnyH_ready (rs := [8, 9]) (by kernel_rfl) (by simp) ?_
        refine AllReadyH.cons (o := bsums_5_8) rfl (fun K hK => ?_) (AllReadyH.cons (o := bsums_5_9) rfl (fun K hK => ?_) (AllReadyH.nil))
        · dsimp only [bsums_5_8]
          rw [if_pos (by rfl)]
          refine allocB rfl ?_
          intro B7 w7 bB7 cB7 XB7 LB7 RB7
          have z18 := XB7.size
          replace E := E.trans XB7
          replace LB5 := LB5.ext XB7
          replace HB := HB.ext XB7
          replace HX := HX.ext XB7
          replace HY := HY.ext XB7
          clear hHeld
          have hHeld := LB5
          refine hK.out _ _ hHeld (fun _ => ?_)
          clear hK K
          try simp only [Act.put, List.setIfInBounds_toArray, List.set_cons_zero, List.set_cons_succ]
          refine JD5_2 w7 B7 xv yv ?_
          exact ⟨by omega, ⟨by omega, by omega⟩, E, LB5, LB7, RB7, (HB.mono (fun i hi h => by ((try dsimp only [New] at h); omega))), (HX.mono (fun i hi h => by ((try dsimp only [New] at h); omega))), (HY.mono (fun i hi h => by ((try dsimp only [New] at h); omega)))⟩
        · dsimp only [bsums_5_9]
          rw [if_pos (by rfl)]
          refine allocB rfl ?_
          intro B8 w8 bB8 cB8 XB8 LB8 RB8
          have z19 := XB8.size
          replace E := E.trans XB8
          replace LB5 := LB5.ext XB8
          replace HB := HB.ext XB8
          replace HX := HX.ext XB8
          replace HY := HY.ext XB8
          clear hHeld
          have hHeld := LB5
          refine hK.out _ _ hHeld (fun _ => ?_)
          clear hK K
          try simp only [Act.put, List.setIfInBounds_toArray, List.set_cons_zero, List.set_cons_succ]
          refine JD5_3 w8 B8 xv yv ?_
          exact ⟨by omega, ⟨by omega, by omega⟩, E, LB5, LB8, RB8, (HB.mono (fun i hi h => by ((try dsimp only [New] at h); omega))), (HX.mono (fun i hi h => by ((try dsimp only [New] at h); omega))), (HY.mono (fun i hi h => by ((try dsimp only [New] at h); omega)))⟩
      · dsimp only [bsums_5_8]
        rw [if_pos (by rfl)]
        refine allocB rfl ?_
        intro B7 w7 bB7 cB7 XB7 LB7 RB7
        have z20 := XB7.size
        replace E := E.trans XB7
        replace LB5 := LB5.ext XB7
        replace HB := HB.ext XB7
        replace HX := HX.ext XB7
        clear hHeld
        have hHeld := LB5
        refine hK.out _ _ hHeld (fun _ => ?_)
        clear hK K
        try simp only [Act.put, List.setIfInBounds_toArray, List.set_cons_zero, List.set_cons_succ]
        refine JD5_5 w7 B7 xv ?_
        exact ⟨by omega, ⟨by omega, by omega⟩, E, LB5, LB7, RB7, (HB.mono (fun i hi h => by ((try dsimp only [New] at h); omega))), (HX.mono (fun i hi h => by ((try dsimp only [New] at h); omega)))⟩
      · dsimp only [bsums_5_9]
        rw [if_pos (by rfl)]
        refine allocB rfl ?_
        intro B8 w8 bB8 cB8 XB8 LB8 RB8
        have z21 := XB8.size
        replace E := E.trans XB8
        replace LB5 := LB5.ext XB8
        replace HB := HB.ext XB8
        replace HX := HX.ext XB8
        clear hHeld
        have hHeld := LB5
        refine hK.out _ _ hHeld (fun _ => ?_)
        clear hK K
        try simp only [Act.put, List.setIfInBounds_toArray, List.set_cons_zero, List.set_cons_succ]
        refine JD5_6 w8 B8 xv ?_
        exact ⟨by omega, ⟨by omega, by omega⟩, E, LB5, LB8, RB8, (HB.mono (fun i hi h => by ((try dsimp only [New] at h); omega))), (HX.mono (fun i hi h => by ((try dsimp only [New] at h); omega)))⟩
    · dsimp only [bsums_5_8]
      rw [if_pos (by rfl)]
      refine allocB rfl ?_
      intro B7 w7 bB7 cB7 XB7 LB7 RB7
      have z22 := XB7.size
      replace E := E.trans XB7
      replace LB5 := LB5.ext XB7
      replace HB := HB.ext XB7
      clear hHeld
      have hHeld := LB5
      refine hK.out _ _ hHeld (fun _ => ?_)
      clear hK K
      try simp only [Act.put, List.setIfInBounds_toArray, List.set_cons_zero, List.set_cons_succ]
      refine wpAnyH_ready (rs := [2, 9]) (by kernel_rfl) (by simp) ?_
      refine AllReadyH.cons (o := bsums_5_2) rfl (fun K hK => ?_) (AllReadyH.cons (o := bsums_5_9) rfl (fun K hK => ?_) (AllReadyH.nil))
      · dsimp only [bsums_5_2]
        go_simp
        refine (C1 v _ HB.is).mono ?_
        rintro e w23 ⟨xv, rfl, hq, x⟩
        have HX := hq.now
        clear hq
        have z23 := x.size
        replace E := E.trans x
        replace LB5 := LB5.ext x
        replace HB := HB.ext x
        replace LB7 := LB7.ext x
        replace RB7 := RB7.ext x
        clear x
        clear hHeld
        have hHeld := LB5
        refine hK.out _ _ hHeld (fun _ => ?_)
        clear hK K
        try simp only [Act.put, List.setIfInBounds_toArray, List.set_cons_zero, List.set_cons_succ]
        refine JD5_5 w23 B7 xv ?_
        exact ⟨by omega, ⟨by omega, by omega⟩, E, LB5, LB7, RB7, (HB.mono (fun i hi h => by ((try dsimp only [New] at h); omega))), (HX.mono (fun i hi h => by ((try dsimp only [New] at h); omega)))⟩
      · dsimp only [bsums_5_9]
        rw [if_pos (by rfl)]
        refine allocB rfl ?_
        intro B8 w8 bB8 cB8 XB8 LB8 RB8
        have z24 := XB8.size
        replace E := E.trans XB8
        replace LB5 := LB5.ext XB8
        replace HB := HB.ext XB8
        replace LB7 := LB7.ext XB8
        replace RB7 := RB7.ext XB8
        clear hHeld
        have hHeld := LB5
        refine hK.out _ _ hHeld (fun _ => ?_)
        clear hK K
        try simp only [Act.put, List.setIfInBounds_toArray, List.set_cons_zero, List.set_cons_succ]
        refine JD5_7 w8 B7 B8 ?_
        exact ⟨by omega, ⟨by omega, by omega⟩, ⟨by omega, by omega⟩, by omega, E, LB5, LB7, LB8, RB7, RB8, (HB.mono (fun i hi h => by ((try dsimp only [New] at h); omega)))⟩
    · dsimp only [bsums_5_9]
      rw [if_pos (by rfl)]
      refine allocB rfl ?_
      intro B8 w8 bB8 cB8 XB8 LB8 RB8
      have z25 := XB8.size
      replace E := E.trans XB8
      replace LB5 := LB5.ext XB8
      replace HB := HB.ext XB8
      clear hHeld
      have hHeld := LB5
      refine hK.out _ _ hHeld (fun _ => ?_)
      clear hK K
      try simp only [Act.put, List.setIfInBounds_toArray, List.set_cons_zero, List.set_cons_succ]
      refine wpAnyH_ready (rs := [2, 8]) (by kernel_rfl) (by simp) ?_
      refine AllReadyH.cons (o := bsums_5_2) rfl (fun K hK => ?_) (AllReadyH.cons (o := bsums_5_8) rfl (fun K hK => ?_) (AllReadyH.nil))
      · dsimp only [bsums_5_2]
        go_simp
        refine (C1 v _ HB.is).mono ?_
        rintro e w23 ⟨xv, rfl, hq, x⟩
        have HX := hq.now
        clear hq
        have z26 := x.size
        replace E := E.trans x
        replace LB5 := LB5.ext x
        replace HB := HB.ext x
        replace LB8 := LB8.ext x
        replace RB8 := RB8.ext x
        clear x
        clear hHeld
        have hHeld := LB5
        refine hK.out _ _ hHeld (fun _ => ?_)
        clear hK K
        try simp only [Act.put, List.setIfInBounds_toArray, List.set_cons_zero, List.set_cons_succ]
        refine JD5_6 w23 B8 xv ?_
        exact ⟨by omega, ⟨by omega, by omega⟩, E, LB5, LB8, RB8, (HB.mono (fun i hi h => by ((try dsimp only [New] at h); omega))), (HX.mono (fun i hi h => by ((try dsimp only [New] at h); omega)))⟩
      · dsimp only [bsums_5_8]
        rw [if_pos (by rfl)]
        refine allocB rfl ?_
        intro B7 w7 bB7 cB7 XB7 LB7 RB7
        have z27 := XB7.size
        replace E := E.trans XB7
        replace LB5 := LB5.ext XB7
        replace HB := HB.ext XB7
        replace LB8 := LB8.ext XB7
        replace RB8 := RB8.ext XB7
        clear hHeld
        have hHeld := LB5
        refine hK.out _ _ hHeld (fun _ => ?_)
        clear hK K
        try simp only [Act.put, List.setIfInBounds_toArray, List.set_cons_zero, List.set_cons_succ]
        refine JD5_7 w7 B7 B8 ?_
        exact ⟨by omega, ⟨by omega, by omega⟩, ⟨by omega, by omega⟩, by omega, E, LB5, LB7, LB8, RB7, RB8, (HB.mono (fun i hi h => by ((try dsimp only [New] at h); omega)))⟩
  · intro wD5_7 B7 B8 hJ
    obtain ⟨z28, ⟨bB7, cB7⟩, ⟨bB8, cB8⟩, nB7B8, E, LB5, LB7, LB8, RB7, RB8, HB⟩ := hJ
    try dsimp only
    have hHeld := LB5
    refine wpAnyH_ready (rs := [2]) (by kernel_rfl) (by simp) ?_
    refine AllReadyH.cons (o := bsums_5_2) rfl (fun K hK => ?_) (AllReadyH.nil)
    dsimp only [bsums_5_2]
    go_simp
    refine (C1 v _ HB.is).mono ?_
    rintro e w23 ⟨xv, rfl, hq, x⟩
    have HX := hq.now
    clear hq
    have z29 := x.size
    replace E := E.trans x
    replace LB5 := LB5.ext x
    replace LB7 := LB7.ext x
    replace LB8 := LB8.ext x
    replace RB7 := RB7.ext x
    replace RB8 := RB8.ext x
    replace HB := HB.ext x
    clear x
    clear hHeld
    have hHeld := LB5
    refine hK.out _ _ hHeld (fun _ => ?_)
    clear hK K
    try simp only [Act.put, List.setIfInBounds_toArray, List.set_cons_zero, List.set_cons_succ]
    refine JD5_4 w23 B7 B8 xv ?_
    exact ⟨by omega, ⟨by omega, by omega⟩, ⟨by omega, by omega⟩, by omega, E, LB5, LB7, LB8, RB7, RB8, (HB.mono (fun i hi h => by ((try dsimp only [New] at h); omega))), (HX.mono (fun i hi h => by ((try dsimp only [New] at h); omega)))⟩
  · intro wD5_6 B8 xv hJ
    obtain ⟨z30, ⟨bB8, cB8⟩, E, LB5, LB8, RB8, HB, HX⟩ := hJ
    try dsimp only
    have hHeld := LB5
    refine wpAnyH_ready (rs := [7, 8]) (by kernel_rfl) (by simp) ?_
    refine AllReadyH.cons (o := bsums_5_7) rfl (fun K hK => ?_) (AllReadyH.cons (o := bsums_5_8) rfl (fun K hK => ?_) (AllReadyH.nil))
    · dsimp only [bsums_5_7]
      go_simp
      refine (C2 v _ HB.is).mono ?_
      rintro e w28 ⟨yv, rfl, hq, x⟩
      have HY := hq.now
      clear hq
      have z31 := x.size
      replace E := E.trans x
      replace LB5 := LB5.ext x
      replace LB8 := LB8.ext x
      replace RB8 := RB8.ext x
      replace HB := HB.ext x
      replace HX := HX.ext x
      clear x
      clear hHeld
      have hHeld := LB5
      refine hK.out _ _ hHeld (fun _ => ?_)
      clear hK K
      try simp only [Act.put, List.setIfInBounds_toArray, List.set_cons_zero, List.set_cons_succ]
      refine JD5_3 w28 B8 xv yv ?_
      exact ⟨by omega, ⟨by omega, by omega⟩, E, LB5, LB8, RB8, (HB.mono (fun i hi h => by ((try dsimp only [New] at h); omega))), (HX.mono (fun i hi h => by ((try dsimp only [New] at h); omega))), (HY.mono (fun i hi h => by ((try dsimp only [New] at h); omega)))⟩
    · dsimp only [bsums_5_8]
      rw [if_pos (by rfl)]
      refine allocB rfl ?_
      intro B7 w7 bB7 cB7 XB7 LB7 RB7
      have z32 := XB7.size
      replace E := E.trans XB7
      replace LB5 := LB5.ext XB7
      replace LB8 := LB8.ext XB7
      replace RB8 := RB8.ext XB7
      replace HB := HB.ext XB7
      replace HX := HX.ext XB7
      clear hHeld
      have hHeld := LB5
      refine hK.out _ _ hHeld (fun _ => ?_)
      clear hK K
      try simp only [Act.put, List.setIfInBounds_toArray, List.set_cons_zero, List.set_cons_succ]
      refine JD5_4 w7 B7 B8 xv ?_
      exact ⟨by omega, ⟨by omega, by omega⟩, ⟨by omega, by omega⟩, by omega, E, LB5, LB7, LB8, RB7, RB8, (HB.mono (fun i hi h => by ((try dsimp only [New] at h); omega))), (HX.mono (fun i hi h => by ((try dsimp only [New] at h); omega)))⟩
  · intro wD5_5 B7 xv hJ
    obtain ⟨z33, ⟨bB7, cB7⟩, E, LB5, LB7, RB7, HB, HX⟩ := hJ
    try dsimp only
    have hHeld := LB5
    refine wpAnyH_ready (rs := [7, 9]) (by kernel_rfl) (by simp) ?_
    refine AllReadyH.cons (o := bsums_5_7) rfl (fun K hK => ?_) (AllReadyH.cons (o := bsums_5_9) rfl (fun K hK => ?_) (AllReadyH.nil))
    · dsimp only [bsums_5_7]
      go_simp
      refine (C2 v _ HB.is).mono ?_
      rintro e w28 ⟨yv, rfl, hq, x⟩
      have HY := hq.now
      clear hq
      have z34 := x.size
      replace E := E.trans x
      replace LB5 := LB5.ext x
      replace LB7 := LB7.ext x
      replace RB7 := RB7.ext x
      replace HB := HB.ext x
      replace HX := HX.ext x
      clear x
      clear hHeld
      have hHeld := LB5
      refine hK.out _ _ hHeld (fun _ => ?_)
      clear hK K
      try simp only [Act.put, List.setIfInBounds_toArray, List.set_cons_zero, List.set_cons_succ]
      refine JD5_2 w28 B7 xv yv ?_
      exact ⟨by omega, ⟨by omega, by omega⟩, E, LB5, LB7, RB7, (HB.mono (fun i hi h => by ((try dsimp only [New] at h); omega))), (HX.mono (fun i hi h => by ((try dsimp only [New] at h); omega))), (HY.mono (fun i hi h => by ((try dsimp only [New] at h); omega)))⟩
    · dsimp only [bsums_5_9]
      rw [if_pos (by rfl)]
      refine allocB rfl ?_
      intro B8 w8 bB8 cB8 XB8 LB8 RB8
      have z35 := XB8.size
      replace E := E.trans XB8
      replace LB5 := LB5.ext XB8
      replace LB7 := LB7.ext XB8
      replace RB7 := RB7.ext XB8
      replace HB := HB.ext XB8
      replace HX := HX.ext XB8
      clear hHeld
      have hHeld := LB5
      refine hK.out _ _ hHeld (fun _ => ?_)
      clear hK K
      try simp only [Act.put, List.setIfInBounds_toArray, List.set_cons_zero, List.set_cons_succ]
      refine JD5_4 w8 B7 B8 xv ?_
      exact ⟨by omega, ⟨by omega, by omega⟩, ⟨by omega, by omega⟩, by omega, E, LB5, LB7, LB8, RB7, RB8, (HB.mono (fun i hi h => by ((try dsimp only [New] at h); omega))), (HX.mono (fun i hi h => by ((try dsimp only [New] at h); omega)))⟩
  · intro wD5_4 B7 B8 xv hJ
    obtain ⟨z36, ⟨bB7, cB7⟩, ⟨bB8, cB8⟩, nB7B8, E, LB5, LB7, LB8, RB7, RB8, HB, HX⟩ := hJ
    try dsimp only
    have hHeld := LB5
    refine wpAnyH_ready (rs := [7]) (by kernel_rfl) (by simp) ?_
    refine AllReadyH.cons (o := bsums_5_7) rfl (fun K hK => ?_) (AllReadyH.nil)
    dsimp only [bsums_5_7]
    go_simp
    refine (C2 v _ HB.is).mono ?_
    rintro e w28 ⟨yv, rfl, hq, x⟩
    have HY := hq.now
    clear hq
    have z37 := x.size
    replace E := E.trans x
    replace LB5 := LB5.ext x
    replace LB7 := LB7.ext x
    replace LB8 := LB8.ext x
    replace RB7 := RB7.ext x
    replace RB8 := RB8.ext x
    replace HB := HB.ext x
    replace HX := HX.ext x
    clear x
    clear hHeld
    have hHeld := LB5
    refine hK.out _ _ hHeld (fun _ => ?_)
    clear hK K
    try simp only [Act.put, List.setIfInBounds_toArray, List.set_cons_zero, List.set_cons_succ]
    refine JD5_1 w28 B7 B8 xv yv ?_
    exact ⟨by omega, ⟨by omega, by omega⟩, ⟨by omega, by omega⟩, by omega, E, LB5, LB7, LB8, RB7, RB8, (HB.mono (fun i hi h => by ((try dsimp only [New] at h); omega))), (HX.mono (fun i hi h => by ((try dsimp only [New] at h); omega))), (HY.mono (fun i hi h => by ((try dsimp only [New] at h); omega)))⟩
  · intro wD5_3 B8 xv yv hJ
    obtain ⟨z38, ⟨bB8, cB8⟩, E, LB5, LB8, RB8, HB, HX, HY⟩ := hJ
    try dsimp only
    have hHeld := LB5
    refine wpAnyH_ready (rs := [8]) (by kernel_rfl) (by simp) ?_
    refine AllReadyH.cons (o := bsums_5_8) rfl (fun K hK => ?_) (AllReadyH.nil)
    dsimp only [bsums_5_8]
    rw [if_pos (by rfl)]
    refine allocB rfl ?_
    intro B7 w7 bB7 cB7 XB7 LB7 RB7
    have z39 := XB7.size
    replace E := E.trans XB7
    replace LB5 := LB5.ext XB7
    replace LB8 := LB8.ext XB7
    replace RB8 := RB8.ext XB7
    replace HB := HB.ext XB7
    replace HX := HX.ext XB7
    replace HY := HY.ext XB7
    clear hHeld
    have hHeld := LB5
    refine hK.out _ _ hHeld (fun _ => ?_)
    clear hK K
    try simp only [Act.put, List.setIfInBounds_toArray, List.set_cons_zero, List.set_cons_succ]
    refine JD5_1 w7 B7 B8 xv yv ?_
    exact ⟨by omega, ⟨by omega, by omega⟩, ⟨by omega, by omega⟩, by omega, E, LB5, LB7, LB8, RB7, RB8, (HB.mono (fun i hi h => by ((try dsimp only [New] at h); omega))), (HX.mono (fun i hi h => by ((try dsimp only [New] at h); omega))), (HY.mono (fun i hi h => by ((try dsimp only [New] at h); omega)))⟩
  · intro wD5_2 B7 xv yv hJ
    obtain ⟨z40, ⟨bB7, cB7⟩, E, LB5, LB7, RB7, HB, HX, HY⟩ := hJ
    try dsimp only
    have hHeld := LB5
    refine wpAnyH_ready (rs := [9]) (by kernel_rfl) (by simp) ?_
    refine AllReadyH.cons (o := bsums_5_9) rfl (fun K hK => ?_) (AllReadyH.nil)
    dsimp only [bsums_5_9]
    rw [if_pos (by rfl)]
    refine allocB rfl ?_
    intro B8 w8 bB8 cB8 XB8 LB8 RB8
    have z41 := XB8.size
    replace E := E.trans XB8
    replace LB5 := LB5.ext XB8
    replace LB7 := LB7.ext XB8
    replace RB7 := RB7.ext XB8
    replace HB := HB.ext XB8
    replace HX := HX.ext XB8
    replace HY := HY.ext XB8
    clear hHeld
    have hHeld := LB5
    refine hK.out _ _ hHeld (fun _ => ?_)
    clear hK K
    try simp only [Act.put, List.setIfInBounds_toArray, List.set_cons_zero, List.set_cons_succ]
    refine JD5_1 w8 B7 B8 xv yv ?_
    exact ⟨by omega, ⟨by omega, by omega⟩, ⟨by omega, by omega⟩, by omega, E, LB5, LB7, LB8, RB7, RB8, (HB.mono (fun i hi h => by ((try dsimp only [New] at h); omega))), (HX.mono (fun i hi h => by ((try dsimp only [New] at h); omega))), (HY.mono (fun i hi h => by ((try dsimp only [New] at h); omega)))⟩
  · intro wD5_1 B7 B8 xv yv hJ
    obtain ⟨z42, ⟨bB7, cB7⟩, ⟨bB8, cB8⟩, nB7B8, E, LB5, LB7, LB8, RB7, RB8, HB, HX, HY⟩ := hJ
    try dsimp only
    have hHeld := LB5
    refine wpAnyH_ready (rs := [10]) (by kernel_rfl) (by simp) ?_
    refine AllReadyH.cons (o := bsums_5_10) rfl (fun K hK => ?_) (AllReadyH.nil)
    dsimp only [bsums_5_10]
    rw [if_pos (by rfl)]
    have hRl := (RB7).lt (Nat.zero_lt_succ _)
    refine storeB (by rfl) (by rfl) (v := xv) (by rfl) RB7 HX.is.flat ?_
    clear LB7
    intro s43 G43 LB7 RQ
    have z44 := G43.size
    replace E := grown_ext E G43 (by omega)
    replace LB5 := LB5.grown G43 (by omega)
    replace LB8 := LB8.grown G43 (by omega)
    replace RB8 := RB8.grown G43 (by omega)
    replace HB := HB.grown G43 (by first | omega | (dsimp only [New]; omega))
    replace HX := HX.grown G43 (by first | omega | (dsimp only [New]; omega))
    replace HY := HY.grown G43 (by first | omega | (dsimp only [New]; omega))
    clear RB7
    have RB7 := RQ
    clear RQ hRl G43
    clear hHeld
    have hHeld := LB5
    refine hK.out _ _ hHeld (fun _ => ?_)
    clear hK K
    try simp only [Act.put]
    refine wpAnyH_ready (rs := [11]) (by kernel_rfl) (by simp) ?_
    refine AllReadyH.cons (o := bsums_5_11) rfl (fun K hK => ?_) (AllReadyH.nil)
    dsimp only [bsums_5_11]
    rw [if_pos (by rfl)]
    have hRl := (RB8).lt (Nat.zero_lt_succ _)
    refine storeB (by rfl) (by rfl) (v := yv) (by rfl) RB8 HY.is.flat ?_
    clear LB8
    intro s45 G45 LB8 RQ
    have z46 := G45.size
    replace E := grown_ext E G45 (by omega)
    replace LB5 := LB5.grown G45 (by omega)
    replace LB7 := LB7.grown G45 (by omega)
    replace RB7 := RB7.grown G45 (by omega)
    replace HB := HB.grown G45 (by first | omega | (dsimp only [New]; omega))
    replace HX := HX.grown G45 (by first | omega | (dsimp only [New]; omega))
    replace HY := HY.grown G45 (by first | omega | (dsimp only [New]; omega))
    clear RB8
    have RB8 := RQ
    clear RQ hRl G45
    clear hHeld
    have hHeld := LB5
    refine hK.out _ _ hHeld (fun _ => ?_)
    clear hK K
    try simp only [Act.put]
    refine wpAnyH_done (by kernel_rfl) ?_ _
    refine JD5_0 s45 B7 B8 xv yv ?_
    exact ⟨by omega, ⟨by omega, by omega⟩, ⟨by omega, by omega⟩, by omega, E, LB5, LB7, LB8, (HB.mono (fun i hi h => by ((try dsimp only [New] at h); omega))), (HX.mono (fun i hi h => by ((try dsimp only [New] at h); omega))), (HY.mono (fun i hi h => by ((try dsimp only [New] at h); omega)))⟩
  · intro wD5_0 B7 B8 xv yv hJ
    obtain ⟨z47, ⟨bB7, cB7⟩, ⟨bB8, cB8⟩, nB7B8, E, LB5, LB7, LB8, HB, HX, HY⟩ := hJ
    try dsimp only
    go_wp2_with fail
    try simp only [Act.put, List.setIfInBounds_toArray, List.set_cons_zero, List.set_cons_succ]
    apply joinK0 (F := fun (wS6 : World) => wD5_0.heap.size ≤ wS6.heap.size ∧ Ext w wS6 ∧ Lay 2 wS6 B5 v ∧ Lay 2 wS6 B7 xv ∧ Lay 2 wS6 B8 yv ∧ BitS wS6 v L (fun i => i < wS6.heap.size) ∧ BitS wS6 xv X (fun i => i < wS6.heap.size) ∧ BitS wS6 yv Y (fun i => i < wS6.heap.size))
    · intro J
      refine J wD5_0 ?_
      exact ⟨Nat.le_refl _, E, LB5, LB7, LB8, (HB.mono (fun i hi h => by ((try dsimp only [New] at h); omega))), (HX.mono (fun i hi h => by ((try dsimp only [New] at h); omega))), (HY.mono (fun i hi h => by ((try dsimp only [New] at h); omega)))⟩
    intro wS6 hJS
    clear E LB5 LB7 LB8 HB HX HY
    refine wp_region_held_drew (S := (fun w' => Lay 2 w' B5 v ∧ Lay 2 w' B7 xv ∧ Lay 2 w' B8 yv)) (by kernel_rfl) (by obtain ⟨z50, E, LB5, LB7, LB8, HB, HX, HY⟩ := hJS; exact ⟨LB5, LB7, LB8⟩) (fun hH0 => ?_)
    apply joinK0 (F := fun (wD6_0 : World) => wS6.heap.size ≤ wD6_0.heap.size ∧ Ext w wD6_0 ∧ Lay 2 wD6_0 B5 v ∧ Lay 2 wD6_0 B7 xv ∧ Lay 2 wD6_0 B8 yv)
    intro JD6_0
    · have hJQ := hJS
      obtain ⟨z50, E, LB5, LB7, LB8, HB, HX, HY⟩ := hJQ
      have hq51 : wS6.heap.size ≤ wS6.drew.heap.size := Nat.le_refl _
      have z52 := (Ext.refl wS6).drew.size
      replace E := E.trans (Ext.refl wS6).drew
      replace LB5 := LB5.ext (Ext.refl wS6).drew
      replace LB7 := LB7.ext (Ext.refl wS6).drew
      replace LB8 := LB8.ext (Ext.refl wS6).drew
      replace HB := HB.ext (Ext.refl wS6).drew
      replace HX := HX.ext (Ext.refl wS6).drew
      replace HY := HY.ext (Ext.refl wS6).drew
      have hHeld := And.intro LB5 (And.intro LB7 (LB8))
      refine wpAnyH_take (i := 0) (oi := { dst := some 29, op := Go.Op.load 26 (Go.Operand.tmp 7), type := 26, pos := "law.go:105", after := #[], guard := none }) (v := xv) rfl (by kernel_rfl) (by kernel_rfl) (by kernel_rfl) (fun _ _ _ h => h) (yieldB (by rfl) rfl rfl fun w' hx => hx.2.1) hHeld ?_
      try simp only [Act.put, List.setIfInBounds_toArray, List.set_cons_zero, List.set_cons_succ]
      refine wpAnyH_take (i := 2) (oi := { dst := some 31, op := Go.Op.load 26 (Go.Operand.tmp 5), type := 26, pos := "law.go:105", after := #[], guard := none }) (v := v) rfl (by kernel_rfl) (by kernel_rfl) (by kernel_rfl) (fun _ _ _ h => h) (yieldB (by rfl) rfl rfl fun w' hx => hx.1) hHeld ?_
      try simp only [Act.put, List.setIfInBounds_toArray, List.set_cons_zero, List.set_cons_succ]
      refine wpAnyH_take (i := 3) (oi := { dst := some 32, op := Go.Op.move (Go.Operand.tmp 6), type := 3, pos := "law.go:105", after := #[], guard := none }) (v := ?v55) rfl (by kernel_rfl) (by kernel_rfl) (by kernel_rfl) (fun _ _ _ h => h) (Or.inl ⟨by rfl, ?hy55⟩) hHeld ?rest55
      case hy55 => (intro w hSw; (try dsimp only at hSw); go_simp; (first | done | with_reducible rfl))
      try simp only [Act.put, List.setIfInBounds_toArray, List.set_cons_zero, List.set_cons_succ]
      refine wpAnyH_ready (rs := [1]) (by kernel_rfl) (by simp) ?_
      refine AllReadyH.cons (o := bsums_6_1) rfl (fun K hK => ?_) (AllReadyH.nil)
      dsimp only [bsums_6_1]
      go_simp
      refine (cX xv _ HX.is).mono ?_
      rintro e w30 ⟨rfl, x⟩
      have z56 := x.size
      replace E := E.trans x
      replace LB5 := LB5.ext x
      replace LB7 := LB7.ext x
      replace LB8 := LB8.ext x
      replace HB := HB.ext x
      replace HX := HX.ext x
      replace HY := HY.ext x
      clear x
      clear hHeld
      have hHeld := And.intro LB5 (And.intro LB7 (LB8))
      refine hK.out _ _ hHeld (fun _ => ?_)
      clear hK K
      try simp only [Act.put, List.setIfInBounds_toArray, List.set_cons_zero, List.set_cons_succ]
      refine wpAnyH_ready (rs := [4]) (by kernel_rfl) (by simp) ?_
      refine AllReadyH.cons (o := bsums_6_4) rfl (fun K hK => ?_) (AllReadyH.nil)
      dsimp only [bsums_6_4]
      go_simp
      refine (cR v _ HB.is).mono ?_
      rintro e w33 ⟨rfl, x⟩
      have z57 := x.size
      replace E := E.trans x
      replace LB5 := LB5.ext x
      replace LB7 := LB7.ext x
      replace LB8 := LB8.ext x
      replace HB := HB.ext x
      replace HX := HX.ext x
      replace HY := HY.ext x
      clear x
      clear hHeld
      have hHeld := And.intro LB5 (And.intro LB7 (LB8))
      refine hK.out _ _ hHeld (fun _ => ?_)
      clear hK K
      try simp only [Act.put, List.setIfInBounds_toArray, List.set_cons_zero, List.set_cons_succ]
      refine wpAnyH_take (i := 5) (oi := { dst := some 34, op := Go.Op.binOp Go.BinOp.eql 3 (Go.Operand.tmp 30) (Go.Operand.tmp 33) 3, type := 4, pos := "law.go:105", after := #[{ on := 1, ground := Go.Ground.data }, { on := 4, ground := Go.Ground.data }], guard := none }) (v := .bool true) rfl (by kernel_rfl) (by kernel_rfl) (by kernel_rfl) (fun _ _ _ h => h) (Or.inl ⟨by rfl, ?hy58⟩) hHeld ?rest58
      case hy58 => (intro w hSw; (try dsimp only at hSw); go_simp; try (first | done | omega | (simp; done) | (simp; omega)); (first | done | with_reducible rfl))
      try simp only [Act.put, List.setIfInBounds_toArray, List.set_cons_zero, List.set_cons_succ]
      refine wpAnyH_take (i := 6) (oi := { dst := some 35, op := Go.Op.move (Go.Operand.tmp 34), type := 4, pos := "law.go:105", after := #[{ on := 5, ground := Go.Ground.data }, { on := 4, ground := Go.Ground.chain }], guard := none }) (v := ?v59) rfl (by kernel_rfl) (by kernel_rfl) (by kernel_rfl) (fun _ _ _ h => h) (Or.inl ⟨by rfl, ?hy59⟩) hHeld ?rest59
      case hy59 => (intro w hSw; (try dsimp only at hSw); go_simp; (first | done | with_reducible rfl))
      try simp only [Act.put, List.setIfInBounds_toArray, List.set_cons_zero, List.set_cons_succ]
      refine wpAnyH_take (i := 7) (oi := { dst := some 36, op := Go.Op.load 26 (Go.Operand.tmp 7), type := 26, pos := "law.go:105", after := #[{ on := 6, ground := Go.Ground.guard }], guard := some (6, true) }) (v := xv) rfl (by kernel_rfl) (by kernel_rfl) (by kernel_rfl) (fun _ _ _ h => h) (yieldB (by rfl) rfl rfl fun w' hx => hx.2.1) hHeld ?_
      try simp only [Act.put, List.setIfInBounds_toArray, List.set_cons_zero, List.set_cons_succ]
      refine wpAnyH_take (i := 9) (oi := { dst := some 38, op := Go.Op.load 26 (Go.Operand.tmp 8), type := 26, pos := "law.go:105", after := #[{ on := 6, ground := Go.Ground.guard }], guard := some (6, true) }) (v := yv) rfl (by kernel_rfl) (by kernel_rfl) (by kernel_rfl) (fun _ _ _ h => h) (yieldB (by rfl) rfl rfl fun w' hx => hx.2.2) hHeld ?_
      try simp only [Act.put, List.setIfInBounds_toArray, List.set_cons_zero, List.set_cons_succ]
      refine wpAnyH_take (i := 12) (oi := { dst := some 41, op := Go.Op.load 26 (Go.Operand.tmp 5), type := 26, pos := "law.go:105", after := #[{ on := 6, ground := Go.Ground.guard }], guard := some (6, true) }) (v := v) rfl (by kernel_rfl) (by kernel_rfl) (by kernel_rfl) (fun _ _ _ h => h) (yieldB (by rfl) rfl rfl fun w' hx => hx.1) hHeld ?_
      try simp only [Act.put, List.setIfInBounds_toArray, List.set_cons_zero, List.set_cons_succ]
      refine wpAnyH_ready (rs := [8]) (by kernel_rfl) (by simp) ?_
      refine AllReadyH.cons (o := bsums_6_8) rfl (fun K hK => ?_) (AllReadyH.nil)
      dsimp only [bsums_6_8]
      go_simp
      refine (cX xv _ HX.is).mono ?_
      rintro e w37 ⟨rfl, x⟩
      have z63 := x.size
      replace E := E.trans x
      replace LB5 := LB5.ext x
      replace LB7 := LB7.ext x
      replace LB8 := LB8.ext x
      replace HB := HB.ext x
      replace HX := HX.ext x
      replace HY := HY.ext x
      clear x
      clear hHeld
      have hHeld := And.intro LB5 (And.intro LB7 (LB8))
      refine hK.out _ _ hHeld (fun _ => ?_)
      clear hK K
      try simp only [Act.put, List.setIfInBounds_toArray, List.set_cons_zero, List.set_cons_succ]
      refine wpAnyH_ready (rs := [10]) (by kernel_rfl) (by simp) ?_
      refine AllReadyH.cons (o := bsums_6_10) rfl (fun K hK => ?_) (AllReadyH.nil)
      dsimp only [bsums_6_10]
      go_simp
      refine (cY yv _ HY.is).mono ?_
      rintro e w39 ⟨rfl, x⟩
      have z64 := x.size
      replace E := E.trans x
      replace LB5 := LB5.ext x
      replace LB7 := LB7.ext x
      replace LB8 := LB8.ext x
      replace HB := HB.ext x
      replace HX := HX.ext x
      replace HY := HY.ext x
      clear x
      clear hHeld
      have hHeld := And.intro LB5 (And.intro LB7 (LB8))
      refine hK.out _ _ hHeld (fun _ => ?_)
      clear hK K
      try simp only [Act.put, List.setIfInBounds_toArray, List.set_cons_zero, List.set_cons_succ]
      refine wpAnyH_take (i := 11) (oi := { dst := some 40, op := Go.Op.binOp Go.BinOp.add 3 (Go.Operand.tmp 37) (Go.Operand.tmp 39) 3, type := 3, pos := "law.go:105", after := #[{ on := 8, ground := Go.Ground.data }, { on := 10, ground := Go.Ground.data }, { on := 6, ground := Go.Ground.guard }], guard := some (6, true) }) (v := ?v65) rfl (by kernel_rfl) (by kernel_rfl) (by kernel_rfl) (fun _ _ _ h => h) (Or.inl ⟨by rfl, ?hy65⟩) hHeld ?rest65
      case hy65 => (intro w hSw; (try dsimp only at hSw); go_simp; (first | done | with_reducible rfl))
      try simp only [Act.put, List.setIfInBounds_toArray, List.set_cons_zero, List.set_cons_succ]
      refine wpAnyH_ready (rs := [13]) (by kernel_rfl) (by simp) ?_
      refine AllReadyH.cons (o := bsums_6_13) rfl (fun K hK => ?_) (AllReadyH.nil)
      dsimp only [bsums_6_13]
      go_simp
      refine (cL v _ HB.is).mono ?_
      rintro e w42 ⟨rfl, x⟩
      have z66 := x.size
      replace E := E.trans x
      replace LB5 := LB5.ext x
      replace LB7 := LB7.ext x
      replace LB8 := LB8.ext x
      replace HB := HB.ext x
      replace HX := HX.ext x
      replace HY := HY.ext x
      clear x
      clear hHeld
      have hHeld := And.intro LB5 (And.intro LB7 (LB8))
      refine hK.out _ _ hHeld (fun _ => ?_)
      clear hK K
      try simp only [Act.put, List.setIfInBounds_toArray, List.set_cons_zero, List.set_cons_succ]
      refine wpAnyH_take (i := 14) (oi := { dst := some 43, op := Go.Op.binOp Go.BinOp.eql 3 (Go.Operand.tmp 40) (Go.Operand.tmp 42) 3, type := 4, pos := "law.go:105", after := #[{ on := 11, ground := Go.Ground.data }, { on := 13, ground := Go.Ground.data }, { on := 6, ground := Go.Ground.guard }], guard := some (6, true) }) (v := .bool true) rfl (by kernel_rfl) (by kernel_rfl) (by kernel_rfl) (fun _ _ _ h => h) (Or.inl ⟨by rfl, ?hy67⟩) hHeld ?rest67
      case hy67 => (intro w hSw; (try dsimp only at hSw); go_simp; try (first | done | (simp; done) | (rw [W1]; done) | (rw [W1]; simp; done)); (first | done | with_reducible rfl))
      try simp only [Act.put, List.setIfInBounds_toArray, List.set_cons_zero, List.set_cons_succ]
      refine wpAnyH_take (i := 15) (oi := { dst := some 44, op := Go.Op.pick (Go.Operand.tmp 35) (Go.Operand.tmp 43) (Go.Operand.const (Go.Value.bool false)), type := 4, pos := "law.go:105", after := #[{ on := 6, ground := Go.Ground.data }, { on := 14, ground := Go.Ground.data }], guard := none }) (v := ?v68) rfl (by kernel_rfl) (by kernel_rfl) (by kernel_rfl) (fun _ _ _ h => h) (Or.inl ⟨by rfl, ?hy68⟩) hHeld ?rest68
      case hy68 => (intro w hSw; (try dsimp only at hSw); go_simp; (first | done | with_reducible rfl))
      try simp only [Act.put, List.setIfInBounds_toArray, List.set_cons_zero, List.set_cons_succ]
      refine wpAnyH_take (i := 16) (oi := { dst := some 45, op := Go.Op.move (Go.Operand.tmp 44), type := 4, pos := "law.go:105", after := #[{ on := 15, ground := Go.Ground.data }, { on := 13, ground := Go.Ground.chain }], guard := none }) (v := ?v69) rfl (by kernel_rfl) (by kernel_rfl) (by kernel_rfl) (fun _ _ _ h => h) (Or.inl ⟨by rfl, ?hy69⟩) hHeld ?rest69
      case hy69 => (intro w hSw; (try dsimp only at hSw); go_simp; (first | done | with_reducible rfl))
      try simp only [Act.put, List.setIfInBounds_toArray, List.set_cons_zero, List.set_cons_succ]
      refine wpAnyH_take (i := 17) (oi := { dst := some 46, op := Go.Op.load 26 (Go.Operand.tmp 7), type := 26, pos := "law.go:105", after := #[{ on := 16, ground := Go.Ground.guard }], guard := some (16, true) }) (v := xv) rfl (by kernel_rfl) (by kernel_rfl) (by kernel_rfl) (fun _ _ _ h => h) (yieldB (by rfl) rfl rfl fun w' hx => hx.2.1) hHeld ?_
      try simp only [Act.put, List.setIfInBounds_toArray, List.set_cons_zero, List.set_cons_succ]
      refine wpAnyH_ready (rs := [18]) (by kernel_rfl) (by simp) ?_
      refine AllReadyH.cons (o := bsums_6_18) rfl (fun K hK => ?_) (AllReadyH.nil)
      dsimp only [bsums_6_18]
      go_simp
      refine (cX xv _ HX.is).mono ?_
      rintro e w47 ⟨rfl, x⟩
      have z71 := x.size
      replace E := E.trans x
      replace LB5 := LB5.ext x
      replace LB7 := LB7.ext x
      replace LB8 := LB8.ext x
      replace HB := HB.ext x
      replace HX := HX.ext x
      replace HY := HY.ext x
      clear x
      clear hHeld
      have hHeld := And.intro LB5 (And.intro LB7 (LB8))
      refine hK.out _ _ hHeld (fun _ => ?_)
      clear hK K
      try simp only [Act.put, List.setIfInBounds_toArray, List.set_cons_zero, List.set_cons_succ]
      refine wpAnyH_take (i := 19) (oi := { dst := some 48, op := Go.Op.binOp Go.BinOp.eql 3 (Go.Operand.tmp 47) (Go.Operand.const (Go.Value.int Go.IntKind.i64 0)) 3, type := 4, pos := "law.go:105", after := #[{ on := 18, ground := Go.Ground.data }, { on := 16, ground := Go.Ground.guard }], guard := some (16, true) }) (v := .bool false) rfl (by kernel_rfl) (by kernel_rfl) (by kernel_rfl) (fun _ _ _ h => h) (Or.inl ⟨by rfl, ?hy72⟩) hHeld ?rest72
      case hy72 => (intro w hSw; (try dsimp only at hSw); go_simp; try (first | done | omega | (simp; done) | (simp; omega)); (first | done | with_reducible rfl))
      try simp only [Act.put, List.setIfInBounds_toArray, List.set_cons_zero, List.set_cons_succ]
      refine wpAnyH_take (i := 20) (oi := { dst := some 49, op := Go.Op.move (Go.Operand.tmp 48), type := 4, pos := "law.go:105", after := #[{ on := 19, ground := Go.Ground.data }, { on := 18, ground := Go.Ground.chain }, { on := 16, ground := Go.Ground.guard }], guard := some (16, true) }) (v := ?v73) rfl (by kernel_rfl) (by kernel_rfl) (by kernel_rfl) (fun _ _ _ h => h) (Or.inl ⟨by rfl, ?hy73⟩) hHeld ?rest73
      case hy73 => (intro w hSw; (try dsimp only at hSw); go_simp; (first | done | with_reducible rfl))
      try simp only [Act.put, List.setIfInBounds_toArray, List.set_cons_zero, List.set_cons_succ]
      refine wpAnyH_take (i := 21) (oi := { dst := some 50, op := Go.Op.load 26 (Go.Operand.tmp 7), type := 26, pos := "law.go:105", after := #[{ on := 20, ground := Go.Ground.guard }], guard := some (20, false) }) (v := xv) rfl (by kernel_rfl) (by kernel_rfl) (by kernel_rfl) (fun _ _ _ h => h) (yieldB (by rfl) rfl rfl fun w' hx => hx.2.1) hHeld ?_
      try simp only [Act.put, List.setIfInBounds_toArray, List.set_cons_zero, List.set_cons_succ]
      refine wpAnyH_take (i := 23) (oi := { dst := some 52, op := Go.Op.load 26 (Go.Operand.tmp 5), type := 26, pos := "law.go:105", after := #[{ on := 20, ground := Go.Ground.guard }], guard := some (20, false) }) (v := v) rfl (by kernel_rfl) (by kernel_rfl) (by kernel_rfl) (fun _ _ _ h => h) (yieldB (by rfl) rfl rfl fun w' hx => hx.1) hHeld ?_
      try simp only [Act.put, List.setIfInBounds_toArray, List.set_cons_zero, List.set_cons_succ]
      refine wpAnyH_ready (rs := [22]) (by kernel_rfl) (by simp) ?_
      refine AllReadyH.cons (o := bsums_6_22) rfl (fun K hK => ?_) (AllReadyH.nil)
      dsimp only [bsums_6_22]
      go_simp
      refine (gX xv _ E HX.is).mono ?_
      rintro e w51 ⟨rfl, x⟩
      have z76 := x.size
      replace E := E.trans x
      replace LB5 := LB5.ext x
      replace LB7 := LB7.ext x
      replace LB8 := LB8.ext x
      replace HB := HB.ext x
      replace HX := HX.ext x
      replace HY := HY.ext x
      clear x
      clear hHeld
      have hHeld := And.intro LB5 (And.intro LB7 (LB8))
      refine hK.out _ _ hHeld (fun _ => ?_)
      clear hK K
      try simp only [Act.put, List.setIfInBounds_toArray, List.set_cons_zero, List.set_cons_succ]
      refine wpAnyH_ready (rs := [24]) (by kernel_rfl) (by simp) ?_
      refine AllReadyH.cons (o := bsums_6_24) rfl (fun K hK => ?_) (AllReadyH.nil)
      dsimp only [bsums_6_24]
      go_simp
      refine (gL v _ E HB.is).mono ?_
      rintro e w53 ⟨rfl, x⟩
      have z77 := x.size
      replace E := E.trans x
      replace LB5 := LB5.ext x
      replace LB7 := LB7.ext x
      replace LB8 := LB8.ext x
      replace HB := HB.ext x
      replace HX := HX.ext x
      replace HY := HY.ext x
      clear x
      clear hHeld
      have hHeld := And.intro LB5 (And.intro LB7 (LB8))
      refine hK.out _ _ hHeld (fun _ => ?_)
      clear hK K
      try simp only [Act.put, List.setIfInBounds_toArray, List.set_cons_zero, List.set_cons_succ]
      refine wpAnyH_take (i := 25) (oi := { dst := some 54, op := Go.Op.binOp Go.BinOp.eql 3 (Go.Operand.tmp 51) (Go.Operand.tmp 53) 3, type := 4, pos := "law.go:105", after := #[{ on := 22, ground := Go.Ground.data }, { on := 24, ground := Go.Ground.data }, { on := 20, ground := Go.Ground.guard }], guard := some (20, false) }) (v := .bool true) rfl (by kernel_rfl) (by kernel_rfl) (by kernel_rfl) (fun _ _ _ h => h) (Or.inl ⟨by rfl, ?hy78⟩) hHeld ?rest78
      case hy78 => (intro w hSw; (try dsimp only at hSw); go_simp; try (first | done | omega | (simp; done) | (simp; omega)); (first | done | with_reducible rfl))
      try simp only [Act.put, List.setIfInBounds_toArray, List.set_cons_zero, List.set_cons_succ]
      refine wpAnyH_take (i := 26) (oi := { dst := some 55, op := Go.Op.pick (Go.Operand.tmp 49) (Go.Operand.const (Go.Value.bool true)) (Go.Operand.tmp 54), type := 4, pos := "law.go:105", after := #[{ on := 20, ground := Go.Ground.data }, { on := 25, ground := Go.Ground.data }, { on := 16, ground := Go.Ground.guard }], guard := some (16, true) }) (v := ?v79) rfl (by kernel_rfl) (by kernel_rfl) (by kernel_rfl) (fun _ _ _ h => h) (Or.inl ⟨by rfl, ?hy79⟩) hHeld ?rest79
      case hy79 => (intro w hSw; (try dsimp only at hSw); go_simp; (first | done | with_reducible rfl))
      try simp only [Act.put, List.setIfInBounds_toArray, List.set_cons_zero, List.set_cons_succ]
      refine wpAnyH_take (i := 27) (oi := { dst := some 56, op := Go.Op.pick (Go.Operand.tmp 45) (Go.Operand.tmp 55) (Go.Operand.const (Go.Value.bool false)), type := 4, pos := "law.go:105", after := #[{ on := 16, ground := Go.Ground.data }, { on := 26, ground := Go.Ground.data }], guard := none }) (v := ?v80) rfl (by kernel_rfl) (by kernel_rfl) (by kernel_rfl) (fun _ _ _ h => h) (Or.inl ⟨by rfl, ?hy80⟩) hHeld ?rest80
      case hy80 => (intro w hSw; (try dsimp only at hSw); go_simp; (first | done | with_reducible rfl))
      try simp only [Act.put, List.setIfInBounds_toArray, List.set_cons_zero, List.set_cons_succ]
      refine wpAnyH_take (i := 28) (oi := { dst := some 57, op := Go.Op.move (Go.Operand.tmp 56), type := 4, pos := "law.go:105", after := #[{ on := 27, ground := Go.Ground.data }, { on := 24, ground := Go.Ground.chain }], guard := none }) (v := ?v81) rfl (by kernel_rfl) (by kernel_rfl) (by kernel_rfl) (fun _ _ _ h => h) (Or.inl ⟨by rfl, ?hy81⟩) hHeld ?rest81
      case hy81 => (intro w hSw; (try dsimp only at hSw); go_simp; (first | done | with_reducible rfl))
      try simp only [Act.put, List.setIfInBounds_toArray, List.set_cons_zero, List.set_cons_succ]
      refine wpAnyH_take (i := 29) (oi := { dst := some 58, op := Go.Op.load 26 (Go.Operand.tmp 7), type := 26, pos := "law.go:105", after := #[{ on := 28, ground := Go.Ground.guard }], guard := some (28, true) }) (v := xv) rfl (by kernel_rfl) (by kernel_rfl) (by kernel_rfl) (fun _ _ _ h => h) (yieldB (by rfl) rfl rfl fun w' hx => hx.2.1) hHeld ?_
      try simp only [Act.put, List.setIfInBounds_toArray, List.set_cons_zero, List.set_cons_succ]
      refine wpAnyH_ready (rs := [30]) (by kernel_rfl) (by simp) ?_
      refine AllReadyH.cons (o := bsums_6_30) rfl (fun K hK => ?_) (AllReadyH.nil)
      dsimp only [bsums_6_30]
      go_simp
      refine (cX xv _ HX.is).mono ?_
      rintro e w59 ⟨rfl, x⟩
      have z83 := x.size
      replace E := E.trans x
      replace LB5 := LB5.ext x
      replace LB7 := LB7.ext x
      replace LB8 := LB8.ext x
      replace HB := HB.ext x
      replace HX := HX.ext x
      replace HY := HY.ext x
      clear x
      clear hHeld
      have hHeld := And.intro LB5 (And.intro LB7 (LB8))
      refine hK.out _ _ hHeld (fun _ => ?_)
      clear hK K
      try simp only [Act.put, List.setIfInBounds_toArray, List.set_cons_zero, List.set_cons_succ]
      refine wpAnyH_take (i := 31) (oi := { dst := some 60, op := Go.Op.binOp Go.BinOp.gtr 3 (Go.Operand.tmp 59) (Go.Operand.const (Go.Value.int Go.IntKind.i64 0)) 3, type := 4, pos := "law.go:105", after := #[{ on := 30, ground := Go.Ground.data }, { on := 28, ground := Go.Ground.guard }], guard := some (28, true) }) (v := .bool true) rfl (by kernel_rfl) (by kernel_rfl) (by kernel_rfl) (fun _ _ _ h => h) (Or.inl ⟨by rfl, ?hy84⟩) hHeld ?rest84
      case hy84 => (intro w hSw; (try dsimp only at hSw); go_simp; try (first | done | omega | (simp; done) | (simp; omega)); (first | done | with_reducible rfl))
      try simp only [Act.put, List.setIfInBounds_toArray, List.set_cons_zero, List.set_cons_succ]
      refine wpAnyH_take (i := 32) (oi := { dst := some 61, op := Go.Op.move (Go.Operand.tmp 60), type := 4, pos := "law.go:105", after := #[{ on := 31, ground := Go.Ground.data }, { on := 30, ground := Go.Ground.chain }, { on := 28, ground := Go.Ground.guard }], guard := some (28, true) }) (v := ?v85) rfl (by kernel_rfl) (by kernel_rfl) (by kernel_rfl) (fun _ _ _ h => h) (Or.inl ⟨by rfl, ?hy85⟩) hHeld ?rest85
      case hy85 => (intro w hSw; (try dsimp only at hSw); go_simp; (first | done | with_reducible rfl))
      try simp only [Act.put, List.setIfInBounds_toArray, List.set_cons_zero, List.set_cons_succ]
      refine wpAnyH_take (i := 33) (oi := { dst := some 62, op := Go.Op.load 26 (Go.Operand.tmp 8), type := 26, pos := "law.go:105", after := #[{ on := 32, ground := Go.Ground.guard }], guard := some (32, false) }) (v := undef) rfl (by kernel_rfl) (by kernel_rfl) (by kernel_rfl) (fun _ _ _ h => h) (Or.inr ⟨by rfl, rfl⟩) hHeld ?_
      try simp only [Act.put, List.setIfInBounds_toArray, List.set_cons_zero, List.set_cons_succ]
      refine wpAnyH_take (i := 34) (oi := { dst := some 63, op := Go.Op.call { callee := Go.Callee.value (Go.Operand.func 21), args := #[Go.Operand.tmp 62], argTypes := #[26] }, type := 3, pos := "law.go:105", after := #[{ on := 33, ground := Go.Ground.data }, { on := 32, ground := Go.Ground.chain }, { on := 32, ground := Go.Ground.guard }], guard := some (32, false) }) (v := undef) rfl (by kernel_rfl) (by kernel_rfl) (by kernel_rfl) (fun _ _ _ h => h) (Or.inr ⟨by rfl, rfl⟩) hHeld ?_
      try simp only [Act.put, List.setIfInBounds_toArray, List.set_cons_zero, List.set_cons_succ]
      refine wpAnyH_take (i := 35) (oi := { dst := some 64, op := Go.Op.move (Go.Operand.tmp 6), type := 3, pos := "law.go:105", after := #[{ on := 32, ground := Go.Ground.guard }], guard := some (32, false) }) (v := undef) rfl (by kernel_rfl) (by kernel_rfl) (by kernel_rfl) (fun _ _ _ h => h) (Or.inr ⟨by rfl, rfl⟩) hHeld ?_
      try simp only [Act.put, List.setIfInBounds_toArray, List.set_cons_zero, List.set_cons_succ]
      refine wpAnyH_take (i := 36) (oi := { dst := some 65, op := Go.Op.binOp Go.BinOp.add 3 (Go.Operand.tmp 63) (Go.Operand.tmp 64) 3, type := 3, pos := "law.go:105", after := #[{ on := 34, ground := Go.Ground.data }, { on := 35, ground := Go.Ground.data }, { on := 32, ground := Go.Ground.guard }], guard := some (32, false) }) (v := undef) rfl (by kernel_rfl) (by kernel_rfl) (by kernel_rfl) (fun _ _ _ h => h) (Or.inr ⟨by rfl, rfl⟩) hHeld ?_
      try simp only [Act.put, List.setIfInBounds_toArray, List.set_cons_zero, List.set_cons_succ]
      refine wpAnyH_take (i := 37) (oi := { dst := some 66, op := Go.Op.load 26 (Go.Operand.tmp 5), type := 26, pos := "law.go:105", after := #[{ on := 32, ground := Go.Ground.guard }], guard := some (32, false) }) (v := undef) rfl (by kernel_rfl) (by kernel_rfl) (by kernel_rfl) (fun _ _ _ h => h) (Or.inr ⟨by rfl, rfl⟩) hHeld ?_
      try simp only [Act.put, List.setIfInBounds_toArray, List.set_cons_zero, List.set_cons_succ]
      refine wpAnyH_take (i := 38) (oi := { dst := some 67, op := Go.Op.call { callee := Go.Callee.value (Go.Operand.func 21), args := #[Go.Operand.tmp 66], argTypes := #[26] }, type := 3, pos := "law.go:105", after := #[{ on := 37, ground := Go.Ground.data }, { on := 34, ground := Go.Ground.chain }, { on := 32, ground := Go.Ground.guard }], guard := some (32, false) }) (v := undef) rfl (by kernel_rfl) (by kernel_rfl) (by kernel_rfl) (fun _ _ _ h => h) (Or.inr ⟨by rfl, rfl⟩) hHeld ?_
      try simp only [Act.put, List.setIfInBounds_toArray, List.set_cons_zero, List.set_cons_succ]
      refine wpAnyH_take (i := 39) (oi := { dst := some 68, op := Go.Op.binOp Go.BinOp.eql 3 (Go.Operand.tmp 65) (Go.Operand.tmp 67) 3, type := 4, pos := "law.go:105", after := #[{ on := 36, ground := Go.Ground.data }, { on := 38, ground := Go.Ground.data }, { on := 32, ground := Go.Ground.guard }], guard := some (32, false) }) (v := undef) rfl (by kernel_rfl) (by kernel_rfl) (by kernel_rfl) (fun _ _ _ h => h) (Or.inr ⟨by rfl, rfl⟩) hHeld ?_
      try simp only [Act.put, List.setIfInBounds_toArray, List.set_cons_zero, List.set_cons_succ]
      refine wpAnyH_take (i := 40) (oi := { dst := some 69, op := Go.Op.pick (Go.Operand.tmp 61) (Go.Operand.const (Go.Value.bool true)) (Go.Operand.tmp 68), type := 4, pos := "law.go:105", after := #[{ on := 32, ground := Go.Ground.data }, { on := 39, ground := Go.Ground.data }, { on := 28, ground := Go.Ground.guard }], guard := some (28, true) }) (v := ?v93) rfl (by kernel_rfl) (by kernel_rfl) (by kernel_rfl) (fun _ _ _ h => h) (Or.inl ⟨by rfl, ?hy93⟩) hHeld ?rest93
      case hy93 => (intro w hSw; (try dsimp only at hSw); go_simp; (first | done | with_reducible rfl))
      try simp only [Act.put, List.setIfInBounds_toArray, List.set_cons_zero, List.set_cons_succ]
      refine wpAnyH_take (i := 41) (oi := { dst := some 70, op := Go.Op.pick (Go.Operand.tmp 57) (Go.Operand.tmp 69) (Go.Operand.const (Go.Value.bool false)), type := 4, pos := "law.go:105", after := #[{ on := 28, ground := Go.Ground.data }, { on := 40, ground := Go.Ground.data }], guard := none }) (v := ?v94) rfl (by kernel_rfl) (by kernel_rfl) (by kernel_rfl) (fun _ _ _ h => h) (Or.inl ⟨by rfl, ?hy94⟩) hHeld ?rest94
      case hy94 => (intro w hSw; (try dsimp only at hSw); go_simp; (first | done | with_reducible rfl))
      try simp only [Act.put, List.setIfInBounds_toArray, List.set_cons_zero, List.set_cons_succ]
      refine wpAnyH_take (i := 42) (oi := { dst := some 71, op := Go.Op.move (Go.Operand.tmp 70), type := 4, pos := "law.go:105", after := #[{ on := 41, ground := Go.Ground.data }, { on := 38, ground := Go.Ground.chain }], guard := none }) (v := ?v95) rfl (by kernel_rfl) (by kernel_rfl) (by kernel_rfl) (fun _ _ _ h => h) (Or.inl ⟨by rfl, ?hy95⟩) hHeld ?rest95
      case hy95 => (intro w hSw; (try dsimp only at hSw); go_simp; (first | done | with_reducible rfl))
      try simp only [Act.put, List.setIfInBounds_toArray, List.set_cons_zero, List.set_cons_succ]
      refine wpAnyH_ready (rs := [43]) (by kernel_rfl) (by simp) ?_
      refine AllReadyH.cons (o := bsums_6_43) rfl (fun K hK => ?_) (AllReadyH.nil)
      dsimp only [bsums_6_43]
      go_simp
      refine (ht _ E).mono ?_
      rintro e w72 ⟨rfl, x⟩
      have z96 := x.size
      replace E := E.trans x
      replace LB5 := LB5.ext x
      replace LB7 := LB7.ext x
      replace LB8 := LB8.ext x
      replace HB := HB.ext x
      replace HX := HX.ext x
      replace HY := HY.ext x
      clear x
      clear hHeld
      have hHeld := And.intro LB5 (And.intro LB7 (LB8))
      refine hK.out _ _ hHeld (fun _ => ?_)
      clear hK K
      try simp only [Act.put, List.setIfInBounds_toArray, List.set_cons_zero, List.set_cons_succ]
      refine wpAnyH_take (i := 44) (oi := { dst := some 73, op := Go.Op.pick (Go.Operand.tmp 71) (Go.Operand.tmp 72) (Go.Operand.const (Go.Value.bool false)), type := 4, pos := "law.go:105", after := #[{ on := 42, ground := Go.Ground.data }, { on := 43, ground := Go.Ground.data }], guard := none }) (v := ?v97) rfl (by kernel_rfl) (by kernel_rfl) (by kernel_rfl) (fun _ _ _ h => h) (Or.inl ⟨by rfl, ?hy97⟩) hHeld ?rest97
      case hy97 => (intro w hSw; (try dsimp only at hSw); go_simp; (first | done | with_reducible rfl))
      try simp only [Act.put, List.setIfInBounds_toArray, List.set_cons_zero, List.set_cons_succ]
      refine wpAnyH_take (i := 45) (oi := { dst := some 4, op := Go.Op.assign (Go.Operand.tmp 73), type := 4, pos := "law.go:105", after := #[{ on := 44, ground := Go.Ground.data }, { on := 43, ground := Go.Ground.chain }, { on := 0, ground := Go.Ground.phase }, { on := 1, ground := Go.Ground.phase }, { on := 2, ground := Go.Ground.phase }, { on := 3, ground := Go.Ground.phase }, { on := 4, ground := Go.Ground.phase }, { on := 5, ground := Go.Ground.phase }, { on := 6, ground := Go.Ground.phase }, { on := 7, ground := Go.Ground.phase }, { on := 8, ground := Go.Ground.phase }, { on := 9, ground := Go.Ground.phase }, { on := 10, ground := Go.Ground.phase }, { on := 11, ground := Go.Ground.phase }, { on := 12, ground := Go.Ground.phase }, { on := 13, ground := Go.Ground.phase }, { on := 14, ground := Go.Ground.phase }, { on := 15, ground := Go.Ground.phase }, { on := 16, ground := Go.Ground.phase }, { on := 17, ground := Go.Ground.phase }, { on := 18, ground := Go.Ground.phase }, { on := 19, ground := Go.Ground.phase }, { on := 20, ground := Go.Ground.phase }, { on := 21, ground := Go.Ground.phase }, { on := 22, ground := Go.Ground.phase }, { on := 23, ground := Go.Ground.phase }, { on := 24, ground := Go.Ground.phase }, { on := 25, ground := Go.Ground.phase }, { on := 26, ground := Go.Ground.phase }, { on := 27, ground := Go.Ground.phase }, { on := 28, ground := Go.Ground.phase }, { on := 29, ground := Go.Ground.phase }, { on := 30, ground := Go.Ground.phase }, { on := 31, ground := Go.Ground.phase }, { on := 32, ground := Go.Ground.phase }, { on := 33, ground := Go.Ground.phase }, { on := 34, ground := Go.Ground.phase }, { on := 35, ground := Go.Ground.phase }, { on := 36, ground := Go.Ground.phase }, { on := 37, ground := Go.Ground.phase }, { on := 38, ground := Go.Ground.phase }, { on := 39, ground := Go.Ground.phase }, { on := 40, ground := Go.Ground.phase }, { on := 41, ground := Go.Ground.phase }, { on := 42, ground := Go.Ground.phase }, { on := 43, ground := Go.Ground.phase }, { on := 44, ground := Go.Ground.phase }], guard := none }) (v := ?v98) rfl (by kernel_rfl) (by kernel_rfl) (by kernel_rfl) (fun _ _ _ h => h) (Or.inl ⟨by rfl, ?hy98⟩) hHeld ?rest98
      case hy98 => (intro w hSw; (try dsimp only at hSw); go_simp; (first | done | with_reducible rfl))
      try simp only [Act.put, List.setIfInBounds_toArray, List.set_cons_zero, List.set_cons_succ]
      refine wpAnyH_done (by kernel_rfl) ?_ _
      refine JD6_0 w72 ?_
      exact ⟨by omega, E, LB5, LB7, LB8⟩
    · intro wD6_0 hJ
      obtain ⟨z99, E, LB5, LB7, LB8⟩ := hJ
      try dsimp only
      go_wp2_with fail
      go_ret
      exact ⟨rfl, E⟩
theorem bsums_hi (A : Option Addr) (m c : Nat) (at_ k : Nat) (w : World) (L X Y : List Bool)
    (ht : ∀ w', Ext w w' → Calls Tryd.prog 9 #[] w' fun e w2 => e = .returned (.bool true) ∧ Ext w' w2)
    (PK : ∀ w', Ext w w' → Calls Tryd.prog 10 #[.slice A m c] w' fun e w2 => ∃ v, e = .returned v ∧ BitS w2 v L (New w'.heap.size) ∧ Ext w' w2)
    (C1 : ∀ v w', IsB w' v L → Calls Tryd.prog 24 #[v, .int .i64 0, .int .i64 (k : Int)] w' fun e w2 => ∃ v, e = .returned v ∧ BitS w2 v X (New w'.heap.size) ∧ Ext w' w2)
    (C2 : ∀ v w', IsB w' v L → Calls Tryd.prog 24 #[v, .int .i64 (k : Int), .int .i64 (m : Int)] w' fun e w2 => ∃ v, e = .returned v ∧ BitS w2 v Y (New w'.heap.size) ∧ Ext w' w2)
    (n1 n2 f1 f2 : Nat) (hb : n1 ≤ 1500 ∧ n2 ≤ 1500 ∧ f2 ≤ 1500 ∧ k ≤ 1500)
    (cL : ∀ v w', IsB w' v L → Calls Tryd.prog 17 #[v] w' fun e w2 => e = .returned (.int .i64 ((n1 : Int) + (n2 : Int))) ∧ Ext w' w2)
    (cX : ∀ v w', IsB w' v X → Calls Tryd.prog 17 #[v] w' fun e w2 => e = .returned (.int .i64 (n1 : Int)) ∧ Ext w' w2)
    (cY : ∀ v w', IsB w' v Y → Calls Tryd.prog 17 #[v] w' fun e w2 => e = .returned (.int .i64 (n2 : Int)) ∧ Ext w' w2)
    (cR : ∀ v w', IsB w' v L → Calls Tryd.prog 20 #[v, .int .i64 (k : Int)] w' fun e w2 => e = .returned (.int .i64 (n1 : Int)) ∧ Ext w' w2)
    (gL : ∀ v w', Ext w w' → IsB w' v L → Calls Tryd.prog 21 #[v] w' fun e w2 => e = .returned (.int .i64 ((f2 : Int) + (k : Int))) ∧ Ext w' w2)
    (_ : ∀ v w', Ext w w' → IsB w' v X → Calls Tryd.prog 21 #[v] w' fun e w2 => e = .returned (.int .i64 (f1 : Int)) ∧ Ext w' w2)
    (gY : ∀ v w', Ext w w' → IsB w' v Y → Calls Tryd.prog 21 #[v] w' fun e w2 => e = .returned (.int .i64 (f2 : Int)) ∧ Ext w' w2)
    (hat : at_ < 65536) (hm : m ≤ 1500) (_ : (0 : Int) ≤ (k : Int)) (hki : (at_ : Int).tmod ((m : Int) + 1) = (k : Int)) (h0 : n1 = 0) : Calls Tryd.prog 7 #[.slice A m c, .int .u16 (at_ : Int)] w fun e w' => e = .returned (.bool true) ∧ Ext w w' := by
  have W2 : IntKind.i64.wrap ((f2 : Int) + (k : Int)) = (f2 : Int) + (k : Int) := wrap_small (by omega) (by omega)
  have W3 : IntKind.i64.wrap (n2 : Int) = (n2 : Int) := wrap_small (by omega) (by omega)
  subst h0
  have E := Ext.refl w
  go_enter Tryd.func7, Tryd.ntmps7
  go_wp2_with fail
  refine (PK _ E).mono ?_
  rintro e w14 ⟨v, rfl, hq, x⟩
  have HB := hq.now
  clear hq
  have z1 := x.size
  replace E := E.trans x
  clear x
  have TB5 : True := trivial
  have TG3 : True := trivial
  go_wp2_with (first | (clear TB5; refine allocsB rfl rfl ?_; intro B5 w5 bB5 cB5 XB5 LB5 RB5; have z2 := XB5.size; replace E := E.trans XB5; replace HB := HB.ext XB5) | (clear TG3; have hRl := (RB5).lt (Nat.zero_lt_succ _); refine storesB (B := B5) rfl rfl rfl (v := v) rfl RB5 HB.is.flat ?_; clear LB5; intro s3 G3 LB5 RQ; have z4 := G3.size; replace E := grown_ext E G3 (by omega); replace HB := HB.grown G3 (by first | omega | (dsimp only [New]; omega)); clear RB5; have RB5 := RQ; clear RQ hRl; clear RB5))
  try simp only [Act.put, List.setIfInBounds_toArray, List.set_cons_zero, List.set_cons_succ]
  apply joinK0 (F := fun (wS5 : World) => s3.heap.size ≤ wS5.heap.size ∧ Ext w wS5 ∧ Lay 2 wS5 B5 v ∧ BitS wS5 v L (fun i => i < wS5.heap.size))
  · intro J
    refine J s3 ?_
    exact ⟨Nat.le_refl _, E, LB5, (HB.mono (fun i hi h => by ((try dsimp only [New] at h); omega)))⟩
  intro wS5 hJS
  clear E HB LB5
  refine wp_region_held_drew (S := (fun w' => Lay 2 w' B5 v)) (by kernel_rfl) (by obtain ⟨z7, E, LB5, HB⟩ := hJS; exact LB5) (fun hH0 => ?_)
  apply joinK4 (F := fun (wD5_0 : World) (B7 : Nat) (B8 : Nat) (xv : Value) (yv : Value) => wS5.heap.size ≤ wD5_0.heap.size ∧ (wS5.heap.size ≤ B7 ∧ B7 < wD5_0.heap.size) ∧ (wS5.heap.size ≤ B8 ∧ B8 < wD5_0.heap.size) ∧ B7 ≠ B8 ∧ Ext w wD5_0 ∧ Lay 2 wD5_0 B5 v ∧ Lay 2 wD5_0 B7 xv ∧ Lay 2 wD5_0 B8 yv ∧ BitS wD5_0 v L (fun i => i < wD5_0.heap.size ∧ i ≠ B7 ∧ i ≠ B8) ∧ BitS wD5_0 xv X (fun i => i < wD5_0.heap.size ∧ i ≠ B7 ∧ i ≠ B8) ∧ BitS wD5_0 yv Y (fun i => i < wD5_0.heap.size ∧ i ≠ B7 ∧ i ≠ B8))
  intro JD5_0
  apply joinK4 (F := fun (wD5_1 : World) (B7 : Nat) (B8 : Nat) (xv : Value) (yv : Value) => wS5.heap.size ≤ wD5_1.heap.size ∧ (wS5.heap.size ≤ B7 ∧ B7 < wD5_1.heap.size) ∧ (wS5.heap.size ≤ B8 ∧ B8 < wD5_1.heap.size) ∧ B7 ≠ B8 ∧ Ext w wD5_1 ∧ Lay 2 wD5_1 B5 v ∧ Lay 2 wD5_1 B7 zeroBits ∧ Lay 2 wD5_1 B8 zeroBits ∧ Room 2 wD5_1 B7 ∧ Room 2 wD5_1 B8 ∧ BitS wD5_1 v L (fun i => i < wD5_1.heap.size ∧ i ≠ B7 ∧ i ≠ B8) ∧ BitS wD5_1 xv X (fun i => i < wD5_1.heap.size ∧ i ≠ B7 ∧ i ≠ B8) ∧ BitS wD5_1 yv Y (fun i => i < wD5_1.heap.size ∧ i ≠ B7 ∧ i ≠ B8))
  intro JD5_1
  apply joinK3 (F := fun (wD5_2 : World) (B7 : Nat) (xv : Value) (yv : Value) => wS5.heap.size ≤ wD5_2.heap.size ∧ (wS5.heap.size ≤ B7 ∧ B7 < wD5_2.heap.size) ∧ Ext w wD5_2 ∧ Lay 2 wD5_2 B5 v ∧ Lay 2 wD5_2 B7 zeroBits ∧ Room 2 wD5_2 B7 ∧ BitS wD5_2 v L (fun i => i < wD5_2.heap.size ∧ i ≠ B7) ∧ BitS wD5_2 xv X (fun i => i < wD5_2.heap.size ∧ i ≠ B7) ∧ BitS wD5_2 yv Y (fun i => i < wD5_2.heap.size ∧ i ≠ B7))
  intro JD5_2
  apply joinK3 (F := fun (wD5_3 : World) (B8 : Nat) (xv : Value) (yv : Value) => wS5.heap.size ≤ wD5_3.heap.size ∧ (wS5.heap.size ≤ B8 ∧ B8 < wD5_3.heap.size) ∧ Ext w wD5_3 ∧ Lay 2 wD5_3 B5 v ∧ Lay 2 wD5_3 B8 zeroBits ∧ Room 2 wD5_3 B8 ∧ BitS wD5_3 v L (fun i => i < wD5_3.heap.size ∧ i ≠ B8) ∧ BitS wD5_3 xv X (fun i => i < wD5_3.heap.size ∧ i ≠ B8) ∧ BitS wD5_3 yv Y (fun i => i < wD5_3.heap.size ∧ i ≠ B8))
  intro JD5_3
  apply joinK3 (F := fun (wD5_4 : World) (B7 : Nat) (B8 : Nat) (xv : Value) => wS5.heap.size ≤ wD5_4.heap.size ∧ (wS5.heap.size ≤ B7 ∧ B7 < wD5_4.heap.size) ∧ (wS5.heap.size ≤ B8 ∧ B8 < wD5_4.heap.size) ∧ B7 ≠ B8 ∧ Ext w wD5_4 ∧ Lay 2 wD5_4 B5 v ∧ Lay 2 wD5_4 B7 zeroBits ∧ Lay 2 wD5_4 B8 zeroBits ∧ Room 2 wD5_4 B7 ∧ Room 2 wD5_4 B8 ∧ BitS wD5_4 v L (fun i => i < wD5_4.heap.size ∧ i ≠ B7 ∧ i ≠ B8) ∧ BitS wD5_4 xv X (fun i => i < wD5_4.heap.size ∧ i ≠ B7 ∧ i ≠ B8))
  intro JD5_4
  apply joinK2 (F := fun (wD5_5 : World) (B7 : Nat) (xv : Value) => wS5.heap.size ≤ wD5_5.heap.size ∧ (wS5.heap.size ≤ B7 ∧ B7 < wD5_5.heap.size) ∧ Ext w wD5_5 ∧ Lay 2 wD5_5 B5 v ∧ Lay 2 wD5_5 B7 zeroBits ∧ Room 2 wD5_5 B7 ∧ BitS wD5_5 v L (fun i => i < wD5_5.heap.size ∧ i ≠ B7) ∧ BitS wD5_5 xv X (fun i => i < wD5_5.heap.size ∧ i ≠ B7))
  intro JD5_5
  apply joinK2 (F := fun (wD5_6 : World) (B8 : Nat) (xv : Value) => wS5.heap.size ≤ wD5_6.heap.size ∧ (wS5.heap.size ≤ B8 ∧ B8 < wD5_6.heap.size) ∧ Ext w wD5_6 ∧ Lay 2 wD5_6 B5 v ∧ Lay 2 wD5_6 B8 zeroBits ∧ Room 2 wD5_6 B8 ∧ BitS wD5_6 v L (fun i => i < wD5_6.heap.size ∧ i ≠ B8) ∧ BitS wD5_6 xv X (fun i => i < wD5_6.heap.size ∧ i ≠ B8))
  intro JD5_6
  apply joinK2 (F := fun (wD5_7 : World) (B7 : Nat) (B8 : Nat) => wS5.heap.size ≤ wD5_7.heap.size ∧ (wS5.heap.size ≤ B7 ∧ B7 < wD5_7.heap.size) ∧ (wS5.heap.size ≤ B8 ∧ B8 < wD5_7.heap.size) ∧ B7 ≠ B8 ∧ Ext w wD5_7 ∧ Lay 2 wD5_7 B5 v ∧ Lay 2 wD5_7 B7 zeroBits ∧ Lay 2 wD5_7 B8 zeroBits ∧ Room 2 wD5_7 B7 ∧ Room 2 wD5_7 B8 ∧ BitS wD5_7 v L (fun i => i < wD5_7.heap.size ∧ i ≠ B7 ∧ i ≠ B8))
  intro JD5_7
  · have hJQ := hJS
    obtain ⟨z7, E, LB5, HB⟩ := hJQ
    have hq8 : wS5.heap.size ≤ wS5.drew.heap.size := Nat.le_refl _
    have z9 := (Ext.refl wS5).drew.size
    replace E := E.trans (Ext.refl wS5).drew
    replace LB5 := LB5.ext (Ext.refl wS5).drew
    replace HB := HB.ext (Ext.refl wS5).drew
    have hHeld := LB5
    refine wpAnyH_take (i := 0) (oi := { dst := some 21, op := Go.Op.load 26 (Go.Operand.tmp 5), type := 26, pos := "law.go:104", after := #[], guard := none }) (v := v) rfl (by kernel_rfl) (by kernel_rfl) (by kernel_rfl) (fun _ _ _ h => h) (yieldB (by rfl) rfl rfl fun w' hx => hx) hHeld ?_
    try simp only [Act.put, List.setIfInBounds_toArray, List.set_cons_zero, List.set_cons_succ]
    refine wpAnyH_take (i := 1) (oi := { dst := some 22, op := Go.Op.move (Go.Operand.tmp 6), type := 3, pos := "law.go:104", after := #[], guard := none }) (v := ?v11) rfl (by kernel_rfl) (by kernel_rfl) (by kernel_rfl) (fun _ _ _ h => h) (Or.inl ⟨by rfl, ?hy11⟩) hHeld ?rest11
    case hy11 => (intro w hSw; (try dsimp only at hSw); go_simp; (first | done | with_reducible rfl))
    try simp only [Act.put, List.setIfInBounds_toArray, List.set_cons_zero, List.set_cons_succ]
    refine wpAnyH_take (i := 3) (oi := { dst := some 24, op := Go.Op.load 26 (Go.Operand.tmp 5), type := 26, pos := "law.go:104", after := #[], guard := none }) (v := v) rfl (by kernel_rfl) (by kernel_rfl) (by kernel_rfl) (fun _ _ _ h => h) (yieldB (by rfl) rfl rfl fun w' hx => hx) hHeld ?_
    try simp only [Act.put, List.setIfInBounds_toArray, List.set_cons_zero, List.set_cons_succ]
    refine wpAnyH_take (i := 4) (oi := { dst := some 25, op := Go.Op.move (Go.Operand.tmp 6), type := 3, pos := "law.go:104", after := #[], guard := none }) (v := ?v13) rfl (by kernel_rfl) (by kernel_rfl) (by kernel_rfl) (fun _ _ _ h => h) (Or.inl ⟨by rfl, ?hy13⟩) hHeld ?rest13
    case hy13 => (intro w hSw; (try dsimp only at hSw); go_simp; (first | done | with_reducible rfl))
    try simp only [Act.put, List.setIfInBounds_toArray, List.set_cons_zero, List.set_cons_succ]
    refine wpAnyH_take (i := 5) (oi := { dst := some 26, op := Go.Op.move (Go.Operand.tmp 0), type := 22, pos := "law.go:104", after := #[], guard := none }) (v := ?v14) rfl (by kernel_rfl) (by kernel_rfl) (by kernel_rfl) (fun _ _ _ h => h) (Or.inl ⟨by rfl, ?hy14⟩) hHeld ?rest14
    case hy14 => (intro w hSw; (try dsimp only at hSw); go_simp; (first | done | with_reducible rfl))
    try simp only [Act.put, List.setIfInBounds_toArray, List.set_cons_zero, List.set_cons_succ]
    refine wpAnyH_take (i := 6) (oi := { dst := some 27, op := Go.Op.call { callee := Go.Callee.builtin Go.Builtin.len, args := #[Go.Operand.tmp 26], argTypes := #[22] }, type := 3, pos := "law.go:104", after := #[{ on := 5, ground := Go.Ground.data }], guard := none }) (v := ?v15) rfl (by kernel_rfl) (by kernel_rfl) (by kernel_rfl) (fun _ _ _ h => h) (Or.inl ⟨by rfl, ?hy15⟩) hHeld ?rest15
    case hy15 => (intro w hSw; (try dsimp only at hSw); go_simp; (first | done | with_reducible rfl))
    try simp only [Act.put, List.setIfInBounds_toArray, List.set_cons_zero, List.set_cons_succ]
    refine wpAnyH_ready (rs := [2, 8, 9]) (by kernel_rfl) (by simp) ?_
    refine AllReadyH.cons (o := bsums_5_2) rfl (fun K hK => ?_) (AllReadyH.cons (o := bsums_5_8) rfl (fun K hK => ?_) (AllReadyH.cons (o := bsums_5_9) rfl (fun K hK => ?_) (AllReadyH.nil)))
    · dsimp only [bsums_5_2]
      go_simp
      refine (C1 v _ HB.is).mono ?_
      rintro e w23 ⟨xv, rfl, hq, x⟩
      have HX := hq.now
      clear hq
      have z16 := x.size
      replace E := E.trans x
      replace LB5 := LB5.ext x
      replace HB := HB.ext x
      clear x
      clear hHeld
      have hHeld := LB5
      refine hK.out _ _ hHeld (fun _ => ?_)
      clear hK K
      try simp only [Act.put, List.setIfInBounds_toArray, List.set_cons_zero, List.set_cons_succ]
      refine wpAnyH_ready (rs := [7, 8, 9]) (by kernel_rfl) (by simp) ?_
      refine AllReadyH.cons (o := bsums_5_7) rfl (fun K hK => ?_) (AllReadyH.cons (o := bsums_5_8) rfl (fun K hK => ?_) (AllReadyH.cons (o := bsums_5_9) rfl (fun K hK => ?_) (AllReadyH.nil)))
      · dsimp only [bsums_5_7]
        go_simp
        refine (C2 v _ HB.is).mono ?_
        rintro e w28 ⟨yv, rfl, hq, x⟩
        have HY := hq.now
        clear hq
        have z17 := x.size
        replace E := E.trans x
        replace LB5 := LB5.ext x
        replace HB := HB.ext x
        replace HX := HX.ext x
        clear x
        clear hHeld
        have hHeld := LB5
        refine hK.out _ _ hHeld (fun _ => ?_)
        clear hK K
        try simp only [Act.put, List.setIfInBounds_toArray, List.set_cons_zero, List.set_cons_succ]
        refine wpAnyH_ready (rs := [8, 9]) (by kernel_rfl) (by simp) ?_
        refine AllReadyH.cons (o := bsums_5_8) rfl (fun K hK => ?_) (AllReadyH.cons (o := bsums_5_9) rfl (fun K hK => ?_) (AllReadyH.nil))
        · dsimp only [bsums_5_8]
          rw [if_pos (by rfl)]
          refine allocB rfl ?_
          intro B7 w7 bB7 cB7 XB7 LB7 RB7
          have z18 := XB7.size
          replace E := E.trans XB7
          replace LB5 := LB5.ext XB7
          replace HB := HB.ext XB7
          replace HX := HX.ext XB7
          replace HY := HY.ext XB7
          clear hHeld
          have hHeld := LB5
          refine hK.out _ _ hHeld (fun _ => ?_)
          clear hK K
          try simp only [Act.put, List.setIfInBounds_toArray, List.set_cons_zero, List.set_cons_succ]
          refine JD5_2 w7 B7 xv yv ?_
          exact ⟨by omega, ⟨by omega, by omega⟩, E, LB5, LB7, RB7, (HB.mono (fun i hi h => by ((try dsimp only [New] at h); omega))), (HX.mono (fun i hi h => by ((try dsimp only [New] at h); omega))), (HY.mono (fun i hi h => by ((try dsimp only [New] at h); omega)))⟩
        · dsimp only [bsums_5_9]
          rw [if_pos (by rfl)]
          refine allocB rfl ?_
          intro B8 w8 bB8 cB8 XB8 LB8 RB8
          have z19 := XB8.size
          replace E := E.trans XB8
          replace LB5 := LB5.ext XB8
          replace HB := HB.ext XB8
          replace HX := HX.ext XB8
          replace HY := HY.ext XB8
          clear hHeld
          have hHeld := LB5
          refine hK.out _ _ hHeld (fun _ => ?_)
          clear hK K
          try simp only [Act.put, List.setIfInBounds_toArray, List.set_cons_zero, List.set_cons_succ]
          refine JD5_3 w8 B8 xv yv ?_
          exact ⟨by omega, ⟨by omega, by omega⟩, E, LB5, LB8, RB8, (HB.mono (fun i hi h => by ((try dsimp only [New] at h); omega))), (HX.mono (fun i hi h => by ((try dsimp only [New] at h); omega))), (HY.mono (fun i hi h => by ((try dsimp only [New] at h); omega)))⟩
      · dsimp only [bsums_5_8]
        rw [if_pos (by rfl)]
        refine allocB rfl ?_
        intro B7 w7 bB7 cB7 XB7 LB7 RB7
        have z20 := XB7.size
        replace E := E.trans XB7
        replace LB5 := LB5.ext XB7
        replace HB := HB.ext XB7
        replace HX := HX.ext XB7
        clear hHeld
        have hHeld := LB5
        refine hK.out _ _ hHeld (fun _ => ?_)
        clear hK K
        try simp only [Act.put, List.setIfInBounds_toArray, List.set_cons_zero, List.set_cons_succ]
        refine JD5_5 w7 B7 xv ?_
        exact ⟨by omega, ⟨by omega, by omega⟩, E, LB5, LB7, RB7, (HB.mono (fun i hi h => by ((try dsimp only [New] at h); omega))), (HX.mono (fun i hi h => by ((try dsimp only [New] at h); omega)))⟩
      · dsimp only [bsums_5_9]
        rw [if_pos (by rfl)]
        refine allocB rfl ?_
        intro B8 w8 bB8 cB8 XB8 LB8 RB8
        have z21 := XB8.size
        replace E := E.trans XB8
        replace LB5 := LB5.ext XB8
        replace HB := HB.ext XB8
        replace HX := HX.ext XB8
        clear hHeld
        have hHeld := LB5
        refine hK.out _ _ hHeld (fun _ => ?_)
        clear hK K
        try simp only [Act.put, List.setIfInBounds_toArray, List.set_cons_zero, List.set_cons_succ]
        refine JD5_6 w8 B8 xv ?_
        exact ⟨by omega, ⟨by omega, by omega⟩, E, LB5, LB8, RB8, (HB.mono (fun i hi h => by ((try dsimp only [New] at h); omega))), (HX.mono (fun i hi h => by ((try dsimp only [New] at h); omega)))⟩
    · dsimp only [bsums_5_8]
      rw [if_pos (by rfl)]
      refine allocB rfl ?_
      intro B7 w7 bB7 cB7 XB7 LB7 RB7
      have z22 := XB7.size
      replace E := E.trans XB7
      replace LB5 := LB5.ext XB7
      replace HB := HB.ext XB7
      clear hHeld
      have hHeld := LB5
      refine hK.out _ _ hHeld (fun _ => ?_)
      clear hK K
      try simp only [Act.put, List.setIfInBounds_toArray, List.set_cons_zero, List.set_cons_succ]
      refine wpAnyH_ready (rs := [2, 9]) (by kernel_rfl) (by simp) ?_
      refine AllReadyH.cons (o := bsums_5_2) rfl (fun K hK => ?_) (AllReadyH.cons (o := bsums_5_9) rfl (fun K hK => ?_) (AllReadyH.nil))
      · dsimp only [bsums_5_2]
        go_simp
        refine (C1 v _ HB.is).mono ?_
        rintro e w23 ⟨xv, rfl, hq, x⟩
        have HX := hq.now
        clear hq
        have z23 := x.size
        replace E := E.trans x
        replace LB5 := LB5.ext x
        replace HB := HB.ext x
        replace LB7 := LB7.ext x
        replace RB7 := RB7.ext x
        clear x
        clear hHeld
        have hHeld := LB5
        refine hK.out _ _ hHeld (fun _ => ?_)
        clear hK K
        try simp only [Act.put, List.setIfInBounds_toArray, List.set_cons_zero, List.set_cons_succ]
        refine JD5_5 w23 B7 xv ?_
        exact ⟨by omega, ⟨by omega, by omega⟩, E, LB5, LB7, RB7, (HB.mono (fun i hi h => by ((try dsimp only [New] at h); omega))), (HX.mono (fun i hi h => by ((try dsimp only [New] at h); omega)))⟩
      · dsimp only [bsums_5_9]
        rw [if_pos (by rfl)]
        refine allocB rfl ?_
        intro B8 w8 bB8 cB8 XB8 LB8 RB8
        have z24 := XB8.size
        replace E := E.trans XB8
        replace LB5 := LB5.ext XB8
        replace HB := HB.ext XB8
        replace LB7 := LB7.ext XB8
        replace RB7 := RB7.ext XB8
        clear hHeld
        have hHeld := LB5
        refine hK.out _ _ hHeld (fun _ => ?_)
        clear hK K
        try simp only [Act.put, List.setIfInBounds_toArray, List.set_cons_zero, List.set_cons_succ]
        refine JD5_7 w8 B7 B8 ?_
        exact ⟨by omega, ⟨by omega, by omega⟩, ⟨by omega, by omega⟩, by omega, E, LB5, LB7, LB8, RB7, RB8, (HB.mono (fun i hi h => by ((try dsimp only [New] at h); omega)))⟩
    · dsimp only [bsums_5_9]
      rw [if_pos (by rfl)]
      refine allocB rfl ?_
      intro B8 w8 bB8 cB8 XB8 LB8 RB8
      have z25 := XB8.size
      replace E := E.trans XB8
      replace LB5 := LB5.ext XB8
      replace HB := HB.ext XB8
      clear hHeld
      have hHeld := LB5
      refine hK.out _ _ hHeld (fun _ => ?_)
      clear hK K
      try simp only [Act.put, List.setIfInBounds_toArray, List.set_cons_zero, List.set_cons_succ]
      refine wpAnyH_ready (rs := [2, 8]) (by kernel_rfl) (by simp) ?_
      refine AllReadyH.cons (o := bsums_5_2) rfl (fun K hK => ?_) (AllReadyH.cons (o := bsums_5_8) rfl (fun K hK => ?_) (AllReadyH.nil))
      · dsimp only [bsums_5_2]
        go_simp
        refine (C1 v _ HB.is).mono ?_
        rintro e w23 ⟨xv, rfl, hq, x⟩
        have HX := hq.now
        clear hq
        have z26 := x.size
        replace E := E.trans x
        replace LB5 := LB5.ext x
        replace HB := HB.ext x
        replace LB8 := LB8.ext x
        replace RB8 := RB8.ext x
        clear x
        clear hHeld
        have hHeld := LB5
        refine hK.out _ _ hHeld (fun _ => ?_)
        clear hK K
        try simp only [Act.put, List.setIfInBounds_toArray, List.set_cons_zero, List.set_cons_succ]
        refine JD5_6 w23 B8 xv ?_
        exact ⟨by omega, ⟨by omega, by omega⟩, E, LB5, LB8, RB8, (HB.mono (fun i hi h => by ((try dsimp only [New] at h); omega))), (HX.mono (fun i hi h => by ((try dsimp only [New] at h); omega)))⟩
      · dsimp only [bsums_5_8]
        rw [if_pos (by rfl)]
        refine allocB rfl ?_
        intro B7 w7 bB7 cB7 XB7 LB7 RB7
        have z27 := XB7.size
        replace E := E.trans XB7
        replace LB5 := LB5.ext XB7
        replace HB := HB.ext XB7
        replace LB8 := LB8.ext XB7
        replace RB8 := RB8.ext XB7
        clear hHeld
        have hHeld := LB5
        refine hK.out _ _ hHeld (fun _ => ?_)
        clear hK K
        try simp only [Act.put, List.setIfInBounds_toArray, List.set_cons_zero, List.set_cons_succ]
        refine JD5_7 w7 B7 B8 ?_
        exact ⟨by omega, ⟨by omega, by omega⟩, ⟨by omega, by omega⟩, by omega, E, LB5, LB7, LB8, RB7, RB8, (HB.mono (fun i hi h => by ((try dsimp only [New] at h); omega)))⟩
  · intro wD5_7 B7 B8 hJ
    obtain ⟨z28, ⟨bB7, cB7⟩, ⟨bB8, cB8⟩, nB7B8, E, LB5, LB7, LB8, RB7, RB8, HB⟩ := hJ
    try dsimp only
    have hHeld := LB5
    refine wpAnyH_ready (rs := [2]) (by kernel_rfl) (by simp) ?_
    refine AllReadyH.cons (o := bsums_5_2) rfl (fun K hK => ?_) (AllReadyH.nil)
    dsimp only [bsums_5_2]
    go_simp
    refine (C1 v _ HB.is).mono ?_
    rintro e w23 ⟨xv, rfl, hq, x⟩
    have HX := hq.now
    clear hq
    have z29 := x.size
    replace E := E.trans x
    replace LB5 := LB5.ext x
    replace LB7 := LB7.ext x
    replace LB8 := LB8.ext x
    replace RB7 := RB7.ext x
    replace RB8 := RB8.ext x
    replace HB := HB.ext x
    clear x
    clear hHeld
    have hHeld := LB5
    refine hK.out _ _ hHeld (fun _ => ?_)
    clear hK K
    try simp only [Act.put, List.setIfInBounds_toArray, List.set_cons_zero, List.set_cons_succ]
    refine JD5_4 w23 B7 B8 xv ?_
    exact ⟨by omega, ⟨by omega, by omega⟩, ⟨by omega, by omega⟩, by omega, E, LB5, LB7, LB8, RB7, RB8, (HB.mono (fun i hi h => by ((try dsimp only [New] at h); omega))), (HX.mono (fun i hi h => by ((try dsimp only [New] at h); omega)))⟩
  · intro wD5_6 B8 xv hJ
    obtain ⟨z30, ⟨bB8, cB8⟩, E, LB5, LB8, RB8, HB, HX⟩ := hJ
    try dsimp only
    have hHeld := LB5
    refine wpAnyH_ready (rs := [7, 8]) (by kernel_rfl) (by simp) ?_
    refine AllReadyH.cons (o := bsums_5_7) rfl (fun K hK => ?_) (AllReadyH.cons (o := bsums_5_8) rfl (fun K hK => ?_) (AllReadyH.nil))
    · dsimp only [bsums_5_7]
      go_simp
      refine (C2 v _ HB.is).mono ?_
      rintro e w28 ⟨yv, rfl, hq, x⟩
      have HY := hq.now
      clear hq
      have z31 := x.size
      replace E := E.trans x
      replace LB5 := LB5.ext x
      replace LB8 := LB8.ext x
      replace RB8 := RB8.ext x
      replace HB := HB.ext x
      replace HX := HX.ext x
      clear x
      clear hHeld
      have hHeld := LB5
      refine hK.out _ _ hHeld (fun _ => ?_)
      clear hK K
      try simp only [Act.put, List.setIfInBounds_toArray, List.set_cons_zero, List.set_cons_succ]
      refine JD5_3 w28 B8 xv yv ?_
      exact ⟨by omega, ⟨by omega, by omega⟩, E, LB5, LB8, RB8, (HB.mono (fun i hi h => by ((try dsimp only [New] at h); omega))), (HX.mono (fun i hi h => by ((try dsimp only [New] at h); omega))), (HY.mono (fun i hi h => by ((try dsimp only [New] at h); omega)))⟩
    · dsimp only [bsums_5_8]
      rw [if_pos (by rfl)]
      refine allocB rfl ?_
      intro B7 w7 bB7 cB7 XB7 LB7 RB7
      have z32 := XB7.size
      replace E := E.trans XB7
      replace LB5 := LB5.ext XB7
      replace LB8 := LB8.ext XB7
      replace RB8 := RB8.ext XB7
      replace HB := HB.ext XB7
      replace HX := HX.ext XB7
      clear hHeld
      have hHeld := LB5
      refine hK.out _ _ hHeld (fun _ => ?_)
      clear hK K
      try simp only [Act.put, List.setIfInBounds_toArray, List.set_cons_zero, List.set_cons_succ]
      refine JD5_4 w7 B7 B8 xv ?_
      exact ⟨by omega, ⟨by omega, by omega⟩, ⟨by omega, by omega⟩, by omega, E, LB5, LB7, LB8, RB7, RB8, (HB.mono (fun i hi h => by ((try dsimp only [New] at h); omega))), (HX.mono (fun i hi h => by ((try dsimp only [New] at h); omega)))⟩
  · intro wD5_5 B7 xv hJ
    obtain ⟨z33, ⟨bB7, cB7⟩, E, LB5, LB7, RB7, HB, HX⟩ := hJ
    try dsimp only
    have hHeld := LB5
    refine wpAnyH_ready (rs := [7, 9]) (by kernel_rfl) (by simp) ?_
    refine AllReadyH.cons (o := bsums_5_7) rfl (fun K hK => ?_) (AllReadyH.cons (o := bsums_5_9) rfl (fun K hK => ?_) (AllReadyH.nil))
    · dsimp only [bsums_5_7]
      go_simp
      refine (C2 v _ HB.is).mono ?_
      rintro e w28 ⟨yv, rfl, hq, x⟩
      have HY := hq.now
      clear hq
      have z34 := x.size
      replace E := E.trans x
      replace LB5 := LB5.ext x
      replace LB7 := LB7.ext x
      replace RB7 := RB7.ext x
      replace HB := HB.ext x
      replace HX := HX.ext x
      clear x
      clear hHeld
      have hHeld := LB5
      refine hK.out _ _ hHeld (fun _ => ?_)
      clear hK K
      try simp only [Act.put, List.setIfInBounds_toArray, List.set_cons_zero, List.set_cons_succ]
      refine JD5_2 w28 B7 xv yv ?_
      exact ⟨by omega, ⟨by omega, by omega⟩, E, LB5, LB7, RB7, (HB.mono (fun i hi h => by ((try dsimp only [New] at h); omega))), (HX.mono (fun i hi h => by ((try dsimp only [New] at h); omega))), (HY.mono (fun i hi h => by ((try dsimp only [New] at h); omega)))⟩
    · dsimp only [bsums_5_9]
      rw [if_pos (by rfl)]
      refine allocB rfl ?_
      intro B8 w8 bB8 cB8 XB8 LB8 RB8
      have z35 := XB8.size
      replace E := E.trans XB8
      replace LB5 := LB5.ext XB8
      replace LB7 := LB7.ext XB8
      replace RB7 := RB7.ext XB8
      replace HB := HB.ext XB8
      replace HX := HX.ext XB8
      clear hHeld
      have hHeld := LB5
      refine hK.out _ _ hHeld (fun _ => ?_)
      clear hK K
      try simp only [Act.put, List.setIfInBounds_toArray, List.set_cons_zero, List.set_cons_succ]
      refine JD5_4 w8 B7 B8 xv ?_
      exact ⟨by omega, ⟨by omega, by omega⟩, ⟨by omega, by omega⟩, by omega, E, LB5, LB7, LB8, RB7, RB8, (HB.mono (fun i hi h => by ((try dsimp only [New] at h); omega))), (HX.mono (fun i hi h => by ((try dsimp only [New] at h); omega)))⟩
  · intro wD5_4 B7 B8 xv hJ
    obtain ⟨z36, ⟨bB7, cB7⟩, ⟨bB8, cB8⟩, nB7B8, E, LB5, LB7, LB8, RB7, RB8, HB, HX⟩ := hJ
    try dsimp only
    have hHeld := LB5
    refine wpAnyH_ready (rs := [7]) (by kernel_rfl) (by simp) ?_
    refine AllReadyH.cons (o := bsums_5_7) rfl (fun K hK => ?_) (AllReadyH.nil)
    dsimp only [bsums_5_7]
    go_simp
    refine (C2 v _ HB.is).mono ?_
    rintro e w28 ⟨yv, rfl, hq, x⟩
    have HY := hq.now
    clear hq
    have z37 := x.size
    replace E := E.trans x
    replace LB5 := LB5.ext x
    replace LB7 := LB7.ext x
    replace LB8 := LB8.ext x
    replace RB7 := RB7.ext x
    replace RB8 := RB8.ext x
    replace HB := HB.ext x
    replace HX := HX.ext x
    clear x
    clear hHeld
    have hHeld := LB5
    refine hK.out _ _ hHeld (fun _ => ?_)
    clear hK K
    try simp only [Act.put, List.setIfInBounds_toArray, List.set_cons_zero, List.set_cons_succ]
    refine JD5_1 w28 B7 B8 xv yv ?_
    exact ⟨by omega, ⟨by omega, by omega⟩, ⟨by omega, by omega⟩, by omega, E, LB5, LB7, LB8, RB7, RB8, (HB.mono (fun i hi h => by ((try dsimp only [New] at h); omega))), (HX.mono (fun i hi h => by ((try dsimp only [New] at h); omega))), (HY.mono (fun i hi h => by ((try dsimp only [New] at h); omega)))⟩
  · intro wD5_3 B8 xv yv hJ
    obtain ⟨z38, ⟨bB8, cB8⟩, E, LB5, LB8, RB8, HB, HX, HY⟩ := hJ
    try dsimp only
    have hHeld := LB5
    refine wpAnyH_ready (rs := [8]) (by kernel_rfl) (by simp) ?_
    refine AllReadyH.cons (o := bsums_5_8) rfl (fun K hK => ?_) (AllReadyH.nil)
    dsimp only [bsums_5_8]
    rw [if_pos (by rfl)]
    refine allocB rfl ?_
    intro B7 w7 bB7 cB7 XB7 LB7 RB7
    have z39 := XB7.size
    replace E := E.trans XB7
    replace LB5 := LB5.ext XB7
    replace LB8 := LB8.ext XB7
    replace RB8 := RB8.ext XB7
    replace HB := HB.ext XB7
    replace HX := HX.ext XB7
    replace HY := HY.ext XB7
    clear hHeld
    have hHeld := LB5
    refine hK.out _ _ hHeld (fun _ => ?_)
    clear hK K
    try simp only [Act.put, List.setIfInBounds_toArray, List.set_cons_zero, List.set_cons_succ]
    refine JD5_1 w7 B7 B8 xv yv ?_
    exact ⟨by omega, ⟨by omega, by omega⟩, ⟨by omega, by omega⟩, by omega, E, LB5, LB7, LB8, RB7, RB8, (HB.mono (fun i hi h => by ((try dsimp only [New] at h); omega))), (HX.mono (fun i hi h => by ((try dsimp only [New] at h); omega))), (HY.mono (fun i hi h => by ((try dsimp only [New] at h); omega)))⟩
  · intro wD5_2 B7 xv yv hJ
    obtain ⟨z40, ⟨bB7, cB7⟩, E, LB5, LB7, RB7, HB, HX, HY⟩ := hJ
    try dsimp only
    have hHeld := LB5
    refine wpAnyH_ready (rs := [9]) (by kernel_rfl) (by simp) ?_
    refine AllReadyH.cons (o := bsums_5_9) rfl (fun K hK => ?_) (AllReadyH.nil)
    dsimp only [bsums_5_9]
    rw [if_pos (by rfl)]
    refine allocB rfl ?_
    intro B8 w8 bB8 cB8 XB8 LB8 RB8
    have z41 := XB8.size
    replace E := E.trans XB8
    replace LB5 := LB5.ext XB8
    replace LB7 := LB7.ext XB8
    replace RB7 := RB7.ext XB8
    replace HB := HB.ext XB8
    replace HX := HX.ext XB8
    replace HY := HY.ext XB8
    clear hHeld
    have hHeld := LB5
    refine hK.out _ _ hHeld (fun _ => ?_)
    clear hK K
    try simp only [Act.put, List.setIfInBounds_toArray, List.set_cons_zero, List.set_cons_succ]
    refine JD5_1 w8 B7 B8 xv yv ?_
    exact ⟨by omega, ⟨by omega, by omega⟩, ⟨by omega, by omega⟩, by omega, E, LB5, LB7, LB8, RB7, RB8, (HB.mono (fun i hi h => by ((try dsimp only [New] at h); omega))), (HX.mono (fun i hi h => by ((try dsimp only [New] at h); omega))), (HY.mono (fun i hi h => by ((try dsimp only [New] at h); omega)))⟩
  · intro wD5_1 B7 B8 xv yv hJ
    obtain ⟨z42, ⟨bB7, cB7⟩, ⟨bB8, cB8⟩, nB7B8, E, LB5, LB7, LB8, RB7, RB8, HB, HX, HY⟩ := hJ
    try dsimp only
    have hHeld := LB5
    refine wpAnyH_ready (rs := [10]) (by kernel_rfl) (by simp) ?_
    refine AllReadyH.cons (o := bsums_5_10) rfl (fun K hK => ?_) (AllReadyH.nil)
    dsimp only [bsums_5_10]
    rw [if_pos (by rfl)]
    have hRl := (RB7).lt (Nat.zero_lt_succ _)
    refine storeB (by rfl) (by rfl) (v := xv) (by rfl) RB7 HX.is.flat ?_
    clear LB7
    intro s43 G43 LB7 RQ
    have z44 := G43.size
    replace E := grown_ext E G43 (by omega)
    replace LB5 := LB5.grown G43 (by omega)
    replace LB8 := LB8.grown G43 (by omega)
    replace RB8 := RB8.grown G43 (by omega)
    replace HB := HB.grown G43 (by first | omega | (dsimp only [New]; omega))
    replace HX := HX.grown G43 (by first | omega | (dsimp only [New]; omega))
    replace HY := HY.grown G43 (by first | omega | (dsimp only [New]; omega))
    clear RB7
    have RB7 := RQ
    clear RQ hRl G43
    clear hHeld
    have hHeld := LB5
    refine hK.out _ _ hHeld (fun _ => ?_)
    clear hK K
    try simp only [Act.put]
    refine wpAnyH_ready (rs := [11]) (by kernel_rfl) (by simp) ?_
    refine AllReadyH.cons (o := bsums_5_11) rfl (fun K hK => ?_) (AllReadyH.nil)
    dsimp only [bsums_5_11]
    rw [if_pos (by rfl)]
    have hRl := (RB8).lt (Nat.zero_lt_succ _)
    refine storeB (by rfl) (by rfl) (v := yv) (by rfl) RB8 HY.is.flat ?_
    clear LB8
    intro s45 G45 LB8 RQ
    have z46 := G45.size
    replace E := grown_ext E G45 (by omega)
    replace LB5 := LB5.grown G45 (by omega)
    replace LB7 := LB7.grown G45 (by omega)
    replace RB7 := RB7.grown G45 (by omega)
    replace HB := HB.grown G45 (by first | omega | (dsimp only [New]; omega))
    replace HX := HX.grown G45 (by first | omega | (dsimp only [New]; omega))
    replace HY := HY.grown G45 (by first | omega | (dsimp only [New]; omega))
    clear RB8
    have RB8 := RQ
    clear RQ hRl G45
    clear hHeld
    have hHeld := LB5
    refine hK.out _ _ hHeld (fun _ => ?_)
    clear hK K
    try simp only [Act.put]
    refine wpAnyH_done (by kernel_rfl) ?_ _
    refine JD5_0 s45 B7 B8 xv yv ?_
    exact ⟨by omega, ⟨by omega, by omega⟩, ⟨by omega, by omega⟩, by omega, E, LB5, LB7, LB8, (HB.mono (fun i hi h => by ((try dsimp only [New] at h); omega))), (HX.mono (fun i hi h => by ((try dsimp only [New] at h); omega))), (HY.mono (fun i hi h => by ((try dsimp only [New] at h); omega)))⟩
  · intro wD5_0 B7 B8 xv yv hJ
    obtain ⟨z47, ⟨bB7, cB7⟩, ⟨bB8, cB8⟩, nB7B8, E, LB5, LB7, LB8, HB, HX, HY⟩ := hJ
    try dsimp only
    go_wp2_with fail
    try simp only [Act.put, List.setIfInBounds_toArray, List.set_cons_zero, List.set_cons_succ]
    apply joinK0 (F := fun (wS6 : World) => wD5_0.heap.size ≤ wS6.heap.size ∧ Ext w wS6 ∧ Lay 2 wS6 B5 v ∧ Lay 2 wS6 B7 xv ∧ Lay 2 wS6 B8 yv ∧ BitS wS6 v L (fun i => i < wS6.heap.size) ∧ BitS wS6 xv X (fun i => i < wS6.heap.size) ∧ BitS wS6 yv Y (fun i => i < wS6.heap.size))
    · intro J
      refine J wD5_0 ?_
      exact ⟨Nat.le_refl _, E, LB5, LB7, LB8, (HB.mono (fun i hi h => by ((try dsimp only [New] at h); omega))), (HX.mono (fun i hi h => by ((try dsimp only [New] at h); omega))), (HY.mono (fun i hi h => by ((try dsimp only [New] at h); omega)))⟩
    intro wS6 hJS
    clear E LB5 LB7 LB8 HB HX HY
    refine wp_region_held_drew (S := (fun w' => Lay 2 w' B5 v ∧ Lay 2 w' B7 xv ∧ Lay 2 w' B8 yv)) (by kernel_rfl) (by obtain ⟨z50, E, LB5, LB7, LB8, HB, HX, HY⟩ := hJS; exact ⟨LB5, LB7, LB8⟩) (fun hH0 => ?_)
    apply joinK0 (F := fun (wD6_0 : World) => wS6.heap.size ≤ wD6_0.heap.size ∧ Ext w wD6_0 ∧ Lay 2 wD6_0 B5 v ∧ Lay 2 wD6_0 B7 xv ∧ Lay 2 wD6_0 B8 yv)
    intro JD6_0
    · have hJQ := hJS
      obtain ⟨z50, E, LB5, LB7, LB8, HB, HX, HY⟩ := hJQ
      have hq51 : wS6.heap.size ≤ wS6.drew.heap.size := Nat.le_refl _
      have z52 := (Ext.refl wS6).drew.size
      replace E := E.trans (Ext.refl wS6).drew
      replace LB5 := LB5.ext (Ext.refl wS6).drew
      replace LB7 := LB7.ext (Ext.refl wS6).drew
      replace LB8 := LB8.ext (Ext.refl wS6).drew
      replace HB := HB.ext (Ext.refl wS6).drew
      replace HX := HX.ext (Ext.refl wS6).drew
      replace HY := HY.ext (Ext.refl wS6).drew
      have hHeld := And.intro LB5 (And.intro LB7 (LB8))
      refine wpAnyH_take (i := 0) (oi := { dst := some 29, op := Go.Op.load 26 (Go.Operand.tmp 7), type := 26, pos := "law.go:105", after := #[], guard := none }) (v := xv) rfl (by kernel_rfl) (by kernel_rfl) (by kernel_rfl) (fun _ _ _ h => h) (yieldB (by rfl) rfl rfl fun w' hx => hx.2.1) hHeld ?_
      try simp only [Act.put, List.setIfInBounds_toArray, List.set_cons_zero, List.set_cons_succ]
      refine wpAnyH_take (i := 2) (oi := { dst := some 31, op := Go.Op.load 26 (Go.Operand.tmp 5), type := 26, pos := "law.go:105", after := #[], guard := none }) (v := v) rfl (by kernel_rfl) (by kernel_rfl) (by kernel_rfl) (fun _ _ _ h => h) (yieldB (by rfl) rfl rfl fun w' hx => hx.1) hHeld ?_
      try simp only [Act.put, List.setIfInBounds_toArray, List.set_cons_zero, List.set_cons_succ]
      refine wpAnyH_take (i := 3) (oi := { dst := some 32, op := Go.Op.move (Go.Operand.tmp 6), type := 3, pos := "law.go:105", after := #[], guard := none }) (v := ?v55) rfl (by kernel_rfl) (by kernel_rfl) (by kernel_rfl) (fun _ _ _ h => h) (Or.inl ⟨by rfl, ?hy55⟩) hHeld ?rest55
      case hy55 => (intro w hSw; (try dsimp only at hSw); go_simp; (first | done | with_reducible rfl))
      try simp only [Act.put, List.setIfInBounds_toArray, List.set_cons_zero, List.set_cons_succ]
      refine wpAnyH_ready (rs := [1]) (by kernel_rfl) (by simp) ?_
      refine AllReadyH.cons (o := bsums_6_1) rfl (fun K hK => ?_) (AllReadyH.nil)
      dsimp only [bsums_6_1]
      go_simp
      refine (cX xv _ HX.is).mono ?_
      rintro e w30 ⟨rfl, x⟩
      have z56 := x.size
      replace E := E.trans x
      replace LB5 := LB5.ext x
      replace LB7 := LB7.ext x
      replace LB8 := LB8.ext x
      replace HB := HB.ext x
      replace HX := HX.ext x
      replace HY := HY.ext x
      clear x
      clear hHeld
      have hHeld := And.intro LB5 (And.intro LB7 (LB8))
      refine hK.out _ _ hHeld (fun _ => ?_)
      clear hK K
      try simp only [Act.put, List.setIfInBounds_toArray, List.set_cons_zero, List.set_cons_succ]
      refine wpAnyH_ready (rs := [4]) (by kernel_rfl) (by simp) ?_
      refine AllReadyH.cons (o := bsums_6_4) rfl (fun K hK => ?_) (AllReadyH.nil)
      dsimp only [bsums_6_4]
      go_simp
      refine (cR v _ HB.is).mono ?_
      rintro e w33 ⟨rfl, x⟩
      have z57 := x.size
      replace E := E.trans x
      replace LB5 := LB5.ext x
      replace LB7 := LB7.ext x
      replace LB8 := LB8.ext x
      replace HB := HB.ext x
      replace HX := HX.ext x
      replace HY := HY.ext x
      clear x
      clear hHeld
      have hHeld := And.intro LB5 (And.intro LB7 (LB8))
      refine hK.out _ _ hHeld (fun _ => ?_)
      clear hK K
      try simp only [Act.put, List.setIfInBounds_toArray, List.set_cons_zero, List.set_cons_succ]
      refine wpAnyH_take (i := 5) (oi := { dst := some 34, op := Go.Op.binOp Go.BinOp.eql 3 (Go.Operand.tmp 30) (Go.Operand.tmp 33) 3, type := 4, pos := "law.go:105", after := #[{ on := 1, ground := Go.Ground.data }, { on := 4, ground := Go.Ground.data }], guard := none }) (v := .bool true) rfl (by kernel_rfl) (by kernel_rfl) (by kernel_rfl) (fun _ _ _ h => h) (Or.inl ⟨by rfl, ?hy58⟩) hHeld ?rest58
      case hy58 => (intro w hSw; (try dsimp only at hSw); go_simp; try (first | done | omega | (simp; done) | (simp; omega)); (first | done | with_reducible rfl))
      try simp only [Act.put, List.setIfInBounds_toArray, List.set_cons_zero, List.set_cons_succ]
      refine wpAnyH_take (i := 6) (oi := { dst := some 35, op := Go.Op.move (Go.Operand.tmp 34), type := 4, pos := "law.go:105", after := #[{ on := 5, ground := Go.Ground.data }, { on := 4, ground := Go.Ground.chain }], guard := none }) (v := ?v59) rfl (by kernel_rfl) (by kernel_rfl) (by kernel_rfl) (fun _ _ _ h => h) (Or.inl ⟨by rfl, ?hy59⟩) hHeld ?rest59
      case hy59 => (intro w hSw; (try dsimp only at hSw); go_simp; (first | done | with_reducible rfl))
      try simp only [Act.put, List.setIfInBounds_toArray, List.set_cons_zero, List.set_cons_succ]
      refine wpAnyH_take (i := 7) (oi := { dst := some 36, op := Go.Op.load 26 (Go.Operand.tmp 7), type := 26, pos := "law.go:105", after := #[{ on := 6, ground := Go.Ground.guard }], guard := some (6, true) }) (v := xv) rfl (by kernel_rfl) (by kernel_rfl) (by kernel_rfl) (fun _ _ _ h => h) (yieldB (by rfl) rfl rfl fun w' hx => hx.2.1) hHeld ?_
      try simp only [Act.put, List.setIfInBounds_toArray, List.set_cons_zero, List.set_cons_succ]
      refine wpAnyH_take (i := 9) (oi := { dst := some 38, op := Go.Op.load 26 (Go.Operand.tmp 8), type := 26, pos := "law.go:105", after := #[{ on := 6, ground := Go.Ground.guard }], guard := some (6, true) }) (v := yv) rfl (by kernel_rfl) (by kernel_rfl) (by kernel_rfl) (fun _ _ _ h => h) (yieldB (by rfl) rfl rfl fun w' hx => hx.2.2) hHeld ?_
      try simp only [Act.put, List.setIfInBounds_toArray, List.set_cons_zero, List.set_cons_succ]
      refine wpAnyH_take (i := 12) (oi := { dst := some 41, op := Go.Op.load 26 (Go.Operand.tmp 5), type := 26, pos := "law.go:105", after := #[{ on := 6, ground := Go.Ground.guard }], guard := some (6, true) }) (v := v) rfl (by kernel_rfl) (by kernel_rfl) (by kernel_rfl) (fun _ _ _ h => h) (yieldB (by rfl) rfl rfl fun w' hx => hx.1) hHeld ?_
      try simp only [Act.put, List.setIfInBounds_toArray, List.set_cons_zero, List.set_cons_succ]
      refine wpAnyH_ready (rs := [8]) (by kernel_rfl) (by simp) ?_
      refine AllReadyH.cons (o := bsums_6_8) rfl (fun K hK => ?_) (AllReadyH.nil)
      dsimp only [bsums_6_8]
      go_simp
      refine (cX xv _ HX.is).mono ?_
      rintro e w37 ⟨rfl, x⟩
      have z63 := x.size
      replace E := E.trans x
      replace LB5 := LB5.ext x
      replace LB7 := LB7.ext x
      replace LB8 := LB8.ext x
      replace HB := HB.ext x
      replace HX := HX.ext x
      replace HY := HY.ext x
      clear x
      clear hHeld
      have hHeld := And.intro LB5 (And.intro LB7 (LB8))
      refine hK.out _ _ hHeld (fun _ => ?_)
      clear hK K
      try simp only [Act.put, List.setIfInBounds_toArray, List.set_cons_zero, List.set_cons_succ]
      refine wpAnyH_ready (rs := [10]) (by kernel_rfl) (by simp) ?_
      refine AllReadyH.cons (o := bsums_6_10) rfl (fun K hK => ?_) (AllReadyH.nil)
      dsimp only [bsums_6_10]
      go_simp
      refine (cY yv _ HY.is).mono ?_
      rintro e w39 ⟨rfl, x⟩
      have z64 := x.size
      replace E := E.trans x
      replace LB5 := LB5.ext x
      replace LB7 := LB7.ext x
      replace LB8 := LB8.ext x
      replace HB := HB.ext x
      replace HX := HX.ext x
      replace HY := HY.ext x
      clear x
      clear hHeld
      have hHeld := And.intro LB5 (And.intro LB7 (LB8))
      refine hK.out _ _ hHeld (fun _ => ?_)
      clear hK K
      try simp only [Act.put, List.setIfInBounds_toArray, List.set_cons_zero, List.set_cons_succ]
      refine wpAnyH_take (i := 11) (oi := { dst := some 40, op := Go.Op.binOp Go.BinOp.add 3 (Go.Operand.tmp 37) (Go.Operand.tmp 39) 3, type := 3, pos := "law.go:105", after := #[{ on := 8, ground := Go.Ground.data }, { on := 10, ground := Go.Ground.data }, { on := 6, ground := Go.Ground.guard }], guard := some (6, true) }) (v := ?v65) rfl (by kernel_rfl) (by kernel_rfl) (by kernel_rfl) (fun _ _ _ h => h) (Or.inl ⟨by rfl, ?hy65⟩) hHeld ?rest65
      case hy65 => (intro w hSw; (try dsimp only at hSw); go_simp; (first | done | with_reducible rfl))
      try simp only [Act.put, List.setIfInBounds_toArray, List.set_cons_zero, List.set_cons_succ]
      refine wpAnyH_ready (rs := [13]) (by kernel_rfl) (by simp) ?_
      refine AllReadyH.cons (o := bsums_6_13) rfl (fun K hK => ?_) (AllReadyH.nil)
      dsimp only [bsums_6_13]
      go_simp
      refine (cL v _ HB.is).mono ?_
      rintro e w42 ⟨rfl, x⟩
      have z66 := x.size
      replace E := E.trans x
      replace LB5 := LB5.ext x
      replace LB7 := LB7.ext x
      replace LB8 := LB8.ext x
      replace HB := HB.ext x
      replace HX := HX.ext x
      replace HY := HY.ext x
      clear x
      clear hHeld
      have hHeld := And.intro LB5 (And.intro LB7 (LB8))
      refine hK.out _ _ hHeld (fun _ => ?_)
      clear hK K
      try simp only [Act.put, List.setIfInBounds_toArray, List.set_cons_zero, List.set_cons_succ]
      refine wpAnyH_take (i := 14) (oi := { dst := some 43, op := Go.Op.binOp Go.BinOp.eql 3 (Go.Operand.tmp 40) (Go.Operand.tmp 42) 3, type := 4, pos := "law.go:105", after := #[{ on := 11, ground := Go.Ground.data }, { on := 13, ground := Go.Ground.data }, { on := 6, ground := Go.Ground.guard }], guard := some (6, true) }) (v := .bool true) rfl (by kernel_rfl) (by kernel_rfl) (by kernel_rfl) (fun _ _ _ h => h) (Or.inl ⟨by rfl, ?hy67⟩) hHeld ?rest67
      case hy67 => (intro w hSw; (try dsimp only at hSw); go_simp; try (first | done | (simp; done) | (rw [W3]; done) | (rw [W3]; simp; done)); (first | done | with_reducible rfl))
      try simp only [Act.put, List.setIfInBounds_toArray, List.set_cons_zero, List.set_cons_succ]
      refine wpAnyH_take (i := 15) (oi := { dst := some 44, op := Go.Op.pick (Go.Operand.tmp 35) (Go.Operand.tmp 43) (Go.Operand.const (Go.Value.bool false)), type := 4, pos := "law.go:105", after := #[{ on := 6, ground := Go.Ground.data }, { on := 14, ground := Go.Ground.data }], guard := none }) (v := ?v68) rfl (by kernel_rfl) (by kernel_rfl) (by kernel_rfl) (fun _ _ _ h => h) (Or.inl ⟨by rfl, ?hy68⟩) hHeld ?rest68
      case hy68 => (intro w hSw; (try dsimp only at hSw); go_simp; (first | done | with_reducible rfl))
      try simp only [Act.put, List.setIfInBounds_toArray, List.set_cons_zero, List.set_cons_succ]
      refine wpAnyH_take (i := 16) (oi := { dst := some 45, op := Go.Op.move (Go.Operand.tmp 44), type := 4, pos := "law.go:105", after := #[{ on := 15, ground := Go.Ground.data }, { on := 13, ground := Go.Ground.chain }], guard := none }) (v := ?v69) rfl (by kernel_rfl) (by kernel_rfl) (by kernel_rfl) (fun _ _ _ h => h) (Or.inl ⟨by rfl, ?hy69⟩) hHeld ?rest69
      case hy69 => (intro w hSw; (try dsimp only at hSw); go_simp; (first | done | with_reducible rfl))
      try simp only [Act.put, List.setIfInBounds_toArray, List.set_cons_zero, List.set_cons_succ]
      refine wpAnyH_take (i := 17) (oi := { dst := some 46, op := Go.Op.load 26 (Go.Operand.tmp 7), type := 26, pos := "law.go:105", after := #[{ on := 16, ground := Go.Ground.guard }], guard := some (16, true) }) (v := xv) rfl (by kernel_rfl) (by kernel_rfl) (by kernel_rfl) (fun _ _ _ h => h) (yieldB (by rfl) rfl rfl fun w' hx => hx.2.1) hHeld ?_
      try simp only [Act.put, List.setIfInBounds_toArray, List.set_cons_zero, List.set_cons_succ]
      refine wpAnyH_ready (rs := [18]) (by kernel_rfl) (by simp) ?_
      refine AllReadyH.cons (o := bsums_6_18) rfl (fun K hK => ?_) (AllReadyH.nil)
      dsimp only [bsums_6_18]
      go_simp
      refine (cX xv _ HX.is).mono ?_
      rintro e w47 ⟨rfl, x⟩
      have z71 := x.size
      replace E := E.trans x
      replace LB5 := LB5.ext x
      replace LB7 := LB7.ext x
      replace LB8 := LB8.ext x
      replace HB := HB.ext x
      replace HX := HX.ext x
      replace HY := HY.ext x
      clear x
      clear hHeld
      have hHeld := And.intro LB5 (And.intro LB7 (LB8))
      refine hK.out _ _ hHeld (fun _ => ?_)
      clear hK K
      try simp only [Act.put, List.setIfInBounds_toArray, List.set_cons_zero, List.set_cons_succ]
      refine wpAnyH_take (i := 19) (oi := { dst := some 48, op := Go.Op.binOp Go.BinOp.eql 3 (Go.Operand.tmp 47) (Go.Operand.const (Go.Value.int Go.IntKind.i64 0)) 3, type := 4, pos := "law.go:105", after := #[{ on := 18, ground := Go.Ground.data }, { on := 16, ground := Go.Ground.guard }], guard := some (16, true) }) (v := .bool true) rfl (by kernel_rfl) (by kernel_rfl) (by kernel_rfl) (fun _ _ _ h => h) (Or.inl ⟨by rfl, ?hy72⟩) hHeld ?rest72
      case hy72 => (intro w hSw; (try dsimp only at hSw); go_simp; try (first | done | omega | (simp; done) | (simp; omega)); (first | done | with_reducible rfl))
      try simp only [Act.put, List.setIfInBounds_toArray, List.set_cons_zero, List.set_cons_succ]
      refine wpAnyH_take (i := 20) (oi := { dst := some 49, op := Go.Op.move (Go.Operand.tmp 48), type := 4, pos := "law.go:105", after := #[{ on := 19, ground := Go.Ground.data }, { on := 18, ground := Go.Ground.chain }, { on := 16, ground := Go.Ground.guard }], guard := some (16, true) }) (v := ?v73) rfl (by kernel_rfl) (by kernel_rfl) (by kernel_rfl) (fun _ _ _ h => h) (Or.inl ⟨by rfl, ?hy73⟩) hHeld ?rest73
      case hy73 => (intro w hSw; (try dsimp only at hSw); go_simp; (first | done | with_reducible rfl))
      try simp only [Act.put, List.setIfInBounds_toArray, List.set_cons_zero, List.set_cons_succ]
      refine wpAnyH_take (i := 21) (oi := { dst := some 50, op := Go.Op.load 26 (Go.Operand.tmp 7), type := 26, pos := "law.go:105", after := #[{ on := 20, ground := Go.Ground.guard }], guard := some (20, false) }) (v := undef) rfl (by kernel_rfl) (by kernel_rfl) (by kernel_rfl) (fun _ _ _ h => h) (Or.inr ⟨by rfl, rfl⟩) hHeld ?_
      try simp only [Act.put, List.setIfInBounds_toArray, List.set_cons_zero, List.set_cons_succ]
      refine wpAnyH_take (i := 22) (oi := { dst := some 51, op := Go.Op.call { callee := Go.Callee.value (Go.Operand.func 21), args := #[Go.Operand.tmp 50], argTypes := #[26] }, type := 3, pos := "law.go:105", after := #[{ on := 21, ground := Go.Ground.data }, { on := 20, ground := Go.Ground.chain }, { on := 20, ground := Go.Ground.guard }], guard := some (20, false) }) (v := undef) rfl (by kernel_rfl) (by kernel_rfl) (by kernel_rfl) (fun _ _ _ h => h) (Or.inr ⟨by rfl, rfl⟩) hHeld ?_
      try simp only [Act.put, List.setIfInBounds_toArray, List.set_cons_zero, List.set_cons_succ]
      refine wpAnyH_take (i := 23) (oi := { dst := some 52, op := Go.Op.load 26 (Go.Operand.tmp 5), type := 26, pos := "law.go:105", after := #[{ on := 20, ground := Go.Ground.guard }], guard := some (20, false) }) (v := undef) rfl (by kernel_rfl) (by kernel_rfl) (by kernel_rfl) (fun _ _ _ h => h) (Or.inr ⟨by rfl, rfl⟩) hHeld ?_
      try simp only [Act.put, List.setIfInBounds_toArray, List.set_cons_zero, List.set_cons_succ]
      refine wpAnyH_take (i := 24) (oi := { dst := some 53, op := Go.Op.call { callee := Go.Callee.value (Go.Operand.func 21), args := #[Go.Operand.tmp 52], argTypes := #[26] }, type := 3, pos := "law.go:105", after := #[{ on := 23, ground := Go.Ground.data }, { on := 22, ground := Go.Ground.chain }, { on := 20, ground := Go.Ground.guard }], guard := some (20, false) }) (v := undef) rfl (by kernel_rfl) (by kernel_rfl) (by kernel_rfl) (fun _ _ _ h => h) (Or.inr ⟨by rfl, rfl⟩) hHeld ?_
      try simp only [Act.put, List.setIfInBounds_toArray, List.set_cons_zero, List.set_cons_succ]
      refine wpAnyH_take (i := 25) (oi := { dst := some 54, op := Go.Op.binOp Go.BinOp.eql 3 (Go.Operand.tmp 51) (Go.Operand.tmp 53) 3, type := 4, pos := "law.go:105", after := #[{ on := 22, ground := Go.Ground.data }, { on := 24, ground := Go.Ground.data }, { on := 20, ground := Go.Ground.guard }], guard := some (20, false) }) (v := undef) rfl (by kernel_rfl) (by kernel_rfl) (by kernel_rfl) (fun _ _ _ h => h) (Or.inr ⟨by rfl, rfl⟩) hHeld ?_
      try simp only [Act.put, List.setIfInBounds_toArray, List.set_cons_zero, List.set_cons_succ]
      refine wpAnyH_take (i := 26) (oi := { dst := some 55, op := Go.Op.pick (Go.Operand.tmp 49) (Go.Operand.const (Go.Value.bool true)) (Go.Operand.tmp 54), type := 4, pos := "law.go:105", after := #[{ on := 20, ground := Go.Ground.data }, { on := 25, ground := Go.Ground.data }, { on := 16, ground := Go.Ground.guard }], guard := some (16, true) }) (v := ?v79) rfl (by kernel_rfl) (by kernel_rfl) (by kernel_rfl) (fun _ _ _ h => h) (Or.inl ⟨by rfl, ?hy79⟩) hHeld ?rest79
      case hy79 => (intro w hSw; (try dsimp only at hSw); go_simp; (first | done | with_reducible rfl))
      try simp only [Act.put, List.setIfInBounds_toArray, List.set_cons_zero, List.set_cons_succ]
      refine wpAnyH_take (i := 27) (oi := { dst := some 56, op := Go.Op.pick (Go.Operand.tmp 45) (Go.Operand.tmp 55) (Go.Operand.const (Go.Value.bool false)), type := 4, pos := "law.go:105", after := #[{ on := 16, ground := Go.Ground.data }, { on := 26, ground := Go.Ground.data }], guard := none }) (v := ?v80) rfl (by kernel_rfl) (by kernel_rfl) (by kernel_rfl) (fun _ _ _ h => h) (Or.inl ⟨by rfl, ?hy80⟩) hHeld ?rest80
      case hy80 => (intro w hSw; (try dsimp only at hSw); go_simp; (first | done | with_reducible rfl))
      try simp only [Act.put, List.setIfInBounds_toArray, List.set_cons_zero, List.set_cons_succ]
      refine wpAnyH_take (i := 28) (oi := { dst := some 57, op := Go.Op.move (Go.Operand.tmp 56), type := 4, pos := "law.go:105", after := #[{ on := 27, ground := Go.Ground.data }, { on := 24, ground := Go.Ground.chain }], guard := none }) (v := ?v81) rfl (by kernel_rfl) (by kernel_rfl) (by kernel_rfl) (fun _ _ _ h => h) (Or.inl ⟨by rfl, ?hy81⟩) hHeld ?rest81
      case hy81 => (intro w hSw; (try dsimp only at hSw); go_simp; (first | done | with_reducible rfl))
      try simp only [Act.put, List.setIfInBounds_toArray, List.set_cons_zero, List.set_cons_succ]
      refine wpAnyH_take (i := 29) (oi := { dst := some 58, op := Go.Op.load 26 (Go.Operand.tmp 7), type := 26, pos := "law.go:105", after := #[{ on := 28, ground := Go.Ground.guard }], guard := some (28, true) }) (v := xv) rfl (by kernel_rfl) (by kernel_rfl) (by kernel_rfl) (fun _ _ _ h => h) (yieldB (by rfl) rfl rfl fun w' hx => hx.2.1) hHeld ?_
      try simp only [Act.put, List.setIfInBounds_toArray, List.set_cons_zero, List.set_cons_succ]
      refine wpAnyH_ready (rs := [30]) (by kernel_rfl) (by simp) ?_
      refine AllReadyH.cons (o := bsums_6_30) rfl (fun K hK => ?_) (AllReadyH.nil)
      dsimp only [bsums_6_30]
      go_simp
      refine (cX xv _ HX.is).mono ?_
      rintro e w59 ⟨rfl, x⟩
      have z83 := x.size
      replace E := E.trans x
      replace LB5 := LB5.ext x
      replace LB7 := LB7.ext x
      replace LB8 := LB8.ext x
      replace HB := HB.ext x
      replace HX := HX.ext x
      replace HY := HY.ext x
      clear x
      clear hHeld
      have hHeld := And.intro LB5 (And.intro LB7 (LB8))
      refine hK.out _ _ hHeld (fun _ => ?_)
      clear hK K
      try simp only [Act.put, List.setIfInBounds_toArray, List.set_cons_zero, List.set_cons_succ]
      refine wpAnyH_take (i := 31) (oi := { dst := some 60, op := Go.Op.binOp Go.BinOp.gtr 3 (Go.Operand.tmp 59) (Go.Operand.const (Go.Value.int Go.IntKind.i64 0)) 3, type := 4, pos := "law.go:105", after := #[{ on := 30, ground := Go.Ground.data }, { on := 28, ground := Go.Ground.guard }], guard := some (28, true) }) (v := .bool false) rfl (by kernel_rfl) (by kernel_rfl) (by kernel_rfl) (fun _ _ _ h => h) (Or.inl ⟨by rfl, ?hy84⟩) hHeld ?rest84
      case hy84 => (intro w hSw; (try dsimp only at hSw); go_simp; try (first | done | omega | (simp; done) | (simp; omega)); (first | done | with_reducible rfl))
      try simp only [Act.put, List.setIfInBounds_toArray, List.set_cons_zero, List.set_cons_succ]
      refine wpAnyH_take (i := 32) (oi := { dst := some 61, op := Go.Op.move (Go.Operand.tmp 60), type := 4, pos := "law.go:105", after := #[{ on := 31, ground := Go.Ground.data }, { on := 30, ground := Go.Ground.chain }, { on := 28, ground := Go.Ground.guard }], guard := some (28, true) }) (v := ?v85) rfl (by kernel_rfl) (by kernel_rfl) (by kernel_rfl) (fun _ _ _ h => h) (Or.inl ⟨by rfl, ?hy85⟩) hHeld ?rest85
      case hy85 => (intro w hSw; (try dsimp only at hSw); go_simp; (first | done | with_reducible rfl))
      try simp only [Act.put, List.setIfInBounds_toArray, List.set_cons_zero, List.set_cons_succ]
      refine wpAnyH_take (i := 33) (oi := { dst := some 62, op := Go.Op.load 26 (Go.Operand.tmp 8), type := 26, pos := "law.go:105", after := #[{ on := 32, ground := Go.Ground.guard }], guard := some (32, false) }) (v := yv) rfl (by kernel_rfl) (by kernel_rfl) (by kernel_rfl) (fun _ _ _ h => h) (yieldB (by rfl) rfl rfl fun w' hx => hx.2.2) hHeld ?_
      try simp only [Act.put, List.setIfInBounds_toArray, List.set_cons_zero, List.set_cons_succ]
      refine wpAnyH_take (i := 35) (oi := { dst := some 64, op := Go.Op.move (Go.Operand.tmp 6), type := 3, pos := "law.go:105", after := #[{ on := 32, ground := Go.Ground.guard }], guard := some (32, false) }) (v := ?v87) rfl (by kernel_rfl) (by kernel_rfl) (by kernel_rfl) (fun _ _ _ h => h) (Or.inl ⟨by rfl, ?hy87⟩) hHeld ?rest87
      case hy87 => (intro w hSw; (try dsimp only at hSw); go_simp; (first | done | with_reducible rfl))
      try simp only [Act.put, List.setIfInBounds_toArray, List.set_cons_zero, List.set_cons_succ]
      refine wpAnyH_take (i := 37) (oi := { dst := some 66, op := Go.Op.load 26 (Go.Operand.tmp 5), type := 26, pos := "law.go:105", after := #[{ on := 32, ground := Go.Ground.guard }], guard := some (32, false) }) (v := v) rfl (by kernel_rfl) (by kernel_rfl) (by kernel_rfl) (fun _ _ _ h => h) (yieldB (by rfl) rfl rfl fun w' hx => hx.1) hHeld ?_
      try simp only [Act.put, List.setIfInBounds_toArray, List.set_cons_zero, List.set_cons_succ]
      refine wpAnyH_ready (rs := [34]) (by kernel_rfl) (by simp) ?_
      refine AllReadyH.cons (o := bsums_6_34) rfl (fun K hK => ?_) (AllReadyH.nil)
      dsimp only [bsums_6_34]
      go_simp
      refine (gY yv _ E HY.is).mono ?_
      rintro e w63 ⟨rfl, x⟩
      have z89 := x.size
      replace E := E.trans x
      replace LB5 := LB5.ext x
      replace LB7 := LB7.ext x
      replace LB8 := LB8.ext x
      replace HB := HB.ext x
      replace HX := HX.ext x
      replace HY := HY.ext x
      clear x
      clear hHeld
      have hHeld := And.intro LB5 (And.intro LB7 (LB8))
      refine hK.out _ _ hHeld (fun _ => ?_)
      clear hK K
      try simp only [Act.put, List.setIfInBounds_toArray, List.set_cons_zero, List.set_cons_succ]
      refine wpAnyH_take (i := 36) (oi := { dst := some 65, op := Go.Op.binOp Go.BinOp.add 3 (Go.Operand.tmp 63) (Go.Operand.tmp 64) 3, type := 3, pos := "law.go:105", after := #[{ on := 34, ground := Go.Ground.data }, { on := 35, ground := Go.Ground.data }, { on := 32, ground := Go.Ground.guard }], guard := some (32, false) }) (v := ?v90) rfl (by kernel_rfl) (by kernel_rfl) (by kernel_rfl) (fun _ _ _ h => h) (Or.inl ⟨by rfl, ?hy90⟩) hHeld ?rest90
      case hy90 => (intro w hSw; (try dsimp only at hSw); go_simp; (first | done | with_reducible rfl))
      try simp only [Act.put, List.setIfInBounds_toArray, List.set_cons_zero, List.set_cons_succ]
      refine wpAnyH_ready (rs := [38]) (by kernel_rfl) (by simp) ?_
      refine AllReadyH.cons (o := bsums_6_38) rfl (fun K hK => ?_) (AllReadyH.nil)
      dsimp only [bsums_6_38]
      go_simp
      refine (gL v _ E HB.is).mono ?_
      rintro e w67 ⟨rfl, x⟩
      have z91 := x.size
      replace E := E.trans x
      replace LB5 := LB5.ext x
      replace LB7 := LB7.ext x
      replace LB8 := LB8.ext x
      replace HB := HB.ext x
      replace HX := HX.ext x
      replace HY := HY.ext x
      clear x
      clear hHeld
      have hHeld := And.intro LB5 (And.intro LB7 (LB8))
      refine hK.out _ _ hHeld (fun _ => ?_)
      clear hK K
      try simp only [Act.put, List.setIfInBounds_toArray, List.set_cons_zero, List.set_cons_succ]
      refine wpAnyH_take (i := 39) (oi := { dst := some 68, op := Go.Op.binOp Go.BinOp.eql 3 (Go.Operand.tmp 65) (Go.Operand.tmp 67) 3, type := 4, pos := "law.go:105", after := #[{ on := 36, ground := Go.Ground.data }, { on := 38, ground := Go.Ground.data }, { on := 32, ground := Go.Ground.guard }], guard := some (32, false) }) (v := .bool true) rfl (by kernel_rfl) (by kernel_rfl) (by kernel_rfl) (fun _ _ _ h => h) (Or.inl ⟨by rfl, ?hy92⟩) hHeld ?rest92
      case hy92 => (intro w hSw; (try dsimp only at hSw); go_simp; try (first | done | (simp; done) | (rw [W2]; done) | (rw [W2]; simp; done)); (first | done | with_reducible rfl))
      try simp only [Act.put, List.setIfInBounds_toArray, List.set_cons_zero, List.set_cons_succ]
      refine wpAnyH_take (i := 40) (oi := { dst := some 69, op := Go.Op.pick (Go.Operand.tmp 61) (Go.Operand.const (Go.Value.bool true)) (Go.Operand.tmp 68), type := 4, pos := "law.go:105", after := #[{ on := 32, ground := Go.Ground.data }, { on := 39, ground := Go.Ground.data }, { on := 28, ground := Go.Ground.guard }], guard := some (28, true) }) (v := ?v93) rfl (by kernel_rfl) (by kernel_rfl) (by kernel_rfl) (fun _ _ _ h => h) (Or.inl ⟨by rfl, ?hy93⟩) hHeld ?rest93
      case hy93 => (intro w hSw; (try dsimp only at hSw); go_simp; (first | done | with_reducible rfl))
      try simp only [Act.put, List.setIfInBounds_toArray, List.set_cons_zero, List.set_cons_succ]
      refine wpAnyH_take (i := 41) (oi := { dst := some 70, op := Go.Op.pick (Go.Operand.tmp 57) (Go.Operand.tmp 69) (Go.Operand.const (Go.Value.bool false)), type := 4, pos := "law.go:105", after := #[{ on := 28, ground := Go.Ground.data }, { on := 40, ground := Go.Ground.data }], guard := none }) (v := ?v94) rfl (by kernel_rfl) (by kernel_rfl) (by kernel_rfl) (fun _ _ _ h => h) (Or.inl ⟨by rfl, ?hy94⟩) hHeld ?rest94
      case hy94 => (intro w hSw; (try dsimp only at hSw); go_simp; (first | done | with_reducible rfl))
      try simp only [Act.put, List.setIfInBounds_toArray, List.set_cons_zero, List.set_cons_succ]
      refine wpAnyH_take (i := 42) (oi := { dst := some 71, op := Go.Op.move (Go.Operand.tmp 70), type := 4, pos := "law.go:105", after := #[{ on := 41, ground := Go.Ground.data }, { on := 38, ground := Go.Ground.chain }], guard := none }) (v := ?v95) rfl (by kernel_rfl) (by kernel_rfl) (by kernel_rfl) (fun _ _ _ h => h) (Or.inl ⟨by rfl, ?hy95⟩) hHeld ?rest95
      case hy95 => (intro w hSw; (try dsimp only at hSw); go_simp; (first | done | with_reducible rfl))
      try simp only [Act.put, List.setIfInBounds_toArray, List.set_cons_zero, List.set_cons_succ]
      refine wpAnyH_ready (rs := [43]) (by kernel_rfl) (by simp) ?_
      refine AllReadyH.cons (o := bsums_6_43) rfl (fun K hK => ?_) (AllReadyH.nil)
      dsimp only [bsums_6_43]
      go_simp
      refine (ht _ E).mono ?_
      rintro e w72 ⟨rfl, x⟩
      have z96 := x.size
      replace E := E.trans x
      replace LB5 := LB5.ext x
      replace LB7 := LB7.ext x
      replace LB8 := LB8.ext x
      replace HB := HB.ext x
      replace HX := HX.ext x
      replace HY := HY.ext x
      clear x
      clear hHeld
      have hHeld := And.intro LB5 (And.intro LB7 (LB8))
      refine hK.out _ _ hHeld (fun _ => ?_)
      clear hK K
      try simp only [Act.put, List.setIfInBounds_toArray, List.set_cons_zero, List.set_cons_succ]
      refine wpAnyH_take (i := 44) (oi := { dst := some 73, op := Go.Op.pick (Go.Operand.tmp 71) (Go.Operand.tmp 72) (Go.Operand.const (Go.Value.bool false)), type := 4, pos := "law.go:105", after := #[{ on := 42, ground := Go.Ground.data }, { on := 43, ground := Go.Ground.data }], guard := none }) (v := ?v97) rfl (by kernel_rfl) (by kernel_rfl) (by kernel_rfl) (fun _ _ _ h => h) (Or.inl ⟨by rfl, ?hy97⟩) hHeld ?rest97
      case hy97 => (intro w hSw; (try dsimp only at hSw); go_simp; (first | done | with_reducible rfl))
      try simp only [Act.put, List.setIfInBounds_toArray, List.set_cons_zero, List.set_cons_succ]
      refine wpAnyH_take (i := 45) (oi := { dst := some 4, op := Go.Op.assign (Go.Operand.tmp 73), type := 4, pos := "law.go:105", after := #[{ on := 44, ground := Go.Ground.data }, { on := 43, ground := Go.Ground.chain }, { on := 0, ground := Go.Ground.phase }, { on := 1, ground := Go.Ground.phase }, { on := 2, ground := Go.Ground.phase }, { on := 3, ground := Go.Ground.phase }, { on := 4, ground := Go.Ground.phase }, { on := 5, ground := Go.Ground.phase }, { on := 6, ground := Go.Ground.phase }, { on := 7, ground := Go.Ground.phase }, { on := 8, ground := Go.Ground.phase }, { on := 9, ground := Go.Ground.phase }, { on := 10, ground := Go.Ground.phase }, { on := 11, ground := Go.Ground.phase }, { on := 12, ground := Go.Ground.phase }, { on := 13, ground := Go.Ground.phase }, { on := 14, ground := Go.Ground.phase }, { on := 15, ground := Go.Ground.phase }, { on := 16, ground := Go.Ground.phase }, { on := 17, ground := Go.Ground.phase }, { on := 18, ground := Go.Ground.phase }, { on := 19, ground := Go.Ground.phase }, { on := 20, ground := Go.Ground.phase }, { on := 21, ground := Go.Ground.phase }, { on := 22, ground := Go.Ground.phase }, { on := 23, ground := Go.Ground.phase }, { on := 24, ground := Go.Ground.phase }, { on := 25, ground := Go.Ground.phase }, { on := 26, ground := Go.Ground.phase }, { on := 27, ground := Go.Ground.phase }, { on := 28, ground := Go.Ground.phase }, { on := 29, ground := Go.Ground.phase }, { on := 30, ground := Go.Ground.phase }, { on := 31, ground := Go.Ground.phase }, { on := 32, ground := Go.Ground.phase }, { on := 33, ground := Go.Ground.phase }, { on := 34, ground := Go.Ground.phase }, { on := 35, ground := Go.Ground.phase }, { on := 36, ground := Go.Ground.phase }, { on := 37, ground := Go.Ground.phase }, { on := 38, ground := Go.Ground.phase }, { on := 39, ground := Go.Ground.phase }, { on := 40, ground := Go.Ground.phase }, { on := 41, ground := Go.Ground.phase }, { on := 42, ground := Go.Ground.phase }, { on := 43, ground := Go.Ground.phase }, { on := 44, ground := Go.Ground.phase }], guard := none }) (v := ?v98) rfl (by kernel_rfl) (by kernel_rfl) (by kernel_rfl) (fun _ _ _ h => h) (Or.inl ⟨by rfl, ?hy98⟩) hHeld ?rest98
      case hy98 => (intro w hSw; (try dsimp only at hSw); go_simp; (first | done | with_reducible rfl))
      try simp only [Act.put, List.setIfInBounds_toArray, List.set_cons_zero, List.set_cons_succ]
      refine wpAnyH_done (by kernel_rfl) ?_ _
      refine JD6_0 w72 ?_
      exact ⟨by omega, E, LB5, LB7, LB8⟩
    · intro wD6_0 hJ
      obtain ⟨z99, E, LB5, LB7, LB8⟩ := hJ
      try dsimp only
      go_wp2_with fail
      go_ret
      exact ⟨rfl, E⟩
end Go.Proofs.YtmjikdkdccnbaaaDoor
