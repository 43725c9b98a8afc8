/- env's contracts at a frame with its maps. -/
import Derived.Test.YtdkgiklbmbkdaaaEc
import Derived.Maps.AppendAt
namespace Go.Proofs.Ytdkgiklbmbkdaaa
open Go.ChangeShapes Go.WideShapes Go.RowKit Go.Maps Bv Fl
set_option maxHeartbeats 1000000
set_option maxRecDepth 100000
theorem wrap_small {x : Int} (h0 : 0 ≤ x) (h1 : x < 9223372036854775808) : IntKind.i64.wrap x = x := by
  simp only [IntKind.wrap, IntKind.bits, IntKind.signed]
  simp
  repeat (first | split | omega)
/-- W, but for block g -/
def Grw (W : World) (g : Nat) (w : World) : Prop := W.grownBy w (some g)
theorem Grw.out {W w : World} {g : Nat} (h : Grw W g w) : W.grownBy w (some g) := h
theorem Grw.refl (W : World) (g : Nat) : Grw W g W := ⟨rfl, rfl, rfl, Nat.le_refl _, fun _ _ _ => rfl⟩
theorem Grw.ext {W w w' : World} {g : Nat} (h : Grw W g w) (hx : Ext w w') : Grw W g w' := World.grownBy.trans h ⟨hx.os, hx.tape, hx.output, hx.size, fun i hi _ => hx.block i hi⟩
theorem Grw.up {W w w' : World} {g : Nat} (h : Grw W g w) (hg : w.grownBy w' (some g)) : Grw W g w' := World.grownBy.trans h hg
theorem upd_A {op : Oper} {a : Act} {w : World} {K : Act → World → Prop} {Q : Exit → Act → World → Prop} {m x v : Operand} (ho : op.op = .mapUpdate 59 m x v) {b n : Nat} {D : DataW Value} {s : ByteArray} {val : Value}
    (hm : a.eval m = .map (some b)) (hx : a.eval x = .string s) (hv : a.eval v = val) (hown : OM w b n D) (hs : s.size ≤ maxLen) (hn : n < maxLen)
    (h : ∀ w', OM w' b (n + 1) (D.put (.string s.data.toList) (.held val)) → w.grownBy w' (some b) → w.heap.size ≤ w'.heap.size → K (a.put op.dst undef) w') : op.wp Try.prog a w K Q := by
  obtain ⟨w', hrun, r1, r2⟩ := World.ownsMap.store hown lawS Try.underlying59 hn (keyS hs) (val := val) (d := .held val) (ps := []) rfl
  unfold Oper.wp
  simp [execOp, ho, hm, hx, hv, hrun, Result.andThen]
  exact h w' r1 r2.grown r2.grown.size
theorem OM.lenA {w : World} {b n : Nat} {D : DataW Value} (h : OM w b n D) (ty : TypeId) : (Builtin.len_ #[59] ty #[.map (some b)]).run Try.prog w = .ok (.int .i64 (Maps.size D)) w := World.ownsMap.len h Try.underlying59 ty
theorem OM.lenC {w : World} {b n : Nat} {D : DataW Value} (h : OM w b n D) (ty : TypeId) : (Builtin.len_ #[60] ty #[.map (some b)]).run Try.prog w = .ok (.int .i64 (Maps.size D)) w := World.ownsMap.len h Try.underlying60 ty
theorem OM.fitA {w : World} {b n : Nat} {D : DataW Value} {v : Value} (h : OM w b n D) {s : ByteArray} (hs : s.size ≤ maxLen) (hv : .held v = D.atKey (.string s.data.toList) (.held zeroArr)) (w' : World) (hx : Ext w w') : (Instr.lookup 59 (.map (some b)) (.string s) true).run Try.prog w' = .ok (.tuple #[v, .bool (Maps.has D (.string s.data.toList))]) w' := by
  obtain ⟨v', h1, h2⟩ := (h.ext hx).lookA hs
  rw [← hv] at h2
  cases h2
  exact h1
theorem joinK0 {F KA : World → Prop} {G : Prop} (h : (∀ w, F w → KA w) → G) (t : ∀ w, F w → KA w) : G := h t
abbrev seta_7_6 : Go.Oper := { dst := none, op := Go.Op.mapUpdate 59 (Go.Operand.tmp 29) (Go.Operand.tmp 30) (Go.Operand.tmp 31), type := 0, pos := "env.go:76", after := #[{ on := 3, ground := Go.Ground.data }, { on := 4, ground := Go.Ground.data }, { on := 5, ground := Go.Ground.data }, { on := 0, ground := Go.Ground.phase }, { on := 1, ground := Go.Ground.phase }, { on := 2, ground := Go.Ground.phase }, { on := 3, ground := Go.Ground.phase }, { on := 4, ground := Go.Ground.phase }, { on := 5, ground := Go.Ground.phase }], guard := none }
section
variable (w : World) (s : ByteArray) (hs : s.size ≤ maxLen) (B bm bf : Nat)
theorem room_ok (C1 : w.cell? ⟨B, 1, none⟩ = some (.map (some bm))) (C2 : w.cell? ⟨B, 2, none⟩ = some (.map (some bf))) (z1 z2 : Nat) (hz : z1 + z2 < 64) (L1 : ∀ w', Ext w w' → ∀ ty, (Builtin.len_ #[59] ty #[.map (some bm)]).run Try.prog w' = .ok (.int .i64 (z1 : Int)) w') (L2 : ∀ w', Ext w w' → ∀ ty, (Builtin.len_ #[60] ty #[.map (some bf)]).run Try.prog w' = .ok (.int .i64 (z2 : Int)) w') : Calls Try.prog 19 #[.pointer (some ⟨B, 0, none⟩), .bool false] w fun e w' => e = .returned (.int .i64 0) ∧ Ext w w' := by
  have hm : ∀ w, (binOp .eql 59 (.map (some bm)) (.map none)).run Try.prog w = .ok (.bool false) w := fun w => run_eql_map_nil w _ _ _ (some bm) Try.underlying59
  have E := Ext.refl w
  go_enter Try.func19, Try.ntmps19
  go_wp2_with fail
  try simp only [Act.put, List.setIfInBounds_toArray, List.set_cons_zero, List.set_cons_succ]
  apply joinK0 (F := fun (wS3 : World) => w.heap.size ≤ wS3.heap.size ∧ Ext w wS3 ∧ wS3.cell? ⟨B, 1, none⟩ = some (.map (some bm)) ∧ wS3.cell? ⟨B, 2, none⟩ = some (.map (some bf)))
  · intro J
    refine J w ?_
    exact ⟨Nat.le_refl _, E, C1, C2⟩
  intro wS3 hJS
  clear E C1 C2
  refine wp_region_held_drew (S := (fun w' => w'.cell? ⟨B, 1, none⟩ = some (.map (some bm)) ∧ w'.cell? ⟨B, 2, none⟩ = some (.map (some bf)) ∧ (∀ ty, (Builtin.len_ #[59] ty #[.map (some bm)]).run Try.prog w' = .ok (.int .i64 (z1 : Int)) w') ∧ (∀ ty, (Builtin.len_ #[60] ty #[.map (some bf)]).run Try.prog w' = .ok (.int .i64 (z2 : Int)) w'))) (by kernel_rfl) (by obtain ⟨z3, E, C1, C2⟩ := hJS; exact ⟨(C1), (C2), (L1 _ E.drew), (L2 _ E.drew)⟩) (fun hH0 => ?_)
  · have hJQ := hJS
    obtain ⟨z3, E, C1, C2⟩ := hJQ
    have hq4 : wS3.heap.size ≤ wS3.drew.heap.size := Nat.le_refl _
    have z5 := (Ext.refl wS3).drew.size
    replace E := E.trans (Ext.refl wS3).drew
    replace C1 := cell_ext ((Ext.refl wS3).drew) C1
    replace C2 := cell_ext ((Ext.refl wS3).drew) C2
    have hHeld := And.intro (C1) (And.intro (C2) (And.intro (L1 _ E) ((L2 _ E))))
    refine wpAnyH_take (i := 0) (oi := { dst := some 16, op := Go.Op.move (Go.Operand.tmp 1), type := 4, pos := "env.go:61", after := #[], guard := none }) (v := ?v6) rfl (by kernel_rfl) (by kernel_rfl) (by kernel_rfl) (fun _ _ _ h => h) (Or.inl ⟨by rfl, ?hy6⟩) hHeld ?rest6
    case hy6 => (intro w hSw; (try dsimp only at hSw); obtain ⟨hS0, hS1, hS2, hS3⟩ := hSw; go_simp; (first | done | with_reducible rfl))
    try simp only [Act.put, List.setIfInBounds_toArray, List.set_cons_zero, List.set_cons_succ]
    refine wpAnyH_take (i := 1) (oi := { dst := some 17, op := Go.Op.unOp Go.UnOp.not 4 (Go.Operand.tmp 16), type := 4, pos := "env.go:61", after := #[{ on := 0, ground := Go.Ground.data }], guard := none }) (v := ?v7) rfl (by kernel_rfl) (by kernel_rfl) (by kernel_rfl) (fun _ _ _ h => h) (Or.inl ⟨by rfl, ?hy7⟩) hHeld ?rest7
    case hy7 => (intro w hSw; (try dsimp only at hSw); obtain ⟨hS0, hS1, hS2, hS3⟩ := hSw; go_simp; (first | done | with_reducible rfl))
    try simp only [Act.put, List.setIfInBounds_toArray, List.set_cons_zero, List.set_cons_succ]
    refine wpAnyH_take (i := 2) (oi := { dst := some 18, op := Go.Op.move (Go.Operand.tmp 17), type := 4, pos := "env.go:61", after := #[{ on := 1, ground := Go.Ground.data }], guard := none }) (v := ?v8) rfl (by kernel_rfl) (by kernel_rfl) (by kernel_rfl) (fun _ _ _ h => h) (Or.inl ⟨by rfl, ?hy8⟩) hHeld ?rest8
    case hy8 => (intro w hSw; (try dsimp only at hSw); obtain ⟨hS0, hS1, hS2, hS3⟩ := hSw; go_simp; (first | done | with_reducible rfl))
    try simp only [Act.put, List.setIfInBounds_toArray, List.set_cons_zero, List.set_cons_succ]
    refine wpAnyH_take (i := 3) (oi := { dst := some 19, op := Go.Op.move (Go.Operand.tmp 0), type := 24, pos := "env.go:61", after := #[{ on := 2, ground := Go.Ground.guard }], guard := some (2, true) }) (v := ?v9) rfl (by kernel_rfl) (by kernel_rfl) (by kernel_rfl) (fun _ _ _ h => h) (Or.inl ⟨by rfl, ?hy9⟩) hHeld ?rest9
    case hy9 => (intro w hSw; (try dsimp only at hSw); obtain ⟨hS0, hS1, hS2, hS3⟩ := hSw; go_simp; (first | done | with_reducible rfl))
    try simp only [Act.put, List.setIfInBounds_toArray, List.set_cons_zero, List.set_cons_succ]
    refine wpAnyH_take (i := 4) (oi := { dst := some 20, op := Go.Op.nilCheck (Go.Operand.tmp 19), type := 0, pos := "env.go:61", after := #[{ on := 3, ground := Go.Ground.data }, { on := 2, ground := Go.Ground.guard }], guard := some (2, true) }) (v := ?v10) rfl (by kernel_rfl) (by kernel_rfl) (by kernel_rfl) (fun _ _ _ h => h) (Or.inl ⟨by rfl, ?hy10⟩) hHeld ?rest10
    case hy10 => (intro w hSw; (try dsimp only at hSw); obtain ⟨hS0, hS1, hS2, hS3⟩ := hSw; go_simp; (first | done | with_reducible rfl))
    try simp only [Act.put, List.setIfInBounds_toArray, List.set_cons_zero, List.set_cons_succ]
    refine wpAnyH_take (i := 5) (oi := { dst := some 21, op := Go.Op.fieldAddr 62 (Go.Operand.tmp 20) 1, type := 0, pos := "env.go:61", after := #[{ on := 4, ground := Go.Ground.data }, { on := 2, ground := Go.Ground.guard }], guard := some (2, true) }) (v := ?v11) rfl (by kernel_rfl) (by kernel_rfl) (by kernel_rfl) (fun _ _ _ h => h) (Or.inl ⟨by rfl, ?hy11⟩) hHeld ?rest11
    case hy11 => (intro w hSw; (try dsimp only at hSw); obtain ⟨hS0, hS1, hS2, hS3⟩ := hSw; go_simp; (first | done | with_reducible rfl))
    try simp only [Act.put, List.setIfInBounds_toArray, List.set_cons_zero, List.set_cons_succ]
    refine wpAnyH_take (i := 6) (oi := { dst := some 22, op := Go.Op.load 59 (Go.Operand.tmp 21), type := 59, pos := "env.go:61", after := #[{ on := 5, ground := Go.Ground.data }, { on := 2, ground := Go.Ground.guard }], guard := some (2, true) }) (v := .map (some bm)) rfl (by kernel_rfl) (by kernel_rfl) (by kernel_rfl) (fun _ _ _ h => h) (Or.inl ⟨by rfl, ?hy12⟩) hHeld ?rest12
    case hy12 => (intro w hSw; (try dsimp only at hSw); obtain ⟨hS0, hS1, hS2, hS3⟩ := hSw; go_simp; try (first | done | (simp [hS2]; done) | (simp [hS3]; done) | (simp; omega) | omega); (first | done | with_reducible rfl))
    try simp only [Act.put, List.setIfInBounds_toArray, List.set_cons_zero, List.set_cons_succ]
    refine wpAnyH_take (i := 7) (oi := { dst := some 23, op := Go.Op.call { callee := Go.Callee.builtin Go.Builtin.len, args := #[Go.Operand.tmp 22], argTypes := #[59] }, type := 3, pos := "env.go:61", after := #[{ on := 6, ground := Go.Ground.data }, { on := 2, ground := Go.Ground.chain }, { on := 2, ground := Go.Ground.guard }], guard := some (2, true) }) (v := .int .i64 (z1 : Int)) rfl (by kernel_rfl) (by kernel_rfl) (by kernel_rfl) (fun _ _ _ h => h) (Or.inl ⟨by rfl, ?hy13⟩) hHeld ?rest13
    case hy13 => (intro w hSw; (try dsimp only at hSw); obtain ⟨hS0, hS1, hS2, hS3⟩ := hSw; go_simp; try (first | done | (simp [hS2]; done) | (simp [hS3]; done) | (simp; omega) | omega); (first | done | with_reducible rfl))
    try simp only [Act.put, List.setIfInBounds_toArray, List.set_cons_zero, List.set_cons_succ]
    refine wpAnyH_take (i := 8) (oi := { dst := some 24, op := Go.Op.move (Go.Operand.tmp 0), type := 24, pos := "env.go:61", after := #[{ on := 2, ground := Go.Ground.guard }], guard := some (2, true) }) (v := ?v14) rfl (by kernel_rfl) (by kernel_rfl) (by kernel_rfl) (fun _ _ _ h => h) (Or.inl ⟨by rfl, ?hy14⟩) hHeld ?rest14
    case hy14 => (intro w hSw; (try dsimp only at hSw); obtain ⟨hS0, hS1, hS2, hS3⟩ := hSw; go_simp; (first | done | with_reducible rfl))
    try simp only [Act.put, List.setIfInBounds_toArray, List.set_cons_zero, List.set_cons_succ]
    refine wpAnyH_take (i := 9) (oi := { dst := some 25, op := Go.Op.nilCheck (Go.Operand.tmp 24), type := 0, pos := "env.go:61", after := #[{ on := 8, ground := Go.Ground.data }, { on := 2, ground := Go.Ground.guard }], guard := some (2, true) }) (v := ?v15) rfl (by kernel_rfl) (by kernel_rfl) (by kernel_rfl) (fun _ _ _ h => h) (Or.inl ⟨by rfl, ?hy15⟩) hHeld ?rest15
    case hy15 => (intro w hSw; (try dsimp only at hSw); obtain ⟨hS0, hS1, hS2, hS3⟩ := hSw; go_simp; (first | done | with_reducible rfl))
    try simp only [Act.put, List.setIfInBounds_toArray, List.set_cons_zero, List.set_cons_succ]
    refine wpAnyH_take (i := 10) (oi := { dst := some 26, op := Go.Op.fieldAddr 62 (Go.Operand.tmp 25) 2, type := 0, pos := "env.go:61", after := #[{ on := 9, ground := Go.Ground.data }, { on := 2, ground := Go.Ground.guard }], guard := some (2, true) }) (v := ?v16) rfl (by kernel_rfl) (by kernel_rfl) (by kernel_rfl) (fun _ _ _ h => h) (Or.inl ⟨by rfl, ?hy16⟩) hHeld ?rest16
    case hy16 => (intro w hSw; (try dsimp only at hSw); obtain ⟨hS0, hS1, hS2, hS3⟩ := hSw; go_simp; (first | done | with_reducible rfl))
    try simp only [Act.put, List.setIfInBounds_toArray, List.set_cons_zero, List.set_cons_succ]
    refine wpAnyH_take (i := 11) (oi := { dst := some 27, op := Go.Op.load 60 (Go.Operand.tmp 26), type := 60, pos := "env.go:61", after := #[{ on := 10, ground := Go.Ground.data }, { on := 2, ground := Go.Ground.guard }], guard := some (2, true) }) (v := .map (some bf)) rfl (by kernel_rfl) (by kernel_rfl) (by kernel_rfl) (fun _ _ _ h => h) (Or.inl ⟨by rfl, ?hy17⟩) hHeld ?rest17
    case hy17 => (intro w hSw; (try dsimp only at hSw); obtain ⟨hS0, hS1, hS2, hS3⟩ := hSw; go_simp; try (first | done | (simp [hS2]; done) | (simp [hS3]; done) | (simp; omega) | omega); (first | done | with_reducible rfl))
    try simp only [Act.put, List.setIfInBounds_toArray, List.set_cons_zero, List.set_cons_succ]
    refine wpAnyH_take (i := 12) (oi := { dst := some 28, op := Go.Op.call { callee := Go.Callee.builtin Go.Builtin.len, args := #[Go.Operand.tmp 27], argTypes := #[60] }, type := 3, pos := "env.go:61", after := #[{ on := 11, ground := Go.Ground.data }, { on := 7, ground := Go.Ground.chain }, { on := 2, ground := Go.Ground.guard }], guard := some (2, true) }) (v := .int .i64 (z2 : Int)) rfl (by kernel_rfl) (by kernel_rfl) (by kernel_rfl) (fun _ _ _ h => h) (Or.inl ⟨by rfl, ?hy18⟩) hHeld ?rest18
    case hy18 => (intro w hSw; (try dsimp only at hSw); obtain ⟨hS0, hS1, hS2, hS3⟩ := hSw; go_simp; try (first | done | (simp [hS2]; done) | (simp [hS3]; done) | (simp; omega) | omega); (first | done | with_reducible rfl))
    try simp only [Act.put, List.setIfInBounds_toArray, List.set_cons_zero, List.set_cons_succ]
    refine wpAnyH_take (i := 13) (oi := { dst := some 29, op := Go.Op.binOp Go.BinOp.add 3 (Go.Operand.tmp 23) (Go.Operand.tmp 28) 3, type := 3, pos := "env.go:61", after := #[{ on := 7, ground := Go.Ground.data }, { on := 12, ground := Go.Ground.data }, { on := 2, ground := Go.Ground.guard }], guard := some (2, true) }) (v := .int .i64 ((z1 : Int) + (z2 : Int))) rfl (by kernel_rfl) (by kernel_rfl) (by kernel_rfl) (fun _ _ _ h => h) (Or.inl ⟨by rfl, ?hy19⟩) hHeld ?rest19
    case hy19 => (intro w hSw; (try dsimp only at hSw); obtain ⟨hS0, hS1, hS2, hS3⟩ := hSw; go_simp; try (first | done | exact wrap_small (by omega) (by omega) | (rw [wrap_small (by omega) (by omega)]; done)); (first | done | with_reducible rfl))
    try simp only [Act.put, List.setIfInBounds_toArray, List.set_cons_zero, List.set_cons_succ]
    refine wpAnyH_take (i := 14) (oi := { dst := some 30, op := Go.Op.binOp Go.BinOp.geq 3 (Go.Operand.tmp 29) (Go.Operand.const (Go.Value.int Go.IntKind.i64 64)) 3, type := 4, pos := "env.go:61", after := #[{ on := 13, ground := Go.Ground.data }, { on := 2, ground := Go.Ground.guard }], guard := some (2, true) }) (v := .bool false) rfl (by kernel_rfl) (by kernel_rfl) (by kernel_rfl) (fun _ _ _ h => h) (Or.inl ⟨by rfl, ?hy20⟩) hHeld ?rest20
    case hy20 => (intro w hSw; (try dsimp only at hSw); obtain ⟨hS0, hS1, hS2, hS3⟩ := hSw; go_simp; try (first | done | (simp [hS2]; done) | (simp [hS3]; done) | (simp; omega) | omega); (first | done | with_reducible rfl))
    try simp only [Act.put, List.setIfInBounds_toArray, List.set_cons_zero, List.set_cons_succ]
    refine wpAnyH_take (i := 15) (oi := { dst := some 31, op := Go.Op.pick (Go.Operand.tmp 18) (Go.Operand.tmp 30) (Go.Operand.const (Go.Value.bool false)), type := 4, pos := "env.go:61", after := #[{ on := 2, ground := Go.Ground.data }, { on := 14, ground := Go.Ground.data }], guard := none }) (v := ?v21) rfl (by kernel_rfl) (by kernel_rfl) (by kernel_rfl) (fun _ _ _ h => h) (Or.inl ⟨by rfl, ?hy21⟩) hHeld ?rest21
    case hy21 => (intro w hSw; (try dsimp only at hSw); obtain ⟨hS0, hS1, hS2, hS3⟩ := hSw; go_simp; (first | done | with_reducible rfl))
    try simp only [Act.put, List.setIfInBounds_toArray, List.set_cons_zero, List.set_cons_succ]
    refine wpAnyH_take (i := 16) (oi := { dst := some 15, op := Go.Op.assign (Go.Operand.tmp 31), type := 4, pos := "env.go:61", after := #[{ on := 15, ground := Go.Ground.data }, { on := 12, ground := Go.Ground.chain }], guard := none }) (v := ?v22) rfl (by kernel_rfl) (by kernel_rfl) (by kernel_rfl) (fun _ _ _ h => h) (Or.inl ⟨by rfl, ?hy22⟩) hHeld ?rest22
    case hy22 => (intro w hSw; (try dsimp only at hSw); obtain ⟨hS0, hS1, hS2, hS3⟩ := hSw; go_simp; (first | done | with_reducible rfl))
    try simp only [Act.put, List.setIfInBounds_toArray, List.set_cons_zero, List.set_cons_succ]
    refine wpAnyH_done (by kernel_rfl) ?_ _
    go_wp2_with fail
    go_ret
    exact ⟨rfl, E⟩
include hs in
theorem set_ok (w0 : World) (E : Ext w0 w) (h0 : w0.heap.size ≤ bm) (_ : B < w.heap.size) (C1 : w.cell? ⟨B, 1, none⟩ = some (.map (some bm))) (hBm : B ≠ bm) (n : Nat) (D : DataW Value) (hn : n < 1000) (HD : OM w bm n D) (v v0 : Value) (hv : Flat 9 v)
    (hl : ∀ w', Ext w w' → (Instr.lookup 59 (.map (some bm)) (.string s) true).run Try.prog w' = .ok (.tuple #[v0, .bool false]) w')
    (cr : ∀ w', Ext w w' → Calls Try.prog 19 #[.pointer (some ⟨B, 0, none⟩), .bool false] w' fun e w2 => e = .returned (.int .i64 0) ∧ Ext w' w2) :
    Calls Try.prog 7 #[.pointer (some ⟨B, 0, none⟩), .string s, v] w fun e w' => e = .returned (.int .i64 0) ∧ OM w' bm (n + 1) (D.put (.string s.data.toList) (.held v)) ∧ Grw w bm w' ∧ Ext w0 w' := by
  have hbm := HD.lt
  have hml : (1000 : Nat) < maxLen := by simp only [maxLen]; omega
  have EW := Ext.refl w
  have HG := Grw.refl w bm
  go_enter Try.func7, Try.ntmps7
  have TB5 : True := trivial
  go_wp2_with (clear TB5; refine boxsA (v := v) rfl rfl rfl hv ?_; intro B5 w5 bB5 cB5 XB5 LB5 RB5; have z1 := XB5.size; replace E := E.trans XB5; replace C1 := cell_ext (XB5) C1; replace HD := HD.ext XB5; replace EW := EW.trans XB5; replace HG := HG.ext XB5; clear RB5)
  refine (cr _ EW).mono ?_
  rintro e w22 ⟨rfl, x⟩
  have z2 := x.size
  replace E := E.trans x
  replace C1 := cell_ext (x) C1
  replace HD := HD.ext x
  replace EW := EW.trans x
  replace HG := HG.ext x
  replace LB5 := LB5.ext x
  clear x
  go_wp2_with fail
  try simp only [Act.put, List.setIfInBounds_toArray, List.set_cons_zero, List.set_cons_succ]
  apply joinK0 (F := fun (wS7 : World) => w22.heap.size ≤ wS7.heap.size ∧ Ext w0 wS7 ∧ Lay 9 wS7 B5 v ∧ wS7.cell? ⟨B, 1, none⟩ = some (.map (some bm)) ∧ OM wS7 bm n D ∧ Grw w bm wS7)
  · intro J
    refine J w22 ?_
    exact ⟨Nat.le_refl _, E, LB5, C1, HD, HG⟩
  intro wS7 hJS
  clear E C1 HD EW HG LB5
  refine wp_region_held_drew (S := (fun w' => Lay 9 w' B5 v ∧ w'.cell? ⟨B, 1, none⟩ = some (.map (some bm)))) (by kernel_rfl) (by obtain ⟨z5, E, LB5, C1, HD, HG⟩ := hJS; exact ⟨LB5, (C1)⟩) (fun hH0 => ?_)
  apply joinK0 (F := fun (wD7_0 : World) => wS7.heap.size ≤ wD7_0.heap.size ∧ Ext w0 wD7_0 ∧ Lay 9 wD7_0 B5 v ∧ OM wD7_0 bm (n + 1) (D.put (.string s.data.toList) (.held v)) ∧ Grw w bm wD7_0)
  intro JD7_0
  · have hJQ := hJS
    obtain ⟨z5, E, LB5, C1, HD, HG⟩ := hJQ
    have hq6 : wS7.heap.size ≤ wS7.drew.heap.size := Nat.le_refl _
    have z7 := (Ext.refl wS7).drew.size
    replace E := E.trans (Ext.refl wS7).drew
    replace LB5 := LB5.ext (Ext.refl wS7).drew
    replace C1 := cell_ext ((Ext.refl wS7).drew) C1
    replace HD := HD.ext (Ext.refl wS7).drew
    replace HG := HG.ext (Ext.refl wS7).drew
    have hHeld := And.intro LB5 ((C1))
    refine wpAnyH_take (i := 0) (oi := { dst := some 26, op := Go.Op.move (Go.Operand.tmp 0), type := 24, pos := "env.go:76", after := #[], guard := none }) (v := ?v8) rfl (by kernel_rfl) (by kernel_rfl) (by kernel_rfl) (fun _ _ _ h => h) (Or.inl ⟨by rfl, ?hy8⟩) hHeld ?rest8
    case hy8 => (intro w hSw; (try dsimp only at hSw); obtain ⟨hS0, hS1⟩ := hSw; go_simp; (first | done | with_reducible rfl))
    try simp only [Act.put, List.setIfInBounds_toArray, List.set_cons_zero, List.set_cons_succ]
    refine wpAnyH_take (i := 1) (oi := { dst := some 27, op := Go.Op.nilCheck (Go.Operand.tmp 26), type := 0, pos := "env.go:76", after := #[{ on := 0, ground := Go.Ground.data }], guard := none }) (v := ?v9) rfl (by kernel_rfl) (by kernel_rfl) (by kernel_rfl) (fun _ _ _ h => h) (Or.inl ⟨by rfl, ?hy9⟩) hHeld ?rest9
    case hy9 => (intro w hSw; (try dsimp only at hSw); obtain ⟨hS0, hS1⟩ := hSw; go_simp; (first | done | with_reducible rfl))
    try simp only [Act.put, List.setIfInBounds_toArray, List.set_cons_zero, List.set_cons_succ]
    refine wpAnyH_take (i := 2) (oi := { dst := some 28, op := Go.Op.fieldAddr 62 (Go.Operand.tmp 27) 1, type := 0, pos := "env.go:76", after := #[{ on := 1, ground := Go.Ground.data }], guard := none }) (v := ?v10) rfl (by kernel_rfl) (by kernel_rfl) (by kernel_rfl) (fun _ _ _ h => h) (Or.inl ⟨by rfl, ?hy10⟩) hHeld ?rest10
    case hy10 => (intro w hSw; (try dsimp only at hSw); obtain ⟨hS0, hS1⟩ := hSw; go_simp; (first | done | with_reducible rfl))
    try simp only [Act.put, List.setIfInBounds_toArray, List.set_cons_zero, List.set_cons_succ]
    refine wpAnyH_take (i := 3) (oi := { dst := some 29, op := Go.Op.load 59 (Go.Operand.tmp 28), type := 59, pos := "env.go:76", after := #[{ on := 2, ground := Go.Ground.data }], guard := none }) (v := .map (some bm)) rfl (by kernel_rfl) (by kernel_rfl) (by kernel_rfl) (fun _ _ _ h => h) (Or.inl ⟨by rfl, ?hy11⟩) hHeld ?rest11
    case hy11 => (intro w hSw; (try dsimp only at hSw); obtain ⟨hS0, hS1⟩ := hSw; go_simp; (first | done | with_reducible rfl))
    try simp only [Act.put, List.setIfInBounds_toArray, List.set_cons_zero, List.set_cons_succ]
    refine wpAnyH_take (i := 4) (oi := { dst := some 30, op := Go.Op.move (Go.Operand.tmp 1), type := 9, pos := "env.go:76", after := #[], guard := none }) (v := ?v12) rfl (by kernel_rfl) (by kernel_rfl) (by kernel_rfl) (fun _ _ _ h => h) (Or.inl ⟨by rfl, ?hy12⟩) hHeld ?rest12
    case hy12 => (intro w hSw; (try dsimp only at hSw); obtain ⟨hS0, hS1⟩ := hSw; go_simp; (first | done | with_reducible rfl))
    try simp only [Act.put, List.setIfInBounds_toArray, List.set_cons_zero, List.set_cons_succ]
    refine wpAnyH_take (i := 5) (oi := { dst := some 31, op := Go.Op.load 49 (Go.Operand.tmp 5), type := 49, pos := "env.go:76", after := #[], guard := none }) (v := v) rfl (by kernel_rfl) (by kernel_rfl) (by kernel_rfl) (fun _ _ _ h => h) (yieldA (by rfl) rfl rfl fun w' hx => hx.1) hHeld ?_
    try simp only [Act.put, List.setIfInBounds_toArray, List.set_cons_zero, List.set_cons_succ]
    refine wpAnyH_ready (rs := [6]) (by kernel_rfl) (by simp) ?_
    refine AllReadyH.cons (o := seta_7_6) rfl (fun K hK => ?_) (AllReadyH.nil)
    dsimp only [seta_7_6]
    rw [if_pos (by rfl)]
    refine upd_A (by rfl) (by rfl) (by rfl) (by rfl) HD hs (by omega) ?_
    intro wMU HD2 HGQ hsz
    replace E := grown_ext E HGQ (by omega)
    replace HG := HG.up HGQ
    clear HD
    replace C1 := cell_grown HGQ C1 (by show B ≠ _; omega)
    replace LB5 := LB5.grown HGQ (by omega)
    clear HGQ
    clear hHeld
    have hHeld := And.intro LB5 ((C1))
    refine hK.out _ _ hHeld (fun _ => ?_)
    clear hK K
    try simp only [Act.put]
    refine wpAnyH_done (by kernel_rfl) ?_ _
    refine JD7_0 wMU ?_
    exact ⟨by omega, E, LB5, HD2, HG⟩
  · intro wD7_0 hJ
    obtain ⟨z14, E, LB5, HD2, HG⟩ := hJ
    try dsimp only
    go_wp2_with fail
    go_ret
    exact ⟨rfl, HD2, HG, E⟩
theorem get_here (hB : B < w.heap.size) (C1 : w.cell? ⟨B, 1, none⟩ = some (.map (some bm))) (v : Value) (hv : Flat 9 v) (hl : ∀ w', Ext w w' → (Instr.lookup 59 (.map (some bm)) (.string s) true).run Try.prog w' = .ok (.tuple #[v, .bool true]) w') : Calls Try.prog 13 #[.pointer (some ⟨B, 0, none⟩), .string s] w fun e w' => e = .returned (.tuple #[v, .bool true]) ∧ Ext w w' := by
  have E := Ext.refl w
  go_enter Try.func13, Try.ntmps13
  have TB4 : True := trivial
  go_wp2_with (clear TB4; refine allocsA rfl rfl ?_; intro B4 w4 bB4 cB4 XB4 LB4 RB4; have z1 := XB4.size; replace E := E.trans XB4; replace C1 := cell_ext (XB4) C1)
  go_loopw [0] (fun e wr => e = .pointer (some ⟨B, 0, none⟩) ∧ Ext w4 wr) (fun _ _ => 0)
  case atStart => exact ⟨rfl, Ext.refl _⟩
  case round =>
    obtain ⟨rfl, HX⟩ := hrel
    have z2 := HX.size
    replace E := E.trans HX
    replace C1 := cell_ext (HX) C1
    replace LB4 := LB4.ext HX
    replace RB4 := RB4.ext HX
    by_cases hTT : True
    · have hl2 := hl wr E
      clear HX hl
      have TB6 : True := trivial
      have TG4 : True := trivial
      have TG6 : True := trivial
      go_wp2_with (first | (clear TB6; refine allocsA rfl rfl ?_; intro B6 w6 bB6 cB6 XB6 LB6 RB6; have z3 := XB6.size; replace E := E.trans XB6; replace C1 := cell_ext (XB6) C1; replace LB4 := LB4.ext XB6; replace RB4 := RB4.ext XB6) | (clear TG4; have hRl := (RB6).lt (Nat.zero_lt_succ _); refine storesA (B := B6) rfl rfl rfl (v := v) rfl RB6 hv ?_; clear LB6; intro s4 G4 LB6 RQ; have z5 := G4.size; replace E := grown_ext E G4 (by omega); replace C1 := cell_grown (G4) C1 (by show B ≠ _; omega); replace LB4 := LB4.grown G4 (by omega); replace RB4 := RB4.grown G4 (by omega); clear RB6; have RB6 := RQ; clear RQ hRl; clear RB6) | (refine loadsA (B := B6) (by rfl) rfl rfl LB6 ?_) | (clear TG6; have hRl := (RB4).lt (Nat.zero_lt_succ _); refine storesA (B := B4) rfl rfl rfl (v := v) rfl RB4 hv ?_; clear LB4; intro s6 G6 LB4 RQ; have z7 := G6.size; replace E := grown_ext E G6 (by omega); replace C1 := cell_grown (G6) C1 (by show B ≠ _; omega); replace LB6 := LB6.grown G6 (by omega); clear RB4; have RB4 := RQ; clear RQ hRl))
      refine bodyPost_ret (results_lay2 rfl rfl rfl (ldA LB4)) rfl ?_
      exact ⟨rfl, E⟩
    · exact absurd trivial hTT
theorem deep_any (d : Int) (C3 : w.cell? ⟨B, 3, none⟩ = some (.int .i64 d)) : Calls Try.prog 11 #[.pointer (some ⟨B, 0, none⟩)] w fun e w' => e = .returned (.int .i64 d) ∧ Ext w w' := by
  have E := Ext.refl w
  go_enter Try.func11, Try.ntmps11
  go_wp2_with fail
  go_ret
  exact ⟨rfl, E⟩
end
end Go.Proofs.Ytdkgiklbmbkdaaa
