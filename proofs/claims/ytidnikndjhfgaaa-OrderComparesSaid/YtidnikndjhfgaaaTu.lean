/- order.Compare of other classes, order.Has; an item loaded, Tidy's items. -/
import Derived.Test.YtidnikndjhfgaaaYi
import Derived.Test.YtidnikndjhfgaaaYk
import Derived.Test.YtidnikndjhfgaaaTi
import Derived.Test.YtidnikndjhfgaaaTe
namespace Go.Proofs.Ytidnikndjhfgaaa
open Go.ChangeShapes Go.WideShapes Go.RowKit Bv Fl
set_option maxHeartbeats 2000000
set_option maxRecDepth 100000
theorem cell_spot {w : World} {a : Addr} {u : Value} (h : w.cell? a = some u) : a = ⟨a.block, a.off, none⟩ := by
  obtain ⟨b, o, s⟩ := a
  cases s with
  | none => rfl
  | some s =>
    unfold World.cell? at h
    split at h
    · simp at h
    · cases h
theorem load_it {op : Oper} {a : Act} {w : World} {K : Act → World → Prop} {Q : Exit → Act → World → Prop} {x : Operand} (ho : op.op = .load 59 x)
    {p : Addr} (hx : a.eval x = .pointer (some p)) {y : It} (hl : ItAt w p y) (h : K (a.put op.dst y.val) w) : op.wp Try.prog a w K Q := by
  have hp := cell_spot hl.c0
  have hr : (loadVar 59 p).run Try.prog w = .ok y.val w := by
    have := run_loadVar_mid (P := Try.prog) w p.block p.off 59 y.cells _ (fun j v hv => by
      match j, hv with
      | 0, hv => cases hv; rw [Nat.add_zero, ← hp]; exact hl.c0
      | 1, hv => cases hv; exact hl.c1
      | 2, hv => cases hv; exact hl.c2
      | 3, hv => cases hv; exact hl.c3) Try.underlying59 rfl (by kernel_rfl)
    rw [← hp] at this
    exact this
  unfold Oper.wp execOp
  simp only [ho, hx, Instr.loadAt, Instr.sureAddr, Sem.run_bind, Sem.run_pure, Result.andThen_ok, hr]
  exact h
theorem rd_const {P : Prop} (h : P) (w : World) (S : Nat → Prop) : Rd (fun _ => P) w S := fun _ _ _ => h
theorem SlS.item {w : World} {A : Option Addr} {n : Nat} {L : List It} {S : Nat → Prop} (h : SlS w 4 A n (itc L) S) (hl : L.length = n) {k : Nat} (hk : k < n) : ∃ a, A = some a ∧ Rd (fun w' => ItAt w' (a.add (k * 4)) (L.getD k default)) w S := by
  obtain ⟨a, ea, _⟩ := it_at hl.symm h.is hk
  refine ⟨a, ea, fun w' hs hk' => ?_⟩
  obtain ⟨a', ea', hi⟩ := it_at hl.symm (h w' hs hk') hk
  rw [ea] at ea'
  cases ea'
  exact hi
/-- what Tidy makes of an item -/
def TdX (p : Pl) (k : Nat) (x : It) : Prop := (p.fill = 0 → x = ⟨0, dn (p.its.getD k default).num, 0, none, 0, 0⟩) ∧ (p.fill = 1 → x = ⟨1, 0, (p.its.getD k default).chr, none, 0, 0⟩)
theorem tidy_its (n : Nat) (w0 w : World) (p : Pl) (h : GoodD n w0 p) (hx0 : Ext w0 w) : Calls Try.prog 15 #[p.val] w (TdP (TdX p) p.sA p.sh.length p.sc p.its.length p.fill w) := by
  by_cases h2 : p.fill = 2
  · refine (tidy_all n w0 w p h hx0).mono ?_
    rintro e w2 ⟨A', c', L, rfl, hl, _, hS, hx⟩
    exact ⟨A', c', L, rfl, hl, fun _ _ => ⟨fun h => by omega, fun h => by omega⟩, hS, hx⟩
  · cases n with
    | zero => exact h.elim
    | succ n =>
      obtain ⟨hfl, h0, h2', hp1, hp2, hit⟩ := h
      have hm2 : p.its.length ≤ 1048576 := by rw [← hp2]; exact prV_le _
      have hI : Hid (∀ w2, Ext w w2 → ∀ k, k < p.its.length → ∃ a, p.iA = some a ∧ ItAt w2 (a.add (k * 4)) (p.its.getD k default)) := fun w2 h2 k hk => it_at rfl (hfl.itS.ext (hx0.trans h2)) hk
      have h3 : p.fill = 0 ∨ p.fill = 1 := by omega
      unfold Pl.val
      rcases h3 with e | e
      · have hv := tidy_0 p.sA p.sh.length p.sc p.iA p.its.length p.ic w hm2 (fun k => p.its.getD k default) hI (fun k hk => by
          obtain ⟨h1, h2, _⟩ := hit _ (getD_memA hk)
          exact ⟨by rw [h1]; exact e, h2 e⟩)
        rw [e]
        refine hv.mono ?_
        rintro e2 w2 ⟨A', c', L, rfl, hl, hP, hS, hx⟩
        exact ⟨A', c', L, rfl, hl, fun k hk => ⟨fun _ => hP k hk, fun h => by omega⟩, hS, hx⟩
      · have hv := tidy_1 p.sA p.sh.length p.sc p.iA p.its.length p.ic w hm2 (fun k => p.its.getD k default) hI (fun k hk => by rw [(hit _ (getD_memA hk)).1]; exact e)
        rw [e]
        refine hv.mono ?_
        rintro e2 w2 ⟨A', c', L, rfl, hl, hP, hS, hx⟩
        exact ⟨A', c', L, rfl, hl, fun k hk => ⟨fun h => by omega, fun _ => hP k hk⟩, hS, hx⟩
theorem ocmp_differ (v u : Value) (hF : Flat 8 v) (hG : Flat 8 u) (i k : Int) (w : World) (a b : Int) (ca : ∀ w', Ext w w' → Calls Try.prog 49 #[v] w' fun e w2 => e = .returned (.int .i64 a) ∧ Ext w' w2) (cb : ∀ w', Ext w w' → Calls Try.prog 49 #[u] w' fun e w2 => e = .returned (.int .i64 b) ∧ Ext w' w2) (hab : (a != b) = true) : Calls Try.prog 26 #[v, .int .i64 i, u, .int .i64 k] w fun e w' => e = .returned (.tuple #[.int .i64 0, .bool false]) ∧ Ext w w' := by
  have E := Ext.refl w
  go_enter Try.func26, Try.ntmps26
  have TB4 : True := trivial
  have TB6 : True := trivial
  go_wp2_with (first | (clear TB4; refine boxsV (v := v) rfl rfl rfl hF ?_; intro B4 w4 bB4 cB4 XB4 LB4 RB4; have z1 := XB4.size; replace E := E.trans XB4; clear RB4) | (clear TB6; refine boxsV (v := u) rfl rfl rfl hG ?_; intro B6 w6 bB6 cB6 XB6 LB6 RB6; have z2 := XB6.size; replace E := E.trans XB6; replace LB4 := LB4.ext XB6; clear RB6))
  try simp only [Act.put, List.setIfInBounds_toArray, List.set_cons_zero, List.set_cons_succ]
  have hq3 : w6.heap.size ≤ w6.drew.heap.size := Nat.le_refl _
  have z4 := (Ext.refl w6).drew.size
  replace E := E.trans (Ext.refl w6).drew
  replace LB4 := LB4.ext (Ext.refl w6).drew
  replace LB6 := LB6.ext (Ext.refl w6).drew
  refine wp_region_held_drew (S := (fun w' => Lay 8 w' B4 v ∧ Lay 8 w' B6 u)) (by kernel_rfl) ⟨LB4, LB6⟩ (fun hHeld => ?_)
  refine wpAnyH_take (i := 0) (oi := { dst := some 10, op := Go.Op.load 41 (Go.Operand.tmp 4), type := 41, pos := "order.go:13", after := #[], guard := none }) (v := v) rfl (by kernel_rfl) (by kernel_rfl) (by kernel_rfl) (fun _ _ _ h => h) (yieldV (by rfl) rfl rfl fun w' hx => hx.1) hHeld ?_
  try simp only [Act.put, List.setIfInBounds_toArray, List.set_cons_zero, List.set_cons_succ]
  refine wpAnyH_take (i := 2) (oi := { dst := some 12, op := Go.Op.load 41 (Go.Operand.tmp 6), type := 41, pos := "order.go:13", after := #[], guard := none }) (v := u) rfl (by kernel_rfl) (by kernel_rfl) (by kernel_rfl) (fun _ _ _ h => h) (yieldV (by rfl) rfl rfl fun w' hx => hx.2) hHeld ?_
  try simp only [Act.put, List.setIfInBounds_toArray, List.set_cons_zero, List.set_cons_succ]
  refine wpAnyH_ready (rs := [1]) (by kernel_rfl) (by simp) ?_
  refine AllReadyH.cons (o := { dst := some 11, op := Go.Op.call { callee := Go.Callee.value (Go.Operand.func 49), args := #[Go.Operand.tmp 10], argTypes := #[41] }, type := 3, pos := "order.go:13", after := #[{ on := 0, ground := Go.Ground.data }], guard := none }) rfl (fun K hK => ?_) (AllReadyH.nil)
  go_simp
  refine (ca _ E).mono ?_
  rintro e w11 ⟨rfl, x⟩
  have z7 := x.size
  replace E := E.trans x
  replace LB4 := LB4.ext x
  replace LB6 := LB6.ext x
  clear x
  clear hHeld
  have hHeld := And.intro LB4 (LB6)
  refine hK.out _ _ hHeld (fun _ => ?_)
  clear hK K
  try simp only [Act.put, List.setIfInBounds_toArray, List.set_cons_zero, List.set_cons_succ]
  refine wpAnyH_ready (rs := [3]) (by kernel_rfl) (by simp) ?_
  refine AllReadyH.cons (o := { dst := some 13, op := Go.Op.call { callee := Go.Callee.value (Go.Operand.func 49), args := #[Go.Operand.tmp 12], argTypes := #[41] }, type := 3, pos := "order.go:13", after := #[{ on := 2, ground := Go.Ground.data }, { on := 1, ground := Go.Ground.chain }], guard := none }) rfl (fun K hK => ?_) (AllReadyH.nil)
  go_simp
  refine (cb _ E).mono ?_
  rintro e w13 ⟨rfl, x⟩
  have z8 := x.size
  replace E := E.trans x
  replace LB4 := LB4.ext x
  replace LB6 := LB6.ext x
  clear x
  clear hHeld
  have hHeld := And.intro LB4 (LB6)
  refine hK.out _ _ hHeld (fun _ => ?_)
  clear hK K
  try simp only [Act.put, List.setIfInBounds_toArray, List.set_cons_zero, List.set_cons_succ]
  refine wpAnyH_take (i := 4) (oi := { dst := some 14, op := Go.Op.binOp Go.BinOp.neq 3 (Go.Operand.tmp 11) (Go.Operand.tmp 13) 3, type := 4, pos := "order.go:13", after := #[{ on := 1, ground := Go.Ground.data }, { on := 3, ground := Go.Ground.data }], guard := none }) (v := ?v9) rfl (by kernel_rfl) (by kernel_rfl) (by kernel_rfl) (fun _ _ _ h => h) (Or.inl ⟨by rfl, ?hy9⟩) hHeld ?rest9
  case hy9 => (intro w hSw; (try dsimp only at hSw); go_simp; (first | done | with_reducible rfl))
  try simp only [Act.put, List.setIfInBounds_toArray, List.set_cons_zero, List.set_cons_succ]
  refine wpAnyH_done (by kernel_rfl) ?_ _
  go_wp2_with fail
  go_ret2
  exact ⟨rfl, E⟩
theorem ocmp_box (v u : Value) (hF : Flat 8 v) (hG : Flat 8 u) (i k : Int) (w : World) (ca : ∀ w', Ext w w' → Calls Try.prog 49 #[v] w' fun e w2 => e = .returned (.int .i64 2) ∧ Ext w' w2) (cb : ∀ w', Ext w w' → Calls Try.prog 49 #[u] w' fun e w2 => e = .returned (.int .i64 2) ∧ Ext w' w2) : Calls Try.prog 26 #[v, .int .i64 i, u, .int .i64 k] w fun e w' => e = .returned (.tuple #[.int .i64 0, .bool false]) ∧ Ext w w' := by
  have E := Ext.refl w
  go_enter Try.func26, Try.ntmps26
  have TB4 : True := trivial
  have TB6 : True := trivial
  go_wp2_with (first | (clear TB4; refine boxsV (v := v) rfl rfl rfl hF ?_; intro B4 w4 bB4 cB4 XB4 LB4 RB4; have z1 := XB4.size; replace E := E.trans XB4; clear RB4) | (clear TB6; refine boxsV (v := u) rfl rfl rfl hG ?_; intro B6 w6 bB6 cB6 XB6 LB6 RB6; have z2 := XB6.size; replace E := E.trans XB6; replace LB4 := LB4.ext XB6; clear RB6))
  try simp only [Act.put, List.setIfInBounds_toArray, List.set_cons_zero, List.set_cons_succ]
  have hq3 : w6.heap.size ≤ w6.drew.heap.size := Nat.le_refl _
  have z4 := (Ext.refl w6).drew.size
  replace E := E.trans (Ext.refl w6).drew
  replace LB4 := LB4.ext (Ext.refl w6).drew
  replace LB6 := LB6.ext (Ext.refl w6).drew
  refine wp_region_held_drew (S := (fun w' => Lay 8 w' B4 v ∧ Lay 8 w' B6 u)) (by kernel_rfl) ⟨LB4, LB6⟩ (fun hHeld => ?_)
  refine wpAnyH_take (i := 0) (oi := { dst := some 10, op := Go.Op.load 41 (Go.Operand.tmp 4), type := 41, pos := "order.go:13", after := #[], guard := none }) (v := v) rfl (by kernel_rfl) (by kernel_rfl) (by kernel_rfl) (fun _ _ _ h => h) (yieldV (by rfl) rfl rfl fun w' hx => hx.1) hHeld ?_
  try simp only [Act.put, List.setIfInBounds_toArray, List.set_cons_zero, List.set_cons_succ]
  refine wpAnyH_take (i := 2) (oi := { dst := some 12, op := Go.Op.load 41 (Go.Operand.tmp 6), type := 41, pos := "order.go:13", after := #[], guard := none }) (v := u) rfl (by kernel_rfl) (by kernel_rfl) (by kernel_rfl) (fun _ _ _ h => h) (yieldV (by rfl) rfl rfl fun w' hx => hx.2) hHeld ?_
  try simp only [Act.put, List.setIfInBounds_toArray, List.set_cons_zero, List.set_cons_succ]
  refine wpAnyH_ready (rs := [1]) (by kernel_rfl) (by simp) ?_
  refine AllReadyH.cons (o := { dst := some 11, op := Go.Op.call { callee := Go.Callee.value (Go.Operand.func 49), args := #[Go.Operand.tmp 10], argTypes := #[41] }, type := 3, pos := "order.go:13", after := #[{ on := 0, ground := Go.Ground.data }], guard := none }) rfl (fun K hK => ?_) (AllReadyH.nil)
  go_simp
  refine (ca _ E).mono ?_
  rintro e w11 ⟨rfl, x⟩
  have z7 := x.size
  replace E := E.trans x
  replace LB4 := LB4.ext x
  replace LB6 := LB6.ext x
  clear x
  clear hHeld
  have hHeld := And.intro LB4 (LB6)
  refine hK.out _ _ hHeld (fun _ => ?_)
  clear hK K
  try simp only [Act.put, List.setIfInBounds_toArray, List.set_cons_zero, List.set_cons_succ]
  refine wpAnyH_ready (rs := [3]) (by kernel_rfl) (by simp) ?_
  refine AllReadyH.cons (o := { dst := some 13, op := Go.Op.call { callee := Go.Callee.value (Go.Operand.func 49), args := #[Go.Operand.tmp 12], argTypes := #[41] }, type := 3, pos := "order.go:13", after := #[{ on := 2, ground := Go.Ground.data }, { on := 1, ground := Go.Ground.chain }], guard := none }) rfl (fun K hK => ?_) (AllReadyH.nil)
  go_simp
  refine (cb _ E).mono ?_
  rintro e w13 ⟨rfl, x⟩
  have z8 := x.size
  replace E := E.trans x
  replace LB4 := LB4.ext x
  replace LB6 := LB6.ext x
  clear x
  clear hHeld
  have hHeld := And.intro LB4 (LB6)
  refine hK.out _ _ hHeld (fun _ => ?_)
  clear hK K
  try simp only [Act.put, List.setIfInBounds_toArray, List.set_cons_zero, List.set_cons_succ]
  refine wpAnyH_take (i := 4) (oi := { dst := some 14, op := Go.Op.binOp Go.BinOp.neq 3 (Go.Operand.tmp 11) (Go.Operand.tmp 13) 3, type := 4, pos := "order.go:13", after := #[{ on := 1, ground := Go.Ground.data }, { on := 3, ground := Go.Ground.data }], guard := none }) (v := ?v9) rfl (by kernel_rfl) (by kernel_rfl) (by kernel_rfl) (fun _ _ _ h => h) (Or.inl ⟨by rfl, ?hy9⟩) hHeld ?rest9
  case hy9 => (intro w hSw; (try dsimp only at hSw); go_simp; (first | done | with_reducible rfl))
  try simp only [Act.put, List.setIfInBounds_toArray, List.set_cons_zero, List.set_cons_succ]
  refine wpAnyH_done (by kernel_rfl) ?_ _
  go_wp2_with (refine loadsV (B := B4) (by rfl) rfl rfl LB4 ?_)
  clear LB4 LB6
  refine (ca _ E).mono ?_
  rintro e w16 ⟨rfl, x⟩
  have z10 := x.size
  replace E := E.trans x
  clear x
  go_wp2_with fail
  go_ret2
  exact ⟨rfl, E⟩
theorem has_0 (c : Int) (h : (c == 0) = true) (w : World) : Calls Try.prog 27 #[.int .i64 c] w fun e w' => e = .returned (.bool true) ∧ Ext w w' := by
  have E := Ext.refl w
  go_enter Try.func27, Try.ntmps27
  go_wp2_with fail
  go_ret
  exact ⟨by first | rfl | simp [*], E⟩
theorem has_1 (c : Int) (h0 : (c == 0) = false) (h : (c == 1) = true) (w : World) : Calls Try.prog 27 #[.int .i64 c] w fun e w' => e = .returned (.bool true) ∧ Ext w w' := by
  have E := Ext.refl w
  go_enter Try.func27, Try.ntmps27
  go_wp2_with fail
  go_ret
  exact ⟨by first | rfl | simp [*], E⟩
theorem has_n (c : Int) (h0 : (c == 0) = false) (h : (c == 1) = false) (w : World) : Calls Try.prog 27 #[.int .i64 c] w fun e w' => e = .returned (.bool false) ∧ Ext w w' := by
  have E := Ext.refl w
  go_enter Try.func27, Try.ntmps27
  go_wp2_with fail
  go_ret
  exact ⟨by first | rfl | simp [*], E⟩
end Go.Proofs.Ytidnikndjhfgaaa
