/- rebusref11.Apply of items. -/
import Derived.Test.YtdfhefnjoekgbaaRp
namespace Go.Proofs.Ytdfhefnjoekgbaa
open Go.ChangeShapes Go.WideShapes Go.RowKit Bv Fl
set_option maxHeartbeats 2000000
set_option maxRecDepth 100000
theorem loads_it {ops : Array Oper} {rest : List Oper} {op : Oper} {a : Act} {w : World} {Q : Exit → Act → World → Prop} {x : Operand} (hgd : op.guard = none) (ho : op.op = .load 125 x)
    {p : Addr} (hx : a.eval x = .pointer (some p)) {y : It} (hl : ItAt w p y) (h : wpList Try.prog ops Q rest (a.put op.dst y.val) w) : wpList Try.prog ops Q (op :: rest) a w :=
  wpList_plain hgd fun _ hK => load_it ho hx hl (hK _ _ h)
theorem yields_it {ops : Array Oper} {S : World → Prop} {op : Oper} {a : Act} {x : Operand} (hw : Region.wanted op (yielded ops a.tmps) = true) (ho : op.op = .load 125 x)
    {p : Addr} (hx : a.eval x = .pointer (some p)) {y : It} (hS : ∀ w, S w → ItAt w p y) : YieldsIf Try.prog ops S op y.val a :=
  .inl ⟨hw, fun w hw' => by
    have hl := hS w hw'
    have hp := cell_spot hl.c0
    have hr : (loadVar 125 p).run Try.prog w = .ok y.val w := by
      have := run_loadVar_mid (P := Try.prog) w p.block p.off 125 y.cells _ (fun j v hv => by
        match j, hv with
        | 0, hv => cases hv; rw [Nat.add_zero, ← hp]; exact hl.c0
        | 1, hv => cases hv; exact hl.c1
        | 2, hv => cases hv; exact hl.c2
        | 3, hv => cases hv; exact hl.c3) Try.underlying125 rfl (by kernel_rfl)
      rw [← hp] at this
      exact this
    unfold execOp
    simp only [ho, hx, Instr.loadAt, Instr.sureAddr, Sem.run_bind, Sem.run_pure, Result.andThen_ok, hr]⟩
theorem app_bo {ops : Array Oper} {rest : List Oper} {op : Oper} {a : Act} {w : World} {Q : Exit → Act → World → Prop} (hgd : op.guard = none) {sl x : Operand} (ho : op.op = .call { callee := .builtin .append, args := #[sl, x], argTypes := #[62, 62] })
    {base k : Nat} {v : Value} {xs : List Value} (hs : a.eval sl = v) {top : Nat} (hown : RowB 4 1 w base top v k xs) {A : Option Addr} {news : List Value} (hx : a.eval x = .slice A 1 1) (hr : Sl w 1 A 1 news) (h1 : ∀ u ∈ news, u.oneCell' = true)
    (hlim : k ≤ 1048576) (hbase : base ≤ w.heap.size) (h : ∀ v' w', RowB 4 1 w' base w'.heap.size v' (k + 1) (xs ++ news) → Below base w w' → wpList Try.prog ops Q rest (a.put op.dst v') w') : wpList Try.prog ops Q (op :: rest) a w := by
  obtain ⟨i, hi, h2⟩ := Option.map_eq_some_iff.1 infoB
  simp only [Prod.mk.injEq] at h2
  exact wpList_append_sl w hgd sl x 62 ho base 4 i (.bool false) 1 1 Try.underlying62 hi h2.1 h2.2.1 h2.2.2 rfl (by omega) v k xs hs hown.1 A 1 1 news hx hr h1 (by omega) (.inr (by omega)) hbase fun v' w' ho hb => h v' w' ⟨ho, fun g e => (World.ownsRow.lt ho g e).2⟩ hb
theorem joinK0 {F KA : World → Prop} {G : Prop} (h : (∀ w, F w → KA w) → G) (t : ∀ w, F w → KA w) : G := h t
theorem joinK2 {A0 A1 : Type} {F KA : World → A0 → A1 → Prop} {G : Prop} (h : (∀ w a0 a1, F w a0 a1 → KA w a0 a1) → G) (t : ∀ w a0 a1, F w a0 a1 → KA w a0 a1) : G := h t
abbrev r11ap_12_6 : Go.Oper := { dst := some 15, op := Go.Op.alloc 125, type := 0, pos := "ref.go:50", after := #[], guard := none }
abbrev r11ap_12_7 : Go.Oper := { dst := some 16, op := Go.Op.alloc 125, type := 0, pos := "ref.go:50", after := #[], guard := none }
abbrev r11ap_12_8 : Go.Oper := { dst := none, op := Go.Op.store 125 (Go.Operand.tmp 15) (Go.Operand.tmp 61), type := 0, pos := "ref.go:50", after := #[{ on := 6, ground := Go.Ground.data }, { on := 2, ground := Go.Ground.data }, { on := 0, ground := Go.Ground.phase }, { on := 1, ground := Go.Ground.phase }, { on := 2, ground := Go.Ground.phase }, { on := 3, ground := Go.Ground.textOnly Go.Departure.lateStores }, { on := 4, ground := Go.Ground.textOnly Go.Departure.lateStores }, { on := 5, ground := Go.Ground.textOnly Go.Departure.lateStores }, { on := 6, ground := Go.Ground.phase }, { on := 7, ground := Go.Ground.phase }], guard := none }
abbrev r11ap_12_9 : Go.Oper := { dst := none, op := Go.Op.store 125 (Go.Operand.tmp 16) (Go.Operand.tmp 64), type := 0, pos := "ref.go:50", after := #[{ on := 7, ground := Go.Ground.data }, { on := 5, ground := Go.Ground.data }, { on := 8, ground := Go.Ground.chain }, { on := 0, ground := Go.Ground.phase }, { on := 1, ground := Go.Ground.phase }, { on := 2, ground := Go.Ground.phase }, { on := 3, ground := Go.Ground.phase }, { on := 4, ground := Go.Ground.phase }, { on := 5, ground := Go.Ground.phase }, { on := 6, ground := Go.Ground.phase }, { on := 7, ground := Go.Ground.phase }, { on := 8, ground := Go.Ground.phase }], guard := none }
section
variable (aA : Option Addr) (m ac : Nat) (bA : Option Addr) (n bc : Nat) (w : World) (N : Nat) (hN2 : N ≤ 1048576) (IA IB : Nat → It)
  (HA : Hid (∀ k, k < m → ∃ a, aA = some a ∧ Rd (fun w' => ItAt w' (a.add (k * 4)) (IA k)) w (fun i => i < w.heap.size)))
  (HB : Hid (∀ k, k < n → ∃ a, bA = some a ∧ Rd (fun w' => ItAt w' (a.add (k * 4)) (IB k)) w (fun i => i < w.heap.size)))
  (cl : ∀ w', Calls Try.prog 75 #[.int .i64 (m : Int), .int .i64 (n : Int)] w' fun e w2 => e = .returned (.int .i64 (N : Int)) ∧ Ext w' w2)
  (hNm : N = m ∨ m = 1) (hNn : N = n ∨ n = 1)
include hN2 HA HB cl hNm hNn
theorem r11app_num (f : Int) (hf1 : 11 ≤ f) (hf2 : f ≤ 16) (cr : ∀ i j w', i < m → j < n → Calls Try.prog 48 #[.int .i64 f, .float .f64 (IA i).num, .float .f64 (IB j).num] w' fun e w2 => e = .returned (.tuple #[.bool (relB f (IA i).num (IB j).num), .int .i64 0]) ∧ Ext w' w2) :
    Calls Try.prog 53 #[.int .i64 f, .slice aA m ac, .int .i64 0, .slice bA n bc, .int .i64 0] w fun e w' => ∃ A c, e = .returned (.tuple #[.slice A N c, .int .i64 0]) ∧ SlS w' 1 A N (pre (fun k => .bool (relB f (IA (ixN m k)).num (IB (ixN n k)).num)) N) (New w.heap.size) ∧ Ext w w' := by
  obtain ⟨FV, hFV⟩ : ∃ FV : Nat → Value, (fun k => .bool (relB f (IA (ixN m k)).num (IB (ixN n k)).num)) = FV := ⟨_, rfl⟩
  rw [hFV]
  have HFV : Hid (∀ k, FV k = .bool (relB f (IA (ixN m k)).num (IB (ixN n k)).num)) := fun k => by rw [← hFV]
  clear hFV
  have E := Ext.refl w
  go_enter Try.func53, Try.ntmps53
  go_wp2_with fail
  refine (cl _).mono ?_
  rintro e w29 ⟨rfl, x⟩
  have z1 := x.size
  replace E := E.trans x
  clear x
  go_wp2_with fail
  obtain ⟨BS, hBS1, hBS2⟩ : ∃ BS, BS ≤ w29.heap.size ∧ w29.heap.size ≤ BS := ⟨_, Nat.le_refl _, Nat.le_refl _⟩
  go_loopw [13, 14] (fun o i wr => ∃ (k TP : Nat) (oA : Option Addr) (oc : Nat), k ≤ N ∧ o = .slice oA k oc ∧ i = .int .i64 k ∧ Ext w wr ∧ w29.heap.size ≤ wr.heap.size ∧ RowB 4 1 wr BS TP (.slice oA k oc) k (pre FV k) ∧ TP ≤ wr.heap.size) (fun _ i _ => N - (intOf i).toNat)
  case atStart => exact ⟨0, 0, none, 0, Nat.zero_le _, rfl, rfl, E, Nat.le_refl _, RowB.nil, Nat.zero_le _⟩
  case round =>
    obtain ⟨k, TP, oA, oc, hk, rfl, rfl, E', zW, HO, hTP⟩ := hrel
    clear E
    have E := E'
    clear E'
    have z2 := E.size
    by_cases hlt : k < N
    · have h0m : 0 < m := by omega
      have h0n : 0 < n := by omega
      have HFk := HFV.out k
      have hr := fun w' => cr (ixN m k) (ixN n k) w' (ixN_lt (by omega) hlt) (ixN_lt (by omega) hlt)
      obtain ⟨a, rfl, hX⟩ := HA.out 0 h0m
      obtain ⟨a2, ea2, hU⟩ := HA.out (ixN m k) (ixN_lt (by omega) hlt)
      cases ea2
      have HX := hX.ext E
      have HU := hU.ext E
      clear hX hU
      have hxu : ¬ 1 < m → IA 0 = IA (ixN m k) := fun h => by rw [show ixN m k = 0 by unfold ixN; rw [if_pos (by omega)]]
      have EU : Hid (1 < m → ixN m k = k) := fun h => by unfold ixN; rw [if_neg (by omega)]
      generalize IA (ixN m k) = u at HU HFk hr hxu
      generalize IA 0 = x at HX hxu
      obtain ⟨uk, un, uc, uA, um, ud⟩ := u
      obtain ⟨xk, xn, xc, xA, xm, xd⟩ := x
      have HXU : Hid (¬ 1 < m → xn = un ∧ xc = uc) := fun h => by have := hxu h; cases this; exact ⟨rfl, rfl⟩
      clear hxu
      obtain ⟨b, rfl, hY⟩ := HB.out 0 h0n
      obtain ⟨b2, eb2, hV⟩ := HB.out (ixN n k) (ixN_lt (by omega) hlt)
      cases eb2
      have HY := hY.ext E
      have HV := hV.ext E
      clear hY hV
      have hyv : ¬ 1 < n → IB 0 = IB (ixN n k) := fun h => by rw [show ixN n k = 0 by unfold ixN; rw [if_pos (by omega)]]
      have EV : Hid (1 < n → ixN n k = k) := fun h => by unfold ixN; rw [if_neg (by omega)]
      generalize IB (ixN n k) = v at HV HFk hr hyv
      generalize IB 0 = y at HY hyv
      obtain ⟨vk, vn, vc, vA, vm, vd⟩ := v
      obtain ⟨yk, yn, yc, yA, ym, yd⟩ := y
      have HYV : Hid (¬ 1 < n → yn = vn ∧ yc = vc) := fun h => by have := hyv h; cases this; exact ⟨rfl, rfl⟩
      clear hyv
      have HI := ((HX.both HY).both (HU.both HV))
      clear HX HY HU HV
      dsimp only at HFk hr
      have HPS : Hid (pre FV k ++ [.bool (relB f un vn)] = pre FV (k + 1)) := by show _ = _; rw [← HFk]; exact pre_step FV k
      clear HFk
      generalize relB f un vn = tb at hr HPS
      go_wp2_with fail
      try simp only [Act.put, List.setIfInBounds_toArray, List.set_cons_zero, List.set_cons_succ]
      apply joinK0 (F := fun (wS12 : World) => wr.heap.size ≤ wS12.heap.size ∧ Ext w wS12 ∧ Rd (fun w' => (ItAt w' (a.add (0 * 4)) ⟨xk, xn, xc, xA, xm, xd⟩ ∧ ItAt w' (b.add (0 * 4)) ⟨yk, yn, yc, yA, ym, yd⟩) ∧ ItAt w' (a.add (ixN m k * 4)) ⟨uk, un, uc, uA, um, ud⟩ ∧ ItAt w' (b.add (ixN n k * 4)) ⟨vk, vn, vc, vA, vm, vd⟩) wS12 (fun i => i < w.heap.size) ∧ RowB 4 1 wS12 BS TP (.slice oA k oc) k (pre FV k))
      · intro J
        refine J wr ?_
        exact ⟨Nat.le_refl _, E, HI, HO⟩
      intro wS12 hJS
      clear E HO HI
      refine wp_region_held_drew (S := (fun w' => (ItAt w' (a.add (0 * 4)) ⟨xk, xn, xc, xA, xm, xd⟩ ∧ ItAt w' (b.add (0 * 4)) ⟨yk, yn, yc, yA, ym, yd⟩))) (by kernel_rfl) (by obtain ⟨z5, E, HI, HO⟩ := hJS; exact ((HI.ext (Ext.refl _).drew).is.1)) (fun hH0 => ?_)
      apply joinK2 (F := fun (wD12_0 : World) (B15 : Nat) (B16 : Nat) => wS12.heap.size ≤ wD12_0.heap.size ∧ (wS12.heap.size ≤ B15 ∧ B15 < wD12_0.heap.size) ∧ (wS12.heap.size ≤ B16 ∧ B16 < wD12_0.heap.size) ∧ B15 ≠ B16 ∧ Ext w wD12_0 ∧ Lay 4 wD12_0 B15 (.agg #[.int .i64 xk, .float .f64 xn, .int .i32 xc, .slice xA xm xd]) ∧ Lay 4 wD12_0 B16 (.agg #[.int .i64 yk, .float .f64 yn, .int .i32 yc, .slice yA ym yd]) ∧ Room 4 wD12_0 B15 ∧ Room 4 wD12_0 B16 ∧ Rd (fun w' => (ItAt w' (a.add (0 * 4)) ⟨xk, xn, xc, xA, xm, xd⟩ ∧ ItAt w' (b.add (0 * 4)) ⟨yk, yn, yc, yA, ym, yd⟩) ∧ ItAt w' (a.add (ixN m k * 4)) ⟨uk, un, uc, uA, um, ud⟩ ∧ ItAt w' (b.add (ixN n k * 4)) ⟨vk, vn, vc, vA, vm, vd⟩) wD12_0 (fun i => i < w.heap.size) ∧ RowB 4 1 wD12_0 BS TP (.slice oA k oc) k (pre FV k) ∧ wD12_0.cell? ⟨B15, 1, none⟩ = some (.float .f64 xn) ∧ wD12_0.cell? ⟨B15, 2, none⟩ = some (.int .i32 xc) ∧ wD12_0.cell? ⟨B16, 1, none⟩ = some (.float .f64 yn) ∧ wD12_0.cell? ⟨B16, 2, none⟩ = some (.int .i32 yc))
      intro JD12_0
      apply joinK2 (F := fun (wD12_1 : World) (B15 : Nat) (B16 : Nat) => wS12.heap.size ≤ wD12_1.heap.size ∧ (wS12.heap.size ≤ B15 ∧ B15 < wD12_1.heap.size) ∧ (wS12.heap.size ≤ B16 ∧ B16 < wD12_1.heap.size) ∧ B15 ≠ B16 ∧ Ext w wD12_1 ∧ Lay 4 wD12_1 B15 zeroIt ∧ Lay 4 wD12_1 B16 zeroIt ∧ Room 4 wD12_1 B15 ∧ Room 4 wD12_1 B16 ∧ Rd (fun w' => (ItAt w' (a.add (0 * 4)) ⟨xk, xn, xc, xA, xm, xd⟩ ∧ ItAt w' (b.add (0 * 4)) ⟨yk, yn, yc, yA, ym, yd⟩) ∧ ItAt w' (a.add (ixN m k * 4)) ⟨uk, un, uc, uA, um, ud⟩ ∧ ItAt w' (b.add (ixN n k * 4)) ⟨vk, vn, vc, vA, vm, vd⟩) wD12_1 (fun i => i < w.heap.size) ∧ RowB 4 1 wD12_1 BS TP (.slice oA k oc) k (pre FV k))
      intro JD12_1
      · have hJQ := hJS
        obtain ⟨z5, E, HI, HO⟩ := hJQ
        have hq6 : wS12.heap.size ≤ wS12.drew.heap.size := Nat.le_refl _
        have z7 := (Ext.refl wS12).drew.size
        replace E := E.trans (Ext.refl wS12).drew
        replace HI := HI.ext (Ext.refl wS12).drew
        replace HO := HO.ext (Ext.refl wS12).drew
        have hHeld := (HI.is.1)
        refine wpAnyH_take (i := 0) (oi := { dst := some 59, op := Go.Op.move (Go.Operand.tmp 1), type := 87, pos := "ref.go:50", after := #[], guard := none }) (v := ?v8) rfl (by kernel_rfl) (by kernel_rfl) (by kernel_rfl) (fun _ _ _ h => h) (Or.inl ⟨by rfl, ?hy8⟩) hHeld ?rest8
        case hy8 => (intro w hSw; (try dsimp only at hSw); go_simp; (first | done | with_reducible rfl))
        try simp only [Act.put, List.setIfInBounds_toArray, List.set_cons_zero, List.set_cons_succ]
        refine wpAnyH_take (i := 1) (oi := { dst := some 60, op := Go.Op.indexAddr 87 (Go.Operand.tmp 59) (Go.Operand.const (Go.Value.int Go.IntKind.i64 0)), type := 0, pos := "ref.go:50", after := #[{ on := 0, ground := Go.Ground.data }], guard := none }) (v := .pointer (some (a.add (0 * 4)))) rfl (by kernel_rfl) (by kernel_rfl) (by kernel_rfl) (fun _ _ _ h => h) (Or.inl ⟨by rfl, ?hy9⟩) hHeld ?rest9
        case hy9 => (intro w hSw; (try dsimp only at hSw); go_simp; try rw [if_pos (by omega)]; try rw [Int.toNat_natCast]; (first | done | with_reducible rfl))
        try simp only [Act.put, List.setIfInBounds_toArray, List.set_cons_zero, List.set_cons_succ]
        refine wpAnyH_take (i := 2) (oi := { dst := some 61, op := Go.Op.load 125 (Go.Operand.tmp 60), type := 125, pos := "ref.go:50", after := #[{ on := 1, ground := Go.Ground.data }], guard := none }) (v := (.agg #[.int .i64 xk, .float .f64 xn, .int .i32 xc, .slice xA xm xd])) rfl (by kernel_rfl) (by kernel_rfl) (by kernel_rfl) (fun _ _ _ h => h) (yields_it (y := ⟨xk, xn, xc, xA, xm, xd⟩) (by rfl) rfl rfl fun w' hx => hx.1) hHeld ?_
        try simp only [Act.put, List.setIfInBounds_toArray, List.set_cons_zero, List.set_cons_succ]
        refine wpAnyH_take (i := 3) (oi := { dst := some 62, op := Go.Op.move (Go.Operand.tmp 3), type := 87, pos := "ref.go:50", after := #[{ on := 8, ground := Go.Ground.gcOnly Go.Departure.lateStores }], guard := none }) (v := ?v11) rfl (by kernel_rfl) (by kernel_rfl) (by kernel_rfl) (fun _ _ _ h => h) (Or.inl ⟨by rfl, ?hy11⟩) hHeld ?rest11
        case hy11 => (intro w hSw; (try dsimp only at hSw); go_simp; (first | done | with_reducible rfl))
        try simp only [Act.put, List.setIfInBounds_toArray, List.set_cons_zero, List.set_cons_succ]
        refine wpAnyH_take (i := 4) (oi := { dst := some 63, op := Go.Op.indexAddr 87 (Go.Operand.tmp 62) (Go.Operand.const (Go.Value.int Go.IntKind.i64 0)), type := 0, pos := "ref.go:50", after := #[{ on := 3, ground := Go.Ground.data }, { on := 8, ground := Go.Ground.gcOnly Go.Departure.lateStores }], guard := none }) (v := .pointer (some (b.add (0 * 4)))) rfl (by kernel_rfl) (by kernel_rfl) (by kernel_rfl) (fun _ _ _ h => h) (Or.inl ⟨by rfl, ?hy12⟩) hHeld ?rest12
        case hy12 => (intro w hSw; (try dsimp only at hSw); go_simp; try rw [if_pos (by omega)]; try rw [Int.toNat_natCast]; (first | done | with_reducible rfl))
        try simp only [Act.put, List.setIfInBounds_toArray, List.set_cons_zero, List.set_cons_succ]
        refine wpAnyH_take (i := 5) (oi := { dst := some 64, op := Go.Op.load 125 (Go.Operand.tmp 63), type := 125, pos := "ref.go:50", after := #[{ on := 4, ground := Go.Ground.data }, { on := 8, ground := Go.Ground.gcOnly Go.Departure.lateStores }], guard := none }) (v := (.agg #[.int .i64 yk, .float .f64 yn, .int .i32 yc, .slice yA ym yd])) rfl (by kernel_rfl) (by kernel_rfl) (by kernel_rfl) (fun _ _ _ h => h) (yields_it (y := ⟨yk, yn, yc, yA, ym, yd⟩) (by rfl) rfl rfl fun w' hx => hx.2) hHeld ?_
        try simp only [Act.put, List.setIfInBounds_toArray, List.set_cons_zero, List.set_cons_succ]
        refine wpAnyH_ready (rs := [6, 7]) (by kernel_rfl) (by simp) ?_
        refine AllReadyH.cons (o := r11ap_12_6) rfl (fun K hK => ?_) (AllReadyH.cons (o := r11ap_12_7) rfl (fun K hK => ?_) (AllReadyH.nil))
        · dsimp only [r11ap_12_6]
          rw [if_pos (by rfl)]
          refine allocI rfl ?_
          intro B15 w15 bB15 cB15 XB15 LB15 RB15
          have z14 := XB15.size
          replace E := E.trans XB15
          replace HI := HI.ext XB15
          replace HO := HO.ext XB15
          clear hHeld
          have hHeld := (HI.is.1)
          refine hK.out _ _ hHeld (fun _ => ?_)
          clear hK K
          try simp only [Act.put, List.setIfInBounds_toArray, List.set_cons_zero, List.set_cons_succ]
          refine wpAnyH_ready (rs := [7]) (by kernel_rfl) (by simp) ?_
          refine AllReadyH.cons (o := r11ap_12_7) rfl (fun K hK => ?_) (AllReadyH.nil)
          dsimp only [r11ap_12_7]
          rw [if_pos (by rfl)]
          refine allocI rfl ?_
          intro B16 w16 bB16 cB16 XB16 LB16 RB16
          have z15 := XB16.size
          replace E := E.trans XB16
          replace HI := HI.ext XB16
          replace HO := HO.ext XB16
          replace LB15 := LB15.ext XB16
          replace RB15 := RB15.ext XB16
          clear hHeld
          have hHeld := (HI.is.1)
          refine hK.out _ _ hHeld (fun _ => ?_)
          clear hK K
          try simp only [Act.put, List.setIfInBounds_toArray, List.set_cons_zero, List.set_cons_succ]
          refine JD12_1 w16 B15 B16 ?_
          exact ⟨by omega, ⟨by omega, by omega⟩, ⟨by omega, by omega⟩, by omega, E, LB15, LB16, RB15, RB16, HI, HO⟩
        · dsimp only [r11ap_12_7]
          rw [if_pos (by rfl)]
          refine allocI rfl ?_
          intro B16 w16 bB16 cB16 XB16 LB16 RB16
          have z16 := XB16.size
          replace E := E.trans XB16
          replace HI := HI.ext XB16
          replace HO := HO.ext XB16
          clear hHeld
          have hHeld := (HI.is.1)
          refine hK.out _ _ hHeld (fun _ => ?_)
          clear hK K
          try simp only [Act.put, List.setIfInBounds_toArray, List.set_cons_zero, List.set_cons_succ]
          refine wpAnyH_ready (rs := [6]) (by kernel_rfl) (by simp) ?_
          refine AllReadyH.cons (o := r11ap_12_6) rfl (fun K hK => ?_) (AllReadyH.nil)
          dsimp only [r11ap_12_6]
          rw [if_pos (by rfl)]
          refine allocI rfl ?_
          intro B15 w15 bB15 cB15 XB15 LB15 RB15
          have z17 := XB15.size
          replace E := E.trans XB15
          replace HI := HI.ext XB15
          replace HO := HO.ext XB15
          replace LB16 := LB16.ext XB15
          replace RB16 := RB16.ext XB15
          clear hHeld
          have hHeld := (HI.is.1)
          refine hK.out _ _ hHeld (fun _ => ?_)
          clear hK K
          try simp only [Act.put, List.setIfInBounds_toArray, List.set_cons_zero, List.set_cons_succ]
          refine JD12_1 w15 B15 B16 ?_
          exact ⟨by omega, ⟨by omega, by omega⟩, ⟨by omega, by omega⟩, by omega, E, LB15, LB16, RB15, RB16, HI, HO⟩
      · intro wD12_1 B15 B16 hJ
        obtain ⟨z18, ⟨bB15, cB15⟩, ⟨bB16, cB16⟩, nB15B16, E, LB15, LB16, RB15, RB16, HI, HO⟩ := hJ
        try dsimp only
        have hHeld := (HI.is.1)
        refine wpAnyH_ready (rs := [8]) (by kernel_rfl) (by simp) ?_
        refine AllReadyH.cons (o := r11ap_12_8) rfl (fun K hK => ?_) (AllReadyH.nil)
        dsimp only [r11ap_12_8]
        rw [if_pos (by rfl)]
        have hRl := (RB15).lt (Nat.zero_lt_succ _)
        refine storeI (by rfl) (by rfl) (v := (.agg #[.int .i64 xk, .float .f64 xn, .int .i32 xc, .slice xA xm xd])) (by rfl) RB15 (it_flat xk xn xc xA xm xd) ?_
        clear LB15
        intro s19 G19 LB15 RQ
        have z20 := G19.size
        replace E := grown_ext E G19 (by omega)
        replace LB16 := LB16.grown G19 (by omega)
        replace RB16 := RB16.grown G19 (by omega)
        replace HI := HI.grown G19 (by first | omega | (dsimp only [New]; omega))
        replace HO := HO.grown G19 (by omega)
        clear RB15
        have RB15 := RQ
        clear RQ hRl G19
        clear hHeld
        have hHeld := (HI.is.1)
        refine hK.out _ _ hHeld (fun _ => ?_)
        clear hK K
        try simp only [Act.put]
        refine wpAnyH_ready (rs := [9]) (by kernel_rfl) (by simp) ?_
        refine AllReadyH.cons (o := r11ap_12_9) rfl (fun K hK => ?_) (AllReadyH.nil)
        dsimp only [r11ap_12_9]
        rw [if_pos (by rfl)]
        have hRl := (RB16).lt (Nat.zero_lt_succ _)
        refine storeI (by rfl) (by rfl) (v := (.agg #[.int .i64 yk, .float .f64 yn, .int .i32 yc, .slice yA ym yd])) (by rfl) RB16 (it_flat yk yn yc yA ym yd) ?_
        clear LB16
        intro s21 G21 LB16 RQ
        have z22 := G21.size
        replace E := grown_ext E G21 (by omega)
        replace LB15 := LB15.grown G21 (by omega)
        replace RB15 := RB15.grown G21 (by omega)
        replace HI := HI.grown G21 (by first | omega | (dsimp only [New]; omega))
        replace HO := HO.grown G21 (by omega)
        clear RB16
        have RB16 := RQ
        clear RQ hRl G21
        clear hHeld
        have hHeld := (HI.is.1)
        refine hK.out _ _ hHeld (fun _ => ?_)
        clear hK K
        try simp only [Act.put]
        refine wpAnyH_done (by kernel_rfl) ?_ _
        refine JD12_0 s21 B15 B16 ?_
        exact ⟨by omega, ⟨by omega, by omega⟩, ⟨by omega, by omega⟩, by omega, E, LB15, LB16, RB15, RB16, HI, HO, lay_cell LB15 (j := 1) rfl, lay_cell LB15 (j := 2) rfl, lay_cell LB16 (j := 1) rfl, lay_cell LB16 (j := 2) rfl⟩
      · intro wD12_0 B15 B16 hJ
        obtain ⟨z23, ⟨bB15, cB15⟩, ⟨bB16, cB16⟩, nB15B16, E, LB15, LB16, RB15, RB16, HI, HO, cB15_1, cB15_2, cB16_1, cB16_2⟩ := hJ
        try dsimp only
        have MARK : True := trivial
        have hm4 : (1 < m ∧ 1 < n) ∨ (1 < m ∧ ¬ 1 < n) ∨ (¬ 1 < m ∧ 1 < n) ∨ (¬ 1 < m ∧ ¬ 1 < n) := by omega
        rcases hm4 with ⟨hm1, hn1⟩ | ⟨hm1, hn1⟩ | ⟨hm1, hn1⟩ | ⟨hm1, hn1⟩
        · have e67 : decide (1 < m) = true := decide_eq_true hm1
          have e74 : decide (1 < n) = true := decide_eq_true hn1
          rw [EU.out hm1] at HI
          rw [EV.out hn1] at HI
          have TG24 : True := trivial
          have TG26 : True := trivial
          go_wp2_with (first | (refine loads_it rfl rfl rfl (HI.is.2.1) ?_) | (clear TG24; have hRl := (RB15).lt (Nat.zero_lt_succ _); refine storesI (B := B15) rfl rfl rfl (v := (.agg #[.int .i64 uk, .float .f64 un, .int .i32 uc, .slice uA um ud])) rfl RB15 (it_flat uk un uc uA um ud) ?_; clear LB15; clear cB15_1; clear cB15_2; intro s24 G24 LB15 RQ; have z25 := G24.size; replace E := grown_ext E G24 (by omega); replace LB16 := LB16.grown G24 (by omega); replace RB16 := RB16.grown G24 (by omega); replace HI := HI.grown G24 (by first | omega | (dsimp only [New]; omega)); replace HO := HO.grown G24 (by omega); replace cB16_1 := cell_grown (G24) cB16_1 (by show B16 ≠ _; omega); replace cB16_2 := cell_grown (G24) cB16_2 (by show B16 ≠ _; omega); clear RB15; have RB15 := RQ; clear RQ hRl; have cB15_1 := lay_cell LB15 (j := 1) rfl; have cB15_2 := lay_cell LB15 (j := 2) rfl) | (refine loads_it rfl rfl rfl (HI.is.2.2) ?_) | (clear TG26; have hRl := (RB16).lt (Nat.zero_lt_succ _); refine storesI (B := B16) rfl rfl rfl (v := (.agg #[.int .i64 vk, .float .f64 vn, .int .i32 vc, .slice vA vm vd])) rfl RB16 (it_flat vk vn vc vA vm vd) ?_; clear LB16; clear cB16_1; clear cB16_2; intro s26 G26 LB16 RQ; have z27 := G26.size; replace E := grown_ext E G26 (by omega); replace LB15 := LB15.grown G26 (by omega); replace RB15 := RB15.grown G26 (by omega); replace HI := HI.grown G26 (by first | omega | (dsimp only [New]; omega)); replace HO := HO.grown G26 (by omega); replace cB15_1 := cell_grown (G26) cB15_1 (by show B15 ≠ _; omega); replace cB15_2 := cell_grown (G26) cB15_2 (by show B15 ≠ _; omega); clear RB16; have RB16 := RQ; clear RQ hRl; have cB16_1 := lay_cell LB16 (j := 1) rfl; have cB16_2 := lay_cell LB16 (j := 2) rfl))
          refine (hr _).mono ?_
          rintro e w85 ⟨rfl, x⟩
          have z28 := x.size
          replace E := E.trans x
          replace LB15 := LB15.ext x
          replace LB16 := LB16.ext x
          replace RB15 := RB15.ext x
          replace RB16 := RB16.ext x
          replace HI := HI.ext x
          replace HO := HO.ext x
          replace cB15_1 := cell_ext (x) cB15_1
          replace cB15_2 := cell_ext (x) cB15_2
          replace cB16_1 := cell_ext (x) cB16_1
          replace cB16_2 := cell_ext (x) cB16_2
          clear x
          have TA110 : True := trivial
          go_wp2_with (clear TA110; refine app_bo rfl rfl (base := BS) (k := k) rfl (HO.ext ((Ext.refl _).alloc _)) rfl (Sl.built _ #[_] _) (by intro u hu; simp at hu; subst hu; rfl) (by omega) (by simp; omega) ?_; clear HO LB15 RB15 LB16 RB16 cB15_1 cB15_2 cB16_1 cB16_2 HI; intro v110 w110 HO H110; obtain ⟨A110, c110, e110, -, -⟩ := own_form HO.1; subst e110; have z29 : w85.heap.size ≤ w110.heap.size := Nat.le_trans ((Ext.refl w85).alloc _).size H110.size; replace E := (E.alloc _).trans' (H110.mono (by omega)); clear H110)
          exact ⟨⟨k + 1, _, _, _, by omega, rfl, by go_num, E, by omega, by rw [← HPS.out]; exact HO, by omega⟩, by simp [intOf]; omega⟩
        · have e67 : decide (1 < m) = true := decide_eq_true hm1
          have e74 : decide (1 < n) = false := decide_eq_false hn1
          rw [EU.out hm1] at HI
          obtain ⟨rfl, rfl⟩ := HYV.out hn1
          have TG24 : True := trivial
          go_wp2_with (first | (refine loads_it rfl rfl rfl (HI.is.2.1) ?_) | (clear TG24; have hRl := (RB15).lt (Nat.zero_lt_succ _); refine storesI (B := B15) rfl rfl rfl (v := (.agg #[.int .i64 uk, .float .f64 un, .int .i32 uc, .slice uA um ud])) rfl RB15 (it_flat uk un uc uA um ud) ?_; clear LB15; clear cB15_1; clear cB15_2; intro s24 G24 LB15 RQ; have z25 := G24.size; replace E := grown_ext E G24 (by omega); replace LB16 := LB16.grown G24 (by omega); replace RB16 := RB16.grown G24 (by omega); replace HI := HI.grown G24 (by first | omega | (dsimp only [New]; omega)); replace HO := HO.grown G24 (by omega); replace cB16_1 := cell_grown (G24) cB16_1 (by show B16 ≠ _; omega); replace cB16_2 := cell_grown (G24) cB16_2 (by show B16 ≠ _; omega); clear RB15; have RB15 := RQ; clear RQ hRl; have cB15_1 := lay_cell LB15 (j := 1) rfl; have cB15_2 := lay_cell LB15 (j := 2) rfl))
          refine (hr _).mono ?_
          rintro e w85 ⟨rfl, x⟩
          have z26 := x.size
          replace E := E.trans x
          replace LB15 := LB15.ext x
          replace LB16 := LB16.ext x
          replace RB15 := RB15.ext x
          replace RB16 := RB16.ext x
          replace HI := HI.ext x
          replace HO := HO.ext x
          replace cB16_1 := cell_ext (x) cB16_1
          replace cB16_2 := cell_ext (x) cB16_2
          replace cB15_1 := cell_ext (x) cB15_1
          replace cB15_2 := cell_ext (x) cB15_2
          clear x
          have TA110 : True := trivial
          go_wp2_with (clear TA110; refine app_bo rfl rfl (base := BS) (k := k) rfl (HO.ext ((Ext.refl _).alloc _)) rfl (Sl.built _ #[_] _) (by intro u hu; simp at hu; subst hu; rfl) (by omega) (by simp; omega) ?_; clear HO LB15 RB15 LB16 RB16 cB15_1 cB15_2 cB16_1 cB16_2 HI; intro v110 w110 HO H110; obtain ⟨A110, c110, e110, -, -⟩ := own_form HO.1; subst e110; have z27 : w85.heap.size ≤ w110.heap.size := Nat.le_trans ((Ext.refl w85).alloc _).size H110.size; replace E := (E.alloc _).trans' (H110.mono (by omega)); clear H110)
          exact ⟨⟨k + 1, _, _, _, by omega, rfl, by go_num, E, by omega, by rw [← HPS.out]; exact HO, by omega⟩, by simp [intOf]; omega⟩
        · have e67 : decide (1 < m) = false := decide_eq_false hm1
          have e74 : decide (1 < n) = true := decide_eq_true hn1
          obtain ⟨rfl, rfl⟩ := HXU.out hm1
          rw [EV.out hn1] at HI
          have TG24 : True := trivial
          go_wp2_with (first | (refine loads_it rfl rfl rfl (HI.is.2.2) ?_) | (clear TG24; have hRl := (RB16).lt (Nat.zero_lt_succ _); refine storesI (B := B16) rfl rfl rfl (v := (.agg #[.int .i64 vk, .float .f64 vn, .int .i32 vc, .slice vA vm vd])) rfl RB16 (it_flat vk vn vc vA vm vd) ?_; clear LB16; clear cB16_1; clear cB16_2; intro s24 G24 LB16 RQ; have z25 := G24.size; replace E := grown_ext E G24 (by omega); replace LB15 := LB15.grown G24 (by omega); replace RB15 := RB15.grown G24 (by omega); replace HI := HI.grown G24 (by first | omega | (dsimp only [New]; omega)); replace HO := HO.grown G24 (by omega); replace cB15_1 := cell_grown (G24) cB15_1 (by show B15 ≠ _; omega); replace cB15_2 := cell_grown (G24) cB15_2 (by show B15 ≠ _; omega); clear RB16; have RB16 := RQ; clear RQ hRl; have cB16_1 := lay_cell LB16 (j := 1) rfl; have cB16_2 := lay_cell LB16 (j := 2) rfl))
          refine (hr _).mono ?_
          rintro e w85 ⟨rfl, x⟩
          have z26 := x.size
          replace E := E.trans x
          replace LB15 := LB15.ext x
          replace LB16 := LB16.ext x
          replace RB15 := RB15.ext x
          replace RB16 := RB16.ext x
          replace HI := HI.ext x
          replace HO := HO.ext x
          replace cB15_1 := cell_ext (x) cB15_1
          replace cB15_2 := cell_ext (x) cB15_2
          replace cB16_1 := cell_ext (x) cB16_1
          replace cB16_2 := cell_ext (x) cB16_2
          clear x
          have TA110 : True := trivial
          go_wp2_with (clear TA110; refine app_bo rfl rfl (base := BS) (k := k) rfl (HO.ext ((Ext.refl _).alloc _)) rfl (Sl.built _ #[_] _) (by intro u hu; simp at hu; subst hu; rfl) (by omega) (by simp; omega) ?_; clear HO LB15 RB15 LB16 RB16 cB15_1 cB15_2 cB16_1 cB16_2 HI; intro v110 w110 HO H110; obtain ⟨A110, c110, e110, -, -⟩ := own_form HO.1; subst e110; have z27 : w85.heap.size ≤ w110.heap.size := Nat.le_trans ((Ext.refl w85).alloc _).size H110.size; replace E := (E.alloc _).trans' (H110.mono (by omega)); clear H110)
          exact ⟨⟨k + 1, _, _, _, by omega, rfl, by go_num, E, by omega, by rw [← HPS.out]; exact HO, by omega⟩, by simp [intOf]; omega⟩
        · have e67 : decide (1 < m) = false := decide_eq_false hm1
          have e74 : decide (1 < n) = false := decide_eq_false hn1
          obtain ⟨rfl, rfl⟩ := HXU.out hm1
          obtain ⟨rfl, rfl⟩ := HYV.out hn1
          go_wp2_with fail
          refine (hr _).mono ?_
          rintro e w85 ⟨rfl, x⟩
          have z24 := x.size
          replace E := E.trans x
          replace LB15 := LB15.ext x
          replace LB16 := LB16.ext x
          replace RB15 := RB15.ext x
          replace RB16 := RB16.ext x
          replace HI := HI.ext x
          replace HO := HO.ext x
          replace cB15_1 := cell_ext (x) cB15_1
          replace cB15_2 := cell_ext (x) cB15_2
          replace cB16_1 := cell_ext (x) cB16_1
          replace cB16_2 := cell_ext (x) cB16_2
          clear x
          have TA110 : True := trivial
          go_wp2_with (clear TA110; refine app_bo rfl rfl (base := BS) (k := k) rfl (HO.ext ((Ext.refl _).alloc _)) rfl (Sl.built _ #[_] _) (by intro u hu; simp at hu; subst hu; rfl) (by omega) (by simp; omega) ?_; clear HO LB15 RB15 LB16 RB16 cB15_1 cB15_2 cB16_1 cB16_2 HI; intro v110 w110 HO H110; obtain ⟨A110, c110, e110, -, -⟩ := own_form HO.1; subst e110; have z25 : w85.heap.size ≤ w110.heap.size := Nat.le_trans ((Ext.refl w85).alloc _).size H110.size; replace E := (E.alloc _).trans' (H110.mono (by omega)); clear H110)
          exact ⟨⟨k + 1, _, _, _, by omega, rfl, by go_num, E, by omega, by rw [← HPS.out]; exact HO, by omega⟩, by simp [intOf]; omega⟩
    · have hkm : k = N := by omega
      rw [hkm] at HO ⊢
      go_wp2_with fail
      go_ret2
      exact ⟨oA, oc, rfl, HO.sls (by omega), E⟩
theorem r11app_chr13 (cr : ∀ i j w', i < m → j < n → Calls Try.prog 48 #[.int .i64 13, .float .f64 (IA i).num, .float .f64 (IB j).num] w' fun e w2 => e = .returned (.tuple #[.bool (relB 13 (IA i).num (IB j).num), .int .i64 0]) ∧ Ext w' w2) :
    Calls Try.prog 53 #[.int .i64 13, .slice aA m ac, .int .i64 1, .slice bA n bc, .int .i64 1] w fun e w' => ∃ A c, e = .returned (.tuple #[.slice A N c, .int .i64 0]) ∧ SlS w' 1 A N (pre (fun k => .bool (((IA (ixN m k)).chr == (IB (ixN n k)).chr))) N) (New w.heap.size) ∧ Ext w w' := by
  obtain ⟨FV, hFV⟩ : ∃ FV : Nat → Value, (fun k => .bool (((IA (ixN m k)).chr == (IB (ixN n k)).chr))) = FV := ⟨_, rfl⟩
  rw [hFV]
  have HFV : Hid (∀ k, FV k = .bool (((IA (ixN m k)).chr == (IB (ixN n k)).chr))) := fun k => by rw [← hFV]
  clear hFV
  have E := Ext.refl w
  go_enter Try.func53, Try.ntmps53
  go_wp2_with fail
  refine (cl _).mono ?_
  rintro e w29 ⟨rfl, x⟩
  have z1 := x.size
  replace E := E.trans x
  clear x
  go_wp2_with fail
  obtain ⟨BS, hBS1, hBS2⟩ : ∃ BS, BS ≤ w29.heap.size ∧ w29.heap.size ≤ BS := ⟨_, Nat.le_refl _, Nat.le_refl _⟩
  go_loopw [13, 14] (fun o i wr => ∃ (k TP : Nat) (oA : Option Addr) (oc : Nat), k ≤ N ∧ o = .slice oA k oc ∧ i = .int .i64 k ∧ Ext w wr ∧ w29.heap.size ≤ wr.heap.size ∧ RowB 4 1 wr BS TP (.slice oA k oc) k (pre FV k) ∧ TP ≤ wr.heap.size) (fun _ i _ => N - (intOf i).toNat)
  case atStart => exact ⟨0, 0, none, 0, Nat.zero_le _, rfl, rfl, E, Nat.le_refl _, RowB.nil, Nat.zero_le _⟩
  case round =>
    obtain ⟨k, TP, oA, oc, hk, rfl, rfl, E', zW, HO, hTP⟩ := hrel
    clear E
    have E := E'
    clear E'
    have z2 := E.size
    by_cases hlt : k < N
    · have h0m : 0 < m := by omega
      have h0n : 0 < n := by omega
      have HFk := HFV.out k
      have hr := fun w' => cr (ixN m k) (ixN n k) w' (ixN_lt (by omega) hlt) (ixN_lt (by omega) hlt)
      obtain ⟨a, rfl, hX⟩ := HA.out 0 h0m
      obtain ⟨a2, ea2, hU⟩ := HA.out (ixN m k) (ixN_lt (by omega) hlt)
      cases ea2
      have HX := hX.ext E
      have HU := hU.ext E
      clear hX hU
      have hxu : ¬ 1 < m → IA 0 = IA (ixN m k) := fun h => by rw [show ixN m k = 0 by unfold ixN; rw [if_pos (by omega)]]
      have EU : Hid (1 < m → ixN m k = k) := fun h => by unfold ixN; rw [if_neg (by omega)]
      generalize IA (ixN m k) = u at HU HFk hr hxu
      generalize IA 0 = x at HX hxu
      obtain ⟨uk, un, uc, uA, um, ud⟩ := u
      obtain ⟨xk, xn, xc, xA, xm, xd⟩ := x
      have HXU : Hid (¬ 1 < m → xn = un ∧ xc = uc) := fun h => by have := hxu h; cases this; exact ⟨rfl, rfl⟩
      clear hxu
      obtain ⟨b, rfl, hY⟩ := HB.out 0 h0n
      obtain ⟨b2, eb2, hV⟩ := HB.out (ixN n k) (ixN_lt (by omega) hlt)
      cases eb2
      have HY := hY.ext E
      have HV := hV.ext E
      clear hY hV
      have hyv : ¬ 1 < n → IB 0 = IB (ixN n k) := fun h => by rw [show ixN n k = 0 by unfold ixN; rw [if_pos (by omega)]]
      have EV : Hid (1 < n → ixN n k = k) := fun h => by unfold ixN; rw [if_neg (by omega)]
      generalize IB (ixN n k) = v at HV HFk hr hyv
      generalize IB 0 = y at HY hyv
      obtain ⟨vk, vn, vc, vA, vm, vd⟩ := v
      obtain ⟨yk, yn, yc, yA, ym, yd⟩ := y
      have HYV : Hid (¬ 1 < n → yn = vn ∧ yc = vc) := fun h => by have := hyv h; cases this; exact ⟨rfl, rfl⟩
      clear hyv
      have HI := ((HX.both HY).both (HU.both HV))
      clear HX HY HU HV
      dsimp only at HFk hr
      have HPS : Hid (pre FV k ++ [.bool ((uc == vc))] = pre FV (k + 1)) := by show _ = _; rw [← HFk]; exact pre_step FV k
      clear HFk
      go_wp2_with fail
      try simp only [Act.put, List.setIfInBounds_toArray, List.set_cons_zero, List.set_cons_succ]
      apply joinK0 (F := fun (wS12 : World) => wr.heap.size ≤ wS12.heap.size ∧ Ext w wS12 ∧ Rd (fun w' => (ItAt w' (a.add (0 * 4)) ⟨xk, xn, xc, xA, xm, xd⟩ ∧ ItAt w' (b.add (0 * 4)) ⟨yk, yn, yc, yA, ym, yd⟩) ∧ ItAt w' (a.add (ixN m k * 4)) ⟨uk, un, uc, uA, um, ud⟩ ∧ ItAt w' (b.add (ixN n k * 4)) ⟨vk, vn, vc, vA, vm, vd⟩) wS12 (fun i => i < w.heap.size) ∧ RowB 4 1 wS12 BS TP (.slice oA k oc) k (pre FV k))
      · intro J
        refine J wr ?_
        exact ⟨Nat.le_refl _, E, HI, HO⟩
      intro wS12 hJS
      clear E HO HI
      refine wp_region_held_drew (S := (fun w' => (ItAt w' (a.add (0 * 4)) ⟨xk, xn, xc, xA, xm, xd⟩ ∧ ItAt w' (b.add (0 * 4)) ⟨yk, yn, yc, yA, ym, yd⟩))) (by kernel_rfl) (by obtain ⟨z5, E, HI, HO⟩ := hJS; exact ((HI.ext (Ext.refl _).drew).is.1)) (fun hH0 => ?_)
      apply joinK2 (F := fun (wD12_0 : World) (B15 : Nat) (B16 : Nat) => wS12.heap.size ≤ wD12_0.heap.size ∧ (wS12.heap.size ≤ B15 ∧ B15 < wD12_0.heap.size) ∧ (wS12.heap.size ≤ B16 ∧ B16 < wD12_0.heap.size) ∧ B15 ≠ B16 ∧ Ext w wD12_0 ∧ Lay 4 wD12_0 B15 (.agg #[.int .i64 xk, .float .f64 xn, .int .i32 xc, .slice xA xm xd]) ∧ Lay 4 wD12_0 B16 (.agg #[.int .i64 yk, .float .f64 yn, .int .i32 yc, .slice yA ym yd]) ∧ Room 4 wD12_0 B15 ∧ Room 4 wD12_0 B16 ∧ Rd (fun w' => (ItAt w' (a.add (0 * 4)) ⟨xk, xn, xc, xA, xm, xd⟩ ∧ ItAt w' (b.add (0 * 4)) ⟨yk, yn, yc, yA, ym, yd⟩) ∧ ItAt w' (a.add (ixN m k * 4)) ⟨uk, un, uc, uA, um, ud⟩ ∧ ItAt w' (b.add (ixN n k * 4)) ⟨vk, vn, vc, vA, vm, vd⟩) wD12_0 (fun i => i < w.heap.size) ∧ RowB 4 1 wD12_0 BS TP (.slice oA k oc) k (pre FV k) ∧ wD12_0.cell? ⟨B15, 1, none⟩ = some (.float .f64 xn) ∧ wD12_0.cell? ⟨B15, 2, none⟩ = some (.int .i32 xc) ∧ wD12_0.cell? ⟨B16, 1, none⟩ = some (.float .f64 yn) ∧ wD12_0.cell? ⟨B16, 2, none⟩ = some (.int .i32 yc))
      intro JD12_0
      apply joinK2 (F := fun (wD12_1 : World) (B15 : Nat) (B16 : Nat) => wS12.heap.size ≤ wD12_1.heap.size ∧ (wS12.heap.size ≤ B15 ∧ B15 < wD12_1.heap.size) ∧ (wS12.heap.size ≤ B16 ∧ B16 < wD12_1.heap.size) ∧ B15 ≠ B16 ∧ Ext w wD12_1 ∧ Lay 4 wD12_1 B15 zeroIt ∧ Lay 4 wD12_1 B16 zeroIt ∧ Room 4 wD12_1 B15 ∧ Room 4 wD12_1 B16 ∧ Rd (fun w' => (ItAt w' (a.add (0 * 4)) ⟨xk, xn, xc, xA, xm, xd⟩ ∧ ItAt w' (b.add (0 * 4)) ⟨yk, yn, yc, yA, ym, yd⟩) ∧ ItAt w' (a.add (ixN m k * 4)) ⟨uk, un, uc, uA, um, ud⟩ ∧ ItAt w' (b.add (ixN n k * 4)) ⟨vk, vn, vc, vA, vm, vd⟩) wD12_1 (fun i => i < w.heap.size) ∧ RowB 4 1 wD12_1 BS TP (.slice oA k oc) k (pre FV k))
      intro JD12_1
      · have hJQ := hJS
        obtain ⟨z5, E, HI, HO⟩ := hJQ
        have hq6 : wS12.heap.size ≤ wS12.drew.heap.size := Nat.le_refl _
        have z7 := (Ext.refl wS12).drew.size
        replace E := E.trans (Ext.refl wS12).drew
        replace HI := HI.ext (Ext.refl wS12).drew
        replace HO := HO.ext (Ext.refl wS12).drew
        have hHeld := (HI.is.1)
        refine wpAnyH_take (i := 0) (oi := { dst := some 59, op := Go.Op.move (Go.Operand.tmp 1), type := 87, pos := "ref.go:50", after := #[], guard := none }) (v := ?v8) rfl (by kernel_rfl) (by kernel_rfl) (by kernel_rfl) (fun _ _ _ h => h) (Or.inl ⟨by rfl, ?hy8⟩) hHeld ?rest8
        case hy8 => (intro w hSw; (try dsimp only at hSw); go_simp; (first | done | with_reducible rfl))
        try simp only [Act.put, List.setIfInBounds_toArray, List.set_cons_zero, List.set_cons_succ]
        refine wpAnyH_take (i := 1) (oi := { dst := some 60, op := Go.Op.indexAddr 87 (Go.Operand.tmp 59) (Go.Operand.const (Go.Value.int Go.IntKind.i64 0)), type := 0, pos := "ref.go:50", after := #[{ on := 0, ground := Go.Ground.data }], guard := none }) (v := .pointer (some (a.add (0 * 4)))) rfl (by kernel_rfl) (by kernel_rfl) (by kernel_rfl) (fun _ _ _ h => h) (Or.inl ⟨by rfl, ?hy9⟩) hHeld ?rest9
        case hy9 => (intro w hSw; (try dsimp only at hSw); go_simp; try rw [if_pos (by omega)]; try rw [Int.toNat_natCast]; (first | done | with_reducible rfl))
        try simp only [Act.put, List.setIfInBounds_toArray, List.set_cons_zero, List.set_cons_succ]
        refine wpAnyH_take (i := 2) (oi := { dst := some 61, op := Go.Op.load 125 (Go.Operand.tmp 60), type := 125, pos := "ref.go:50", after := #[{ on := 1, ground := Go.Ground.data }], guard := none }) (v := (.agg #[.int .i64 xk, .float .f64 xn, .int .i32 xc, .slice xA xm xd])) rfl (by kernel_rfl) (by kernel_rfl) (by kernel_rfl) (fun _ _ _ h => h) (yields_it (y := ⟨xk, xn, xc, xA, xm, xd⟩) (by rfl) rfl rfl fun w' hx => hx.1) hHeld ?_
        try simp only [Act.put, List.setIfInBounds_toArray, List.set_cons_zero, List.set_cons_succ]
        refine wpAnyH_take (i := 3) (oi := { dst := some 62, op := Go.Op.move (Go.Operand.tmp 3), type := 87, pos := "ref.go:50", after := #[{ on := 8, ground := Go.Ground.gcOnly Go.Departure.lateStores }], guard := none }) (v := ?v11) rfl (by kernel_rfl) (by kernel_rfl) (by kernel_rfl) (fun _ _ _ h => h) (Or.inl ⟨by rfl, ?hy11⟩) hHeld ?rest11
        case hy11 => (intro w hSw; (try dsimp only at hSw); go_simp; (first | done | with_reducible rfl))
        try simp only [Act.put, List.setIfInBounds_toArray, List.set_cons_zero, List.set_cons_succ]
        refine wpAnyH_take (i := 4) (oi := { dst := some 63, op := Go.Op.indexAddr 87 (Go.Operand.tmp 62) (Go.Operand.const (Go.Value.int Go.IntKind.i64 0)), type := 0, pos := "ref.go:50", after := #[{ on := 3, ground := Go.Ground.data }, { on := 8, ground := Go.Ground.gcOnly Go.Departure.lateStores }], guard := none }) (v := .pointer (some (b.add (0 * 4)))) rfl (by kernel_rfl) (by kernel_rfl) (by kernel_rfl) (fun _ _ _ h => h) (Or.inl ⟨by rfl, ?hy12⟩) hHeld ?rest12
        case hy12 => (intro w hSw; (try dsimp only at hSw); go_simp; try rw [if_pos (by omega)]; try rw [Int.toNat_natCast]; (first | done | with_reducible rfl))
        try simp only [Act.put, List.setIfInBounds_toArray, List.set_cons_zero, List.set_cons_succ]
        refine wpAnyH_take (i := 5) (oi := { dst := some 64, op := Go.Op.load 125 (Go.Operand.tmp 63), type := 125, pos := "ref.go:50", after := #[{ on := 4, ground := Go.Ground.data }, { on := 8, ground := Go.Ground.gcOnly Go.Departure.lateStores }], guard := none }) (v := (.agg #[.int .i64 yk, .float .f64 yn, .int .i32 yc, .slice yA ym yd])) rfl (by kernel_rfl) (by kernel_rfl) (by kernel_rfl) (fun _ _ _ h => h) (yields_it (y := ⟨yk, yn, yc, yA, ym, yd⟩) (by rfl) rfl rfl fun w' hx => hx.2) hHeld ?_
        try simp only [Act.put, List.setIfInBounds_toArray, List.set_cons_zero, List.set_cons_succ]
        refine wpAnyH_ready (rs := [6, 7]) (by kernel_rfl) (by simp) ?_
        refine AllReadyH.cons (o := r11ap_12_6) rfl (fun K hK => ?_) (AllReadyH.cons (o := r11ap_12_7) rfl (fun K hK => ?_) (AllReadyH.nil))
        · dsimp only [r11ap_12_6]
          rw [if_pos (by rfl)]
          refine allocI rfl ?_
          intro B15 w15 bB15 cB15 XB15 LB15 RB15
          have z14 := XB15.size
          replace E := E.trans XB15
          replace HI := HI.ext XB15
          replace HO := HO.ext XB15
          clear hHeld
          have hHeld := (HI.is.1)
          refine hK.out _ _ hHeld (fun _ => ?_)
          clear hK K
          try simp only [Act.put, List.setIfInBounds_toArray, List.set_cons_zero, List.set_cons_succ]
          refine wpAnyH_ready (rs := [7]) (by kernel_rfl) (by simp) ?_
          refine AllReadyH.cons (o := r11ap_12_7) rfl (fun K hK => ?_) (AllReadyH.nil)
          dsimp only [r11ap_12_7]
          rw [if_pos (by rfl)]
          refine allocI rfl ?_
          intro B16 w16 bB16 cB16 XB16 LB16 RB16
          have z15 := XB16.size
          replace E := E.trans XB16
          replace HI := HI.ext XB16
          replace HO := HO.ext XB16
          replace LB15 := LB15.ext XB16
          replace RB15 := RB15.ext XB16
          clear hHeld
          have hHeld := (HI.is.1)
          refine hK.out _ _ hHeld (fun _ => ?_)
          clear hK K
          try simp only [Act.put, List.setIfInBounds_toArray, List.set_cons_zero, List.set_cons_succ]
          refine JD12_1 w16 B15 B16 ?_
          exact ⟨by omega, ⟨by omega, by omega⟩, ⟨by omega, by omega⟩, by omega, E, LB15, LB16, RB15, RB16, HI, HO⟩
        · dsimp only [r11ap_12_7]
          rw [if_pos (by rfl)]
          refine allocI rfl ?_
          intro B16 w16 bB16 cB16 XB16 LB16 RB16
          have z16 := XB16.size
          replace E := E.trans XB16
          replace HI := HI.ext XB16
          replace HO := HO.ext XB16
          clear hHeld
          have hHeld := (HI.is.1)
          refine hK.out _ _ hHeld (fun _ => ?_)
          clear hK K
          try simp only [Act.put, List.setIfInBounds_toArray, List.set_cons_zero, List.set_cons_succ]
          refine wpAnyH_ready (rs := [6]) (by kernel_rfl) (by simp) ?_
          refine AllReadyH.cons (o := r11ap_12_6) rfl (fun K hK => ?_) (AllReadyH.nil)
          dsimp only [r11ap_12_6]
          rw [if_pos (by rfl)]
          refine allocI rfl ?_
          intro B15 w15 bB15 cB15 XB15 LB15 RB15
          have z17 := XB15.size
          replace E := E.trans XB15
          replace HI := HI.ext XB15
          replace HO := HO.ext XB15
          replace LB16 := LB16.ext XB15
          replace RB16 := RB16.ext XB15
          clear hHeld
          have hHeld := (HI.is.1)
          refine hK.out _ _ hHeld (fun _ => ?_)
          clear hK K
          try simp only [Act.put, List.setIfInBounds_toArray, List.set_cons_zero, List.set_cons_succ]
          refine JD12_1 w15 B15 B16 ?_
          exact ⟨by omega, ⟨by omega, by omega⟩, ⟨by omega, by omega⟩, by omega, E, LB15, LB16, RB15, RB16, HI, HO⟩
      · intro wD12_1 B15 B16 hJ
        obtain ⟨z18, ⟨bB15, cB15⟩, ⟨bB16, cB16⟩, nB15B16, E, LB15, LB16, RB15, RB16, HI, HO⟩ := hJ
        try dsimp only
        have hHeld := (HI.is.1)
        refine wpAnyH_ready (rs := [8]) (by kernel_rfl) (by simp) ?_
        refine AllReadyH.cons (o := r11ap_12_8) rfl (fun K hK => ?_) (AllReadyH.nil)
        dsimp only [r11ap_12_8]
        rw [if_pos (by rfl)]
        have hRl := (RB15).lt (Nat.zero_lt_succ _)
        refine storeI (by rfl) (by rfl) (v := (.agg #[.int .i64 xk, .float .f64 xn, .int .i32 xc, .slice xA xm xd])) (by rfl) RB15 (it_flat xk xn xc xA xm xd) ?_
        clear LB15
        intro s19 G19 LB15 RQ
        have z20 := G19.size
        replace E := grown_ext E G19 (by omega)
        replace LB16 := LB16.grown G19 (by omega)
        replace RB16 := RB16.grown G19 (by omega)
        replace HI := HI.grown G19 (by first | omega | (dsimp only [New]; omega))
        replace HO := HO.grown G19 (by omega)
        clear RB15
        have RB15 := RQ
        clear RQ hRl G19
        clear hHeld
        have hHeld := (HI.is.1)
        refine hK.out _ _ hHeld (fun _ => ?_)
        clear hK K
        try simp only [Act.put]
        refine wpAnyH_ready (rs := [9]) (by kernel_rfl) (by simp) ?_
        refine AllReadyH.cons (o := r11ap_12_9) rfl (fun K hK => ?_) (AllReadyH.nil)
        dsimp only [r11ap_12_9]
        rw [if_pos (by rfl)]
        have hRl := (RB16).lt (Nat.zero_lt_succ _)
        refine storeI (by rfl) (by rfl) (v := (.agg #[.int .i64 yk, .float .f64 yn, .int .i32 yc, .slice yA ym yd])) (by rfl) RB16 (it_flat yk yn yc yA ym yd) ?_
        clear LB16
        intro s21 G21 LB16 RQ
        have z22 := G21.size
        replace E := grown_ext E G21 (by omega)
        replace LB15 := LB15.grown G21 (by omega)
        replace RB15 := RB15.grown G21 (by omega)
        replace HI := HI.grown G21 (by first | omega | (dsimp only [New]; omega))
        replace HO := HO.grown G21 (by omega)
        clear RB16
        have RB16 := RQ
        clear RQ hRl G21
        clear hHeld
        have hHeld := (HI.is.1)
        refine hK.out _ _ hHeld (fun _ => ?_)
        clear hK K
        try simp only [Act.put]
        refine wpAnyH_done (by kernel_rfl) ?_ _
        refine JD12_0 s21 B15 B16 ?_
        exact ⟨by omega, ⟨by omega, by omega⟩, ⟨by omega, by omega⟩, by omega, E, LB15, LB16, RB15, RB16, HI, HO, lay_cell LB15 (j := 1) rfl, lay_cell LB15 (j := 2) rfl, lay_cell LB16 (j := 1) rfl, lay_cell LB16 (j := 2) rfl⟩
      · intro wD12_0 B15 B16 hJ
        obtain ⟨z23, ⟨bB15, cB15⟩, ⟨bB16, cB16⟩, nB15B16, E, LB15, LB16, RB15, RB16, HI, HO, cB15_1, cB15_2, cB16_1, cB16_2⟩ := hJ
        try dsimp only
        have MARK : True := trivial
        have hm4 : (1 < m ∧ 1 < n) ∨ (1 < m ∧ ¬ 1 < n) ∨ (¬ 1 < m ∧ 1 < n) ∨ (¬ 1 < m ∧ ¬ 1 < n) := by omega
        rcases hm4 with ⟨hm1, hn1⟩ | ⟨hm1, hn1⟩ | ⟨hm1, hn1⟩ | ⟨hm1, hn1⟩
        · have e67 : decide (1 < m) = true := decide_eq_true hm1
          have e74 : decide (1 < n) = true := decide_eq_true hn1
          rw [EU.out hm1] at HI
          rw [EV.out hn1] at HI
          have TG24 : True := trivial
          have TG26 : True := trivial
          go_wp2_with (first | (refine loads_it rfl rfl rfl (HI.is.2.1) ?_) | (clear TG24; have hRl := (RB15).lt (Nat.zero_lt_succ _); refine storesI (B := B15) rfl rfl rfl (v := (.agg #[.int .i64 uk, .float .f64 un, .int .i32 uc, .slice uA um ud])) rfl RB15 (it_flat uk un uc uA um ud) ?_; clear LB15; clear cB15_1; clear cB15_2; intro s24 G24 LB15 RQ; have z25 := G24.size; replace E := grown_ext E G24 (by omega); replace LB16 := LB16.grown G24 (by omega); replace RB16 := RB16.grown G24 (by omega); replace HI := HI.grown G24 (by first | omega | (dsimp only [New]; omega)); replace HO := HO.grown G24 (by omega); replace cB16_1 := cell_grown (G24) cB16_1 (by show B16 ≠ _; omega); replace cB16_2 := cell_grown (G24) cB16_2 (by show B16 ≠ _; omega); clear RB15; have RB15 := RQ; clear RQ hRl; have cB15_1 := lay_cell LB15 (j := 1) rfl; have cB15_2 := lay_cell LB15 (j := 2) rfl) | (refine loads_it rfl rfl rfl (HI.is.2.2) ?_) | (clear TG26; have hRl := (RB16).lt (Nat.zero_lt_succ _); refine storesI (B := B16) rfl rfl rfl (v := (.agg #[.int .i64 vk, .float .f64 vn, .int .i32 vc, .slice vA vm vd])) rfl RB16 (it_flat vk vn vc vA vm vd) ?_; clear LB16; clear cB16_1; clear cB16_2; intro s26 G26 LB16 RQ; have z27 := G26.size; replace E := grown_ext E G26 (by omega); replace LB15 := LB15.grown G26 (by omega); replace RB15 := RB15.grown G26 (by omega); replace HI := HI.grown G26 (by first | omega | (dsimp only [New]; omega)); replace HO := HO.grown G26 (by omega); replace cB15_1 := cell_grown (G26) cB15_1 (by show B15 ≠ _; omega); replace cB15_2 := cell_grown (G26) cB15_2 (by show B15 ≠ _; omega); clear RB16; have RB16 := RQ; clear RQ hRl; have cB16_1 := lay_cell LB16 (j := 1) rfl; have cB16_2 := lay_cell LB16 (j := 2) rfl))
          refine (hr _).mono ?_
          rintro e w85 ⟨rfl, x⟩
          have z28 := x.size
          replace E := E.trans x
          replace LB15 := LB15.ext x
          replace LB16 := LB16.ext x
          replace RB15 := RB15.ext x
          replace RB16 := RB16.ext x
          replace HI := HI.ext x
          replace HO := HO.ext x
          replace cB15_1 := cell_ext (x) cB15_1
          replace cB15_2 := cell_ext (x) cB15_2
          replace cB16_1 := cell_ext (x) cB16_1
          replace cB16_2 := cell_ext (x) cB16_2
          clear x
          have TA110 : True := trivial
          go_wp2_with (clear TA110; refine app_bo rfl rfl (base := BS) (k := k) rfl (HO.ext ((Ext.refl _).alloc _)) rfl (Sl.built _ #[_] _) (by intro u hu; simp at hu; subst hu; rfl) (by omega) (by simp; omega) ?_; clear HO LB15 RB15 LB16 RB16 cB15_1 cB15_2 cB16_1 cB16_2 HI; intro v110 w110 HO H110; obtain ⟨A110, c110, e110, -, -⟩ := own_form HO.1; subst e110; have z29 : w85.heap.size ≤ w110.heap.size := Nat.le_trans ((Ext.refl w85).alloc _).size H110.size; replace E := (E.alloc _).trans' (H110.mono (by omega)); clear H110)
          exact ⟨⟨k + 1, _, _, _, by omega, rfl, by go_num, E, by omega, by rw [← HPS.out]; exact HO, by omega⟩, by simp [intOf]; omega⟩
        · have e67 : decide (1 < m) = true := decide_eq_true hm1
          have e74 : decide (1 < n) = false := decide_eq_false hn1
          rw [EU.out hm1] at HI
          obtain ⟨rfl, rfl⟩ := HYV.out hn1
          have TG24 : True := trivial
          go_wp2_with (first | (refine loads_it rfl rfl rfl (HI.is.2.1) ?_) | (clear TG24; have hRl := (RB15).lt (Nat.zero_lt_succ _); refine storesI (B := B15) rfl rfl rfl (v := (.agg #[.int .i64 uk, .float .f64 un, .int .i32 uc, .slice uA um ud])) rfl RB15 (it_flat uk un uc uA um ud) ?_; clear LB15; clear cB15_1; clear cB15_2; intro s24 G24 LB15 RQ; have z25 := G24.size; replace E := grown_ext E G24 (by omega); replace LB16 := LB16.grown G24 (by omega); replace RB16 := RB16.grown G24 (by omega); replace HI := HI.grown G24 (by first | omega | (dsimp only [New]; omega)); replace HO := HO.grown G24 (by omega); replace cB16_1 := cell_grown (G24) cB16_1 (by show B16 ≠ _; omega); replace cB16_2 := cell_grown (G24) cB16_2 (by show B16 ≠ _; omega); clear RB15; have RB15 := RQ; clear RQ hRl; have cB15_1 := lay_cell LB15 (j := 1) rfl; have cB15_2 := lay_cell LB15 (j := 2) rfl))
          refine (hr _).mono ?_
          rintro e w85 ⟨rfl, x⟩
          have z26 := x.size
          replace E := E.trans x
          replace LB15 := LB15.ext x
          replace LB16 := LB16.ext x
          replace RB15 := RB15.ext x
          replace RB16 := RB16.ext x
          replace HI := HI.ext x
          replace HO := HO.ext x
          replace cB16_1 := cell_ext (x) cB16_1
          replace cB16_2 := cell_ext (x) cB16_2
          replace cB15_1 := cell_ext (x) cB15_1
          replace cB15_2 := cell_ext (x) cB15_2
          clear x
          have TA110 : True := trivial
          go_wp2_with (clear TA110; refine app_bo rfl rfl (base := BS) (k := k) rfl (HO.ext ((Ext.refl _).alloc _)) rfl (Sl.built _ #[_] _) (by intro u hu; simp at hu; subst hu; rfl) (by omega) (by simp; omega) ?_; clear HO LB15 RB15 LB16 RB16 cB15_1 cB15_2 cB16_1 cB16_2 HI; intro v110 w110 HO H110; obtain ⟨A110, c110, e110, -, -⟩ := own_form HO.1; subst e110; have z27 : w85.heap.size ≤ w110.heap.size := Nat.le_trans ((Ext.refl w85).alloc _).size H110.size; replace E := (E.alloc _).trans' (H110.mono (by omega)); clear H110)
          exact ⟨⟨k + 1, _, _, _, by omega, rfl, by go_num, E, by omega, by rw [← HPS.out]; exact HO, by omega⟩, by simp [intOf]; omega⟩
        · have e67 : decide (1 < m) = false := decide_eq_false hm1
          have e74 : decide (1 < n) = true := decide_eq_true hn1
          obtain ⟨rfl, rfl⟩ := HXU.out hm1
          rw [EV.out hn1] at HI
          have TG24 : True := trivial
          go_wp2_with (first | (refine loads_it rfl rfl rfl (HI.is.2.2) ?_) | (clear TG24; have hRl := (RB16).lt (Nat.zero_lt_succ _); refine storesI (B := B16) rfl rfl rfl (v := (.agg #[.int .i64 vk, .float .f64 vn, .int .i32 vc, .slice vA vm vd])) rfl RB16 (it_flat vk vn vc vA vm vd) ?_; clear LB16; clear cB16_1; clear cB16_2; intro s24 G24 LB16 RQ; have z25 := G24.size; replace E := grown_ext E G24 (by omega); replace LB15 := LB15.grown G24 (by omega); replace RB15 := RB15.grown G24 (by omega); replace HI := HI.grown G24 (by first | omega | (dsimp only [New]; omega)); replace HO := HO.grown G24 (by omega); replace cB15_1 := cell_grown (G24) cB15_1 (by show B15 ≠ _; omega); replace cB15_2 := cell_grown (G24) cB15_2 (by show B15 ≠ _; omega); clear RB16; have RB16 := RQ; clear RQ hRl; have cB16_1 := lay_cell LB16 (j := 1) rfl; have cB16_2 := lay_cell LB16 (j := 2) rfl))
          refine (hr _).mono ?_
          rintro e w85 ⟨rfl, x⟩
          have z26 := x.size
          replace E := E.trans x
          replace LB15 := LB15.ext x
          replace LB16 := LB16.ext x
          replace RB15 := RB15.ext x
          replace RB16 := RB16.ext x
          replace HI := HI.ext x
          replace HO := HO.ext x
          replace cB15_1 := cell_ext (x) cB15_1
          replace cB15_2 := cell_ext (x) cB15_2
          replace cB16_1 := cell_ext (x) cB16_1
          replace cB16_2 := cell_ext (x) cB16_2
          clear x
          have TA110 : True := trivial
          go_wp2_with (clear TA110; refine app_bo rfl rfl (base := BS) (k := k) rfl (HO.ext ((Ext.refl _).alloc _)) rfl (Sl.built _ #[_] _) (by intro u hu; simp at hu; subst hu; rfl) (by omega) (by simp; omega) ?_; clear HO LB15 RB15 LB16 RB16 cB15_1 cB15_2 cB16_1 cB16_2 HI; intro v110 w110 HO H110; obtain ⟨A110, c110, e110, -, -⟩ := own_form HO.1; subst e110; have z27 : w85.heap.size ≤ w110.heap.size := Nat.le_trans ((Ext.refl w85).alloc _).size H110.size; replace E := (E.alloc _).trans' (H110.mono (by omega)); clear H110)
          exact ⟨⟨k + 1, _, _, _, by omega, rfl, by go_num, E, by omega, by rw [← HPS.out]; exact HO, by omega⟩, by simp [intOf]; omega⟩
        · have e67 : decide (1 < m) = false := decide_eq_false hm1
          have e74 : decide (1 < n) = false := decide_eq_false hn1
          obtain ⟨rfl, rfl⟩ := HXU.out hm1
          obtain ⟨rfl, rfl⟩ := HYV.out hn1
          go_wp2_with fail
          refine (hr _).mono ?_
          rintro e w85 ⟨rfl, x⟩
          have z24 := x.size
          replace E := E.trans x
          replace LB15 := LB15.ext x
          replace LB16 := LB16.ext x
          replace RB15 := RB15.ext x
          replace RB16 := RB16.ext x
          replace HI := HI.ext x
          replace HO := HO.ext x
          replace cB15_1 := cell_ext (x) cB15_1
          replace cB15_2 := cell_ext (x) cB15_2
          replace cB16_1 := cell_ext (x) cB16_1
          replace cB16_2 := cell_ext (x) cB16_2
          clear x
          have TA110 : True := trivial
          go_wp2_with (clear TA110; refine app_bo rfl rfl (base := BS) (k := k) rfl (HO.ext ((Ext.refl _).alloc _)) rfl (Sl.built _ #[_] _) (by intro u hu; simp at hu; subst hu; rfl) (by omega) (by simp; omega) ?_; clear HO LB15 RB15 LB16 RB16 cB15_1 cB15_2 cB16_1 cB16_2 HI; intro v110 w110 HO H110; obtain ⟨A110, c110, e110, -, -⟩ := own_form HO.1; subst e110; have z25 : w85.heap.size ≤ w110.heap.size := Nat.le_trans ((Ext.refl w85).alloc _).size H110.size; replace E := (E.alloc _).trans' (H110.mono (by omega)); clear H110)
          exact ⟨⟨k + 1, _, _, _, by omega, rfl, by go_num, E, by omega, by rw [← HPS.out]; exact HO, by omega⟩, by simp [intOf]; omega⟩
    · have hkm : k = N := by omega
      rw [hkm] at HO ⊢
      go_wp2_with fail
      go_ret2
      exact ⟨oA, oc, rfl, HO.sls (by omega), E⟩
theorem r11app_chr16 (cr : ∀ i j w', i < m → j < n → Calls Try.prog 48 #[.int .i64 16, .float .f64 (IA i).num, .float .f64 (IB j).num] w' fun e w2 => e = .returned (.tuple #[.bool (relB 16 (IA i).num (IB j).num), .int .i64 0]) ∧ Ext w' w2) :
    Calls Try.prog 53 #[.int .i64 16, .slice aA m ac, .int .i64 1, .slice bA n bc, .int .i64 1] w fun e w' => ∃ A c, e = .returned (.tuple #[.slice A N c, .int .i64 0]) ∧ SlS w' 1 A N (pre (fun k => .bool (!((IA (ixN m k)).chr == (IB (ixN n k)).chr))) N) (New w.heap.size) ∧ Ext w w' := by
  obtain ⟨FV, hFV⟩ : ∃ FV : Nat → Value, (fun k => .bool (!((IA (ixN m k)).chr == (IB (ixN n k)).chr))) = FV := ⟨_, rfl⟩
  rw [hFV]
  have HFV : Hid (∀ k, FV k = .bool (!((IA (ixN m k)).chr == (IB (ixN n k)).chr))) := fun k => by rw [← hFV]
  clear hFV
  have E := Ext.refl w
  go_enter Try.func53, Try.ntmps53
  go_wp2_with fail
  refine (cl _).mono ?_
  rintro e w29 ⟨rfl, x⟩
  have z1 := x.size
  replace E := E.trans x
  clear x
  go_wp2_with fail
  obtain ⟨BS, hBS1, hBS2⟩ : ∃ BS, BS ≤ w29.heap.size ∧ w29.heap.size ≤ BS := ⟨_, Nat.le_refl _, Nat.le_refl _⟩
  go_loopw [13, 14] (fun o i wr => ∃ (k TP : Nat) (oA : Option Addr) (oc : Nat), k ≤ N ∧ o = .slice oA k oc ∧ i = .int .i64 k ∧ Ext w wr ∧ w29.heap.size ≤ wr.heap.size ∧ RowB 4 1 wr BS TP (.slice oA k oc) k (pre FV k) ∧ TP ≤ wr.heap.size) (fun _ i _ => N - (intOf i).toNat)
  case atStart => exact ⟨0, 0, none, 0, Nat.zero_le _, rfl, rfl, E, Nat.le_refl _, RowB.nil, Nat.zero_le _⟩
  case round =>
    obtain ⟨k, TP, oA, oc, hk, rfl, rfl, E', zW, HO, hTP⟩ := hrel
    clear E
    have E := E'
    clear E'
    have z2 := E.size
    by_cases hlt : k < N
    · have h0m : 0 < m := by omega
      have h0n : 0 < n := by omega
      have HFk := HFV.out k
      have hr := fun w' => cr (ixN m k) (ixN n k) w' (ixN_lt (by omega) hlt) (ixN_lt (by omega) hlt)
      obtain ⟨a, rfl, hX⟩ := HA.out 0 h0m
      obtain ⟨a2, ea2, hU⟩ := HA.out (ixN m k) (ixN_lt (by omega) hlt)
      cases ea2
      have HX := hX.ext E
      have HU := hU.ext E
      clear hX hU
      have hxu : ¬ 1 < m → IA 0 = IA (ixN m k) := fun h => by rw [show ixN m k = 0 by unfold ixN; rw [if_pos (by omega)]]
      have EU : Hid (1 < m → ixN m k = k) := fun h => by unfold ixN; rw [if_neg (by omega)]
      generalize IA (ixN m k) = u at HU HFk hr hxu
      generalize IA 0 = x at HX hxu
      obtain ⟨uk, un, uc, uA, um, ud⟩ := u
      obtain ⟨xk, xn, xc, xA, xm, xd⟩ := x
      have HXU : Hid (¬ 1 < m → xn = un ∧ xc = uc) := fun h => by have := hxu h; cases this; exact ⟨rfl, rfl⟩
      clear hxu
      obtain ⟨b, rfl, hY⟩ := HB.out 0 h0n
      obtain ⟨b2, eb2, hV⟩ := HB.out (ixN n k) (ixN_lt (by omega) hlt)
      cases eb2
      have HY := hY.ext E
      have HV := hV.ext E
      clear hY hV
      have hyv : ¬ 1 < n → IB 0 = IB (ixN n k) := fun h => by rw [show ixN n k = 0 by unfold ixN; rw [if_pos (by omega)]]
      have EV : Hid (1 < n → ixN n k = k) := fun h => by unfold ixN; rw [if_neg (by omega)]
      generalize IB (ixN n k) = v at HV HFk hr hyv
      generalize IB 0 = y at HY hyv
      obtain ⟨vk, vn, vc, vA, vm, vd⟩ := v
      obtain ⟨yk, yn, yc, yA, ym, yd⟩ := y
      have HYV : Hid (¬ 1 < n → yn = vn ∧ yc = vc) := fun h => by have := hyv h; cases this; exact ⟨rfl, rfl⟩
      clear hyv
      have HI := ((HX.both HY).both (HU.both HV))
      clear HX HY HU HV
      dsimp only at HFk hr
      have HPS : Hid (pre FV k ++ [.bool (!(uc == vc))] = pre FV (k + 1)) := by show _ = _; rw [← HFk]; exact pre_step FV k
      clear HFk
      go_wp2_with fail
      try simp only [Act.put, List.setIfInBounds_toArray, List.set_cons_zero, List.set_cons_succ]
      apply joinK0 (F := fun (wS12 : World) => wr.heap.size ≤ wS12.heap.size ∧ Ext w wS12 ∧ Rd (fun w' => (ItAt w' (a.add (0 * 4)) ⟨xk, xn, xc, xA, xm, xd⟩ ∧ ItAt w' (b.add (0 * 4)) ⟨yk, yn, yc, yA, ym, yd⟩) ∧ ItAt w' (a.add (ixN m k * 4)) ⟨uk, un, uc, uA, um, ud⟩ ∧ ItAt w' (b.add (ixN n k * 4)) ⟨vk, vn, vc, vA, vm, vd⟩) wS12 (fun i => i < w.heap.size) ∧ RowB 4 1 wS12 BS TP (.slice oA k oc) k (pre FV k))
      · intro J
        refine J wr ?_
        exact ⟨Nat.le_refl _, E, HI, HO⟩
      intro wS12 hJS
      clear E HO HI
      refine wp_region_held_drew (S := (fun w' => (ItAt w' (a.add (0 * 4)) ⟨xk, xn, xc, xA, xm, xd⟩ ∧ ItAt w' (b.add (0 * 4)) ⟨yk, yn, yc, yA, ym, yd⟩))) (by kernel_rfl) (by obtain ⟨z5, E, HI, HO⟩ := hJS; exact ((HI.ext (Ext.refl _).drew).is.1)) (fun hH0 => ?_)
      apply joinK2 (F := fun (wD12_0 : World) (B15 : Nat) (B16 : Nat) => wS12.heap.size ≤ wD12_0.heap.size ∧ (wS12.heap.size ≤ B15 ∧ B15 < wD12_0.heap.size) ∧ (wS12.heap.size ≤ B16 ∧ B16 < wD12_0.heap.size) ∧ B15 ≠ B16 ∧ Ext w wD12_0 ∧ Lay 4 wD12_0 B15 (.agg #[.int .i64 xk, .float .f64 xn, .int .i32 xc, .slice xA xm xd]) ∧ Lay 4 wD12_0 B16 (.agg #[.int .i64 yk, .float .f64 yn, .int .i32 yc, .slice yA ym yd]) ∧ Room 4 wD12_0 B15 ∧ Room 4 wD12_0 B16 ∧ Rd (fun w' => (ItAt w' (a.add (0 * 4)) ⟨xk, xn, xc, xA, xm, xd⟩ ∧ ItAt w' (b.add (0 * 4)) ⟨yk, yn, yc, yA, ym, yd⟩) ∧ ItAt w' (a.add (ixN m k * 4)) ⟨uk, un, uc, uA, um, ud⟩ ∧ ItAt w' (b.add (ixN n k * 4)) ⟨vk, vn, vc, vA, vm, vd⟩) wD12_0 (fun i => i < w.heap.size) ∧ RowB 4 1 wD12_0 BS TP (.slice oA k oc) k (pre FV k) ∧ wD12_0.cell? ⟨B15, 1, none⟩ = some (.float .f64 xn) ∧ wD12_0.cell? ⟨B15, 2, none⟩ = some (.int .i32 xc) ∧ wD12_0.cell? ⟨B16, 1, none⟩ = some (.float .f64 yn) ∧ wD12_0.cell? ⟨B16, 2, none⟩ = some (.int .i32 yc))
      intro JD12_0
      apply joinK2 (F := fun (wD12_1 : World) (B15 : Nat) (B16 : Nat) => wS12.heap.size ≤ wD12_1.heap.size ∧ (wS12.heap.size ≤ B15 ∧ B15 < wD12_1.heap.size) ∧ (wS12.heap.size ≤ B16 ∧ B16 < wD12_1.heap.size) ∧ B15 ≠ B16 ∧ Ext w wD12_1 ∧ Lay 4 wD12_1 B15 zeroIt ∧ Lay 4 wD12_1 B16 zeroIt ∧ Room 4 wD12_1 B15 ∧ Room 4 wD12_1 B16 ∧ Rd (fun w' => (ItAt w' (a.add (0 * 4)) ⟨xk, xn, xc, xA, xm, xd⟩ ∧ ItAt w' (b.add (0 * 4)) ⟨yk, yn, yc, yA, ym, yd⟩) ∧ ItAt w' (a.add (ixN m k * 4)) ⟨uk, un, uc, uA, um, ud⟩ ∧ ItAt w' (b.add (ixN n k * 4)) ⟨vk, vn, vc, vA, vm, vd⟩) wD12_1 (fun i => i < w.heap.size) ∧ RowB 4 1 wD12_1 BS TP (.slice oA k oc) k (pre FV k))
      intro JD12_1
      · have hJQ := hJS
        obtain ⟨z5, E, HI, HO⟩ := hJQ
        have hq6 : wS12.heap.size ≤ wS12.drew.heap.size := Nat.le_refl _
        have z7 := (Ext.refl wS12).drew.size
        replace E := E.trans (Ext.refl wS12).drew
        replace HI := HI.ext (Ext.refl wS12).drew
        replace HO := HO.ext (Ext.refl wS12).drew
        have hHeld := (HI.is.1)
        refine wpAnyH_take (i := 0) (oi := { dst := some 59, op := Go.Op.move (Go.Operand.tmp 1), type := 87, pos := "ref.go:50", after := #[], guard := none }) (v := ?v8) rfl (by kernel_rfl) (by kernel_rfl) (by kernel_rfl) (fun _ _ _ h => h) (Or.inl ⟨by rfl, ?hy8⟩) hHeld ?rest8
        case hy8 => (intro w hSw; (try dsimp only at hSw); go_simp; (first | done | with_reducible rfl))
        try simp only [Act.put, List.setIfInBounds_toArray, List.set_cons_zero, List.set_cons_succ]
        refine wpAnyH_take (i := 1) (oi := { dst := some 60, op := Go.Op.indexAddr 87 (Go.Operand.tmp 59) (Go.Operand.const (Go.Value.int Go.IntKind.i64 0)), type := 0, pos := "ref.go:50", after := #[{ on := 0, ground := Go.Ground.data }], guard := none }) (v := .pointer (some (a.add (0 * 4)))) rfl (by kernel_rfl) (by kernel_rfl) (by kernel_rfl) (fun _ _ _ h => h) (Or.inl ⟨by rfl, ?hy9⟩) hHeld ?rest9
        case hy9 => (intro w hSw; (try dsimp only at hSw); go_simp; try rw [if_pos (by omega)]; try rw [Int.toNat_natCast]; (first | done | with_reducible rfl))
        try simp only [Act.put, List.setIfInBounds_toArray, List.set_cons_zero, List.set_cons_succ]
        refine wpAnyH_take (i := 2) (oi := { dst := some 61, op := Go.Op.load 125 (Go.Operand.tmp 60), type := 125, pos := "ref.go:50", after := #[{ on := 1, ground := Go.Ground.data }], guard := none }) (v := (.agg #[.int .i64 xk, .float .f64 xn, .int .i32 xc, .slice xA xm xd])) rfl (by kernel_rfl) (by kernel_rfl) (by kernel_rfl) (fun _ _ _ h => h) (yields_it (y := ⟨xk, xn, xc, xA, xm, xd⟩) (by rfl) rfl rfl fun w' hx => hx.1) hHeld ?_
        try simp only [Act.put, List.setIfInBounds_toArray, List.set_cons_zero, List.set_cons_succ]
        refine wpAnyH_take (i := 3) (oi := { dst := some 62, op := Go.Op.move (Go.Operand.tmp 3), type := 87, pos := "ref.go:50", after := #[{ on := 8, ground := Go.Ground.gcOnly Go.Departure.lateStores }], guard := none }) (v := ?v11) rfl (by kernel_rfl) (by kernel_rfl) (by kernel_rfl) (fun _ _ _ h => h) (Or.inl ⟨by rfl, ?hy11⟩) hHeld ?rest11
        case hy11 => (intro w hSw; (try dsimp only at hSw); go_simp; (first | done | with_reducible rfl))
        try simp only [Act.put, List.setIfInBounds_toArray, List.set_cons_zero, List.set_cons_succ]
        refine wpAnyH_take (i := 4) (oi := { dst := some 63, op := Go.Op.indexAddr 87 (Go.Operand.tmp 62) (Go.Operand.const (Go.Value.int Go.IntKind.i64 0)), type := 0, pos := "ref.go:50", after := #[{ on := 3, ground := Go.Ground.data }, { on := 8, ground := Go.Ground.gcOnly Go.Departure.lateStores }], guard := none }) (v := .pointer (some (b.add (0 * 4)))) rfl (by kernel_rfl) (by kernel_rfl) (by kernel_rfl) (fun _ _ _ h => h) (Or.inl ⟨by rfl, ?hy12⟩) hHeld ?rest12
        case hy12 => (intro w hSw; (try dsimp only at hSw); go_simp; try rw [if_pos (by omega)]; try rw [Int.toNat_natCast]; (first | done | with_reducible rfl))
        try simp only [Act.put, List.setIfInBounds_toArray, List.set_cons_zero, List.set_cons_succ]
        refine wpAnyH_take (i := 5) (oi := { dst := some 64, op := Go.Op.load 125 (Go.Operand.tmp 63), type := 125, pos := "ref.go:50", after := #[{ on := 4, ground := Go.Ground.data }, { on := 8, ground := Go.Ground.gcOnly Go.Departure.lateStores }], guard := none }) (v := (.agg #[.int .i64 yk, .float .f64 yn, .int .i32 yc, .slice yA ym yd])) rfl (by kernel_rfl) (by kernel_rfl) (by kernel_rfl) (fun _ _ _ h => h) (yields_it (y := ⟨yk, yn, yc, yA, ym, yd⟩) (by rfl) rfl rfl fun w' hx => hx.2) hHeld ?_
        try simp only [Act.put, List.setIfInBounds_toArray, List.set_cons_zero, List.set_cons_succ]
        refine wpAnyH_ready (rs := [6, 7]) (by kernel_rfl) (by simp) ?_
        refine AllReadyH.cons (o := r11ap_12_6) rfl (fun K hK => ?_) (AllReadyH.cons (o := r11ap_12_7) rfl (fun K hK => ?_) (AllReadyH.nil))
        · dsimp only [r11ap_12_6]
          rw [if_pos (by rfl)]
          refine allocI rfl ?_
          intro B15 w15 bB15 cB15 XB15 LB15 RB15
          have z14 := XB15.size
          replace E := E.trans XB15
          replace HI := HI.ext XB15
          replace HO := HO.ext XB15
          clear hHeld
          have hHeld := (HI.is.1)
          refine hK.out _ _ hHeld (fun _ => ?_)
          clear hK K
          try simp only [Act.put, List.setIfInBounds_toArray, List.set_cons_zero, List.set_cons_succ]
          refine wpAnyH_ready (rs := [7]) (by kernel_rfl) (by simp) ?_
          refine AllReadyH.cons (o := r11ap_12_7) rfl (fun K hK => ?_) (AllReadyH.nil)
          dsimp only [r11ap_12_7]
          rw [if_pos (by rfl)]
          refine allocI rfl ?_
          intro B16 w16 bB16 cB16 XB16 LB16 RB16
          have z15 := XB16.size
          replace E := E.trans XB16
          replace HI := HI.ext XB16
          replace HO := HO.ext XB16
          replace LB15 := LB15.ext XB16
          replace RB15 := RB15.ext XB16
          clear hHeld
          have hHeld := (HI.is.1)
          refine hK.out _ _ hHeld (fun _ => ?_)
          clear hK K
          try simp only [Act.put, List.setIfInBounds_toArray, List.set_cons_zero, List.set_cons_succ]
          refine JD12_1 w16 B15 B16 ?_
          exact ⟨by omega, ⟨by omega, by omega⟩, ⟨by omega, by omega⟩, by omega, E, LB15, LB16, RB15, RB16, HI, HO⟩
        · dsimp only [r11ap_12_7]
          rw [if_pos (by rfl)]
          refine allocI rfl ?_
          intro B16 w16 bB16 cB16 XB16 LB16 RB16
          have z16 := XB16.size
          replace E := E.trans XB16
          replace HI := HI.ext XB16
          replace HO := HO.ext XB16
          clear hHeld
          have hHeld := (HI.is.1)
          refine hK.out _ _ hHeld (fun _ => ?_)
          clear hK K
          try simp only [Act.put, List.setIfInBounds_toArray, List.set_cons_zero, List.set_cons_succ]
          refine wpAnyH_ready (rs := [6]) (by kernel_rfl) (by simp) ?_
          refine AllReadyH.cons (o := r11ap_12_6) rfl (fun K hK => ?_) (AllReadyH.nil)
          dsimp only [r11ap_12_6]
          rw [if_pos (by rfl)]
          refine allocI rfl ?_
          intro B15 w15 bB15 cB15 XB15 LB15 RB15
          have z17 := XB15.size
          replace E := E.trans XB15
          replace HI := HI.ext XB15
          replace HO := HO.ext XB15
          replace LB16 := LB16.ext XB15
          replace RB16 := RB16.ext XB15
          clear hHeld
          have hHeld := (HI.is.1)
          refine hK.out _ _ hHeld (fun _ => ?_)
          clear hK K
          try simp only [Act.put, List.setIfInBounds_toArray, List.set_cons_zero, List.set_cons_succ]
          refine JD12_1 w15 B15 B16 ?_
          exact ⟨by omega, ⟨by omega, by omega⟩, ⟨by omega, by omega⟩, by omega, E, LB15, LB16, RB15, RB16, HI, HO⟩
      · intro wD12_1 B15 B16 hJ
        obtain ⟨z18, ⟨bB15, cB15⟩, ⟨bB16, cB16⟩, nB15B16, E, LB15, LB16, RB15, RB16, HI, HO⟩ := hJ
        try dsimp only
        have hHeld := (HI.is.1)
        refine wpAnyH_ready (rs := [8]) (by kernel_rfl) (by simp) ?_
        refine AllReadyH.cons (o := r11ap_12_8) rfl (fun K hK => ?_) (AllReadyH.nil)
        dsimp only [r11ap_12_8]
        rw [if_pos (by rfl)]
        have hRl := (RB15).lt (Nat.zero_lt_succ _)
        refine storeI (by rfl) (by rfl) (v := (.agg #[.int .i64 xk, .float .f64 xn, .int .i32 xc, .slice xA xm xd])) (by rfl) RB15 (it_flat xk xn xc xA xm xd) ?_
        clear LB15
        intro s19 G19 LB15 RQ
        have z20 := G19.size
        replace E := grown_ext E G19 (by omega)
        replace LB16 := LB16.grown G19 (by omega)
        replace RB16 := RB16.grown G19 (by omega)
        replace HI := HI.grown G19 (by first | omega | (dsimp only [New]; omega))
        replace HO := HO.grown G19 (by omega)
        clear RB15
        have RB15 := RQ
        clear RQ hRl G19
        clear hHeld
        have hHeld := (HI.is.1)
        refine hK.out _ _ hHeld (fun _ => ?_)
        clear hK K
        try simp only [Act.put]
        refine wpAnyH_ready (rs := [9]) (by kernel_rfl) (by simp) ?_
        refine AllReadyH.cons (o := r11ap_12_9) rfl (fun K hK => ?_) (AllReadyH.nil)
        dsimp only [r11ap_12_9]
        rw [if_pos (by rfl)]
        have hRl := (RB16).lt (Nat.zero_lt_succ _)
        refine storeI (by rfl) (by rfl) (v := (.agg #[.int .i64 yk, .float .f64 yn, .int .i32 yc, .slice yA ym yd])) (by rfl) RB16 (it_flat yk yn yc yA ym yd) ?_
        clear LB16
        intro s21 G21 LB16 RQ
        have z22 := G21.size
        replace E := grown_ext E G21 (by omega)
        replace LB15 := LB15.grown G21 (by omega)
        replace RB15 := RB15.grown G21 (by omega)
        replace HI := HI.grown G21 (by first | omega | (dsimp only [New]; omega))
        replace HO := HO.grown G21 (by omega)
        clear RB16
        have RB16 := RQ
        clear RQ hRl G21
        clear hHeld
        have hHeld := (HI.is.1)
        refine hK.out _ _ hHeld (fun _ => ?_)
        clear hK K
        try simp only [Act.put]
        refine wpAnyH_done (by kernel_rfl) ?_ _
        refine JD12_0 s21 B15 B16 ?_
        exact ⟨by omega, ⟨by omega, by omega⟩, ⟨by omega, by omega⟩, by omega, E, LB15, LB16, RB15, RB16, HI, HO, lay_cell LB15 (j := 1) rfl, lay_cell LB15 (j := 2) rfl, lay_cell LB16 (j := 1) rfl, lay_cell LB16 (j := 2) rfl⟩
      · intro wD12_0 B15 B16 hJ
        obtain ⟨z23, ⟨bB15, cB15⟩, ⟨bB16, cB16⟩, nB15B16, E, LB15, LB16, RB15, RB16, HI, HO, cB15_1, cB15_2, cB16_1, cB16_2⟩ := hJ
        try dsimp only
        have MARK : True := trivial
        have hm4 : (1 < m ∧ 1 < n) ∨ (1 < m ∧ ¬ 1 < n) ∨ (¬ 1 < m ∧ 1 < n) ∨ (¬ 1 < m ∧ ¬ 1 < n) := by omega
        rcases hm4 with ⟨hm1, hn1⟩ | ⟨hm1, hn1⟩ | ⟨hm1, hn1⟩ | ⟨hm1, hn1⟩
        · have e67 : decide (1 < m) = true := decide_eq_true hm1
          have e74 : decide (1 < n) = true := decide_eq_true hn1
          rw [EU.out hm1] at HI
          rw [EV.out hn1] at HI
          have TG24 : True := trivial
          have TG26 : True := trivial
          go_wp2_with (first | (refine loads_it rfl rfl rfl (HI.is.2.1) ?_) | (clear TG24; have hRl := (RB15).lt (Nat.zero_lt_succ _); refine storesI (B := B15) rfl rfl rfl (v := (.agg #[.int .i64 uk, .float .f64 un, .int .i32 uc, .slice uA um ud])) rfl RB15 (it_flat uk un uc uA um ud) ?_; clear LB15; clear cB15_1; clear cB15_2; intro s24 G24 LB15 RQ; have z25 := G24.size; replace E := grown_ext E G24 (by omega); replace LB16 := LB16.grown G24 (by omega); replace RB16 := RB16.grown G24 (by omega); replace HI := HI.grown G24 (by first | omega | (dsimp only [New]; omega)); replace HO := HO.grown G24 (by omega); replace cB16_1 := cell_grown (G24) cB16_1 (by show B16 ≠ _; omega); replace cB16_2 := cell_grown (G24) cB16_2 (by show B16 ≠ _; omega); clear RB15; have RB15 := RQ; clear RQ hRl; have cB15_1 := lay_cell LB15 (j := 1) rfl; have cB15_2 := lay_cell LB15 (j := 2) rfl) | (refine loads_it rfl rfl rfl (HI.is.2.2) ?_) | (clear TG26; have hRl := (RB16).lt (Nat.zero_lt_succ _); refine storesI (B := B16) rfl rfl rfl (v := (.agg #[.int .i64 vk, .float .f64 vn, .int .i32 vc, .slice vA vm vd])) rfl RB16 (it_flat vk vn vc vA vm vd) ?_; clear LB16; clear cB16_1; clear cB16_2; intro s26 G26 LB16 RQ; have z27 := G26.size; replace E := grown_ext E G26 (by omega); replace LB15 := LB15.grown G26 (by omega); replace RB15 := RB15.grown G26 (by omega); replace HI := HI.grown G26 (by first | omega | (dsimp only [New]; omega)); replace HO := HO.grown G26 (by omega); replace cB15_1 := cell_grown (G26) cB15_1 (by show B15 ≠ _; omega); replace cB15_2 := cell_grown (G26) cB15_2 (by show B15 ≠ _; omega); clear RB16; have RB16 := RQ; clear RQ hRl; have cB16_1 := lay_cell LB16 (j := 1) rfl; have cB16_2 := lay_cell LB16 (j := 2) rfl))
          refine (hr _).mono ?_
          rintro e w85 ⟨rfl, x⟩
          have z28 := x.size
          replace E := E.trans x
          replace LB15 := LB15.ext x
          replace LB16 := LB16.ext x
          replace RB15 := RB15.ext x
          replace RB16 := RB16.ext x
          replace HI := HI.ext x
          replace HO := HO.ext x
          replace cB15_1 := cell_ext (x) cB15_1
          replace cB15_2 := cell_ext (x) cB15_2
          replace cB16_1 := cell_ext (x) cB16_1
          replace cB16_2 := cell_ext (x) cB16_2
          clear x
          have TA110 : True := trivial
          go_wp2_with (clear TA110; refine app_bo rfl rfl (base := BS) (k := k) rfl (HO.ext ((Ext.refl _).alloc _)) rfl (Sl.built _ #[_] _) (by intro u hu; simp at hu; subst hu; rfl) (by omega) (by simp; omega) ?_; clear HO LB15 RB15 LB16 RB16 cB15_1 cB15_2 cB16_1 cB16_2 HI; intro v110 w110 HO H110; obtain ⟨A110, c110, e110, -, -⟩ := own_form HO.1; subst e110; have z29 : w85.heap.size ≤ w110.heap.size := Nat.le_trans ((Ext.refl w85).alloc _).size H110.size; replace E := (E.alloc _).trans' (H110.mono (by omega)); clear H110)
          exact ⟨⟨k + 1, _, _, _, by omega, rfl, by go_num, E, by omega, by rw [← HPS.out]; exact HO, by omega⟩, by simp [intOf]; omega⟩
        · have e67 : decide (1 < m) = true := decide_eq_true hm1
          have e74 : decide (1 < n) = false := decide_eq_false hn1
          rw [EU.out hm1] at HI
          obtain ⟨rfl, rfl⟩ := HYV.out hn1
          have TG24 : True := trivial
          go_wp2_with (first | (refine loads_it rfl rfl rfl (HI.is.2.1) ?_) | (clear TG24; have hRl := (RB15).lt (Nat.zero_lt_succ _); refine storesI (B := B15) rfl rfl rfl (v := (.agg #[.int .i64 uk, .float .f64 un, .int .i32 uc, .slice uA um ud])) rfl RB15 (it_flat uk un uc uA um ud) ?_; clear LB15; clear cB15_1; clear cB15_2; intro s24 G24 LB15 RQ; have z25 := G24.size; replace E := grown_ext E G24 (by omega); replace LB16 := LB16.grown G24 (by omega); replace RB16 := RB16.grown G24 (by omega); replace HI := HI.grown G24 (by first | omega | (dsimp only [New]; omega)); replace HO := HO.grown G24 (by omega); replace cB16_1 := cell_grown (G24) cB16_1 (by show B16 ≠ _; omega); replace cB16_2 := cell_grown (G24) cB16_2 (by show B16 ≠ _; omega); clear RB15; have RB15 := RQ; clear RQ hRl; have cB15_1 := lay_cell LB15 (j := 1) rfl; have cB15_2 := lay_cell LB15 (j := 2) rfl))
          refine (hr _).mono ?_
          rintro e w85 ⟨rfl, x⟩
          have z26 := x.size
          replace E := E.trans x
          replace LB15 := LB15.ext x
          replace LB16 := LB16.ext x
          replace RB15 := RB15.ext x
          replace RB16 := RB16.ext x
          replace HI := HI.ext x
          replace HO := HO.ext x
          replace cB16_1 := cell_ext (x) cB16_1
          replace cB16_2 := cell_ext (x) cB16_2
          replace cB15_1 := cell_ext (x) cB15_1
          replace cB15_2 := cell_ext (x) cB15_2
          clear x
          have TA110 : True := trivial
          go_wp2_with (clear TA110; refine app_bo rfl rfl (base := BS) (k := k) rfl (HO.ext ((Ext.refl _).alloc _)) rfl (Sl.built _ #[_] _) (by intro u hu; simp at hu; subst hu; rfl) (by omega) (by simp; omega) ?_; clear HO LB15 RB15 LB16 RB16 cB15_1 cB15_2 cB16_1 cB16_2 HI; intro v110 w110 HO H110; obtain ⟨A110, c110, e110, -, -⟩ := own_form HO.1; subst e110; have z27 : w85.heap.size ≤ w110.heap.size := Nat.le_trans ((Ext.refl w85).alloc _).size H110.size; replace E := (E.alloc _).trans' (H110.mono (by omega)); clear H110)
          exact ⟨⟨k + 1, _, _, _, by omega, rfl, by go_num, E, by omega, by rw [← HPS.out]; exact HO, by omega⟩, by simp [intOf]; omega⟩
        · have e67 : decide (1 < m) = false := decide_eq_false hm1
          have e74 : decide (1 < n) = true := decide_eq_true hn1
          obtain ⟨rfl, rfl⟩ := HXU.out hm1
          rw [EV.out hn1] at HI
          have TG24 : True := trivial
          go_wp2_with (first | (refine loads_it rfl rfl rfl (HI.is.2.2) ?_) | (clear TG24; have hRl := (RB16).lt (Nat.zero_lt_succ _); refine storesI (B := B16) rfl rfl rfl (v := (.agg #[.int .i64 vk, .float .f64 vn, .int .i32 vc, .slice vA vm vd])) rfl RB16 (it_flat vk vn vc vA vm vd) ?_; clear LB16; clear cB16_1; clear cB16_2; intro s24 G24 LB16 RQ; have z25 := G24.size; replace E := grown_ext E G24 (by omega); replace LB15 := LB15.grown G24 (by omega); replace RB15 := RB15.grown G24 (by omega); replace HI := HI.grown G24 (by first | omega | (dsimp only [New]; omega)); replace HO := HO.grown G24 (by omega); replace cB15_1 := cell_grown (G24) cB15_1 (by show B15 ≠ _; omega); replace cB15_2 := cell_grown (G24) cB15_2 (by show B15 ≠ _; omega); clear RB16; have RB16 := RQ; clear RQ hRl; have cB16_1 := lay_cell LB16 (j := 1) rfl; have cB16_2 := lay_cell LB16 (j := 2) rfl))
          refine (hr _).mono ?_
          rintro e w85 ⟨rfl, x⟩
          have z26 := x.size
          replace E := E.trans x
          replace LB15 := LB15.ext x
          replace LB16 := LB16.ext x
          replace RB15 := RB15.ext x
          replace RB16 := RB16.ext x
          replace HI := HI.ext x
          replace HO := HO.ext x
          replace cB15_1 := cell_ext (x) cB15_1
          replace cB15_2 := cell_ext (x) cB15_2
          replace cB16_1 := cell_ext (x) cB16_1
          replace cB16_2 := cell_ext (x) cB16_2
          clear x
          have TA110 : True := trivial
          go_wp2_with (clear TA110; refine app_bo rfl rfl (base := BS) (k := k) rfl (HO.ext ((Ext.refl _).alloc _)) rfl (Sl.built _ #[_] _) (by intro u hu; simp at hu; subst hu; rfl) (by omega) (by simp; omega) ?_; clear HO LB15 RB15 LB16 RB16 cB15_1 cB15_2 cB16_1 cB16_2 HI; intro v110 w110 HO H110; obtain ⟨A110, c110, e110, -, -⟩ := own_form HO.1; subst e110; have z27 : w85.heap.size ≤ w110.heap.size := Nat.le_trans ((Ext.refl w85).alloc _).size H110.size; replace E := (E.alloc _).trans' (H110.mono (by omega)); clear H110)
          exact ⟨⟨k + 1, _, _, _, by omega, rfl, by go_num, E, by omega, by rw [← HPS.out]; exact HO, by omega⟩, by simp [intOf]; omega⟩
        · have e67 : decide (1 < m) = false := decide_eq_false hm1
          have e74 : decide (1 < n) = false := decide_eq_false hn1
          obtain ⟨rfl, rfl⟩ := HXU.out hm1
          obtain ⟨rfl, rfl⟩ := HYV.out hn1
          go_wp2_with fail
          refine (hr _).mono ?_
          rintro e w85 ⟨rfl, x⟩
          have z24 := x.size
          replace E := E.trans x
          replace LB15 := LB15.ext x
          replace LB16 := LB16.ext x
          replace RB15 := RB15.ext x
          replace RB16 := RB16.ext x
          replace HI := HI.ext x
          replace HO := HO.ext x
          replace cB15_1 := cell_ext (x) cB15_1
          replace cB15_2 := cell_ext (x) cB15_2
          replace cB16_1 := cell_ext (x) cB16_1
          replace cB16_2 := cell_ext (x) cB16_2
          clear x
          have TA110 : True := trivial
          go_wp2_with (clear TA110; refine app_bo rfl rfl (base := BS) (k := k) rfl (HO.ext ((Ext.refl _).alloc _)) rfl (Sl.built _ #[_] _) (by intro u hu; simp at hu; subst hu; rfl) (by omega) (by simp; omega) ?_; clear HO LB15 RB15 LB16 RB16 cB15_1 cB15_2 cB16_1 cB16_2 HI; intro v110 w110 HO H110; obtain ⟨A110, c110, e110, -, -⟩ := own_form HO.1; subst e110; have z25 : w85.heap.size ≤ w110.heap.size := Nat.le_trans ((Ext.refl w85).alloc _).size H110.size; replace E := (E.alloc _).trans' (H110.mono (by omega)); clear H110)
          exact ⟨⟨k + 1, _, _, _, by omega, rfl, by go_num, E, by omega, by rw [← HPS.out]; exact HO, by omega⟩, by simp [intOf]; omega⟩
    · have hkm : k = N := by omega
      rw [hkm] at HO ⊢
      go_wp2_with fail
      go_ret2
      exact ⟨oA, oc, rfl, HO.sls (by omega), E⟩
end
end Go.Proofs.Ytdfhefnjoekgbaa
