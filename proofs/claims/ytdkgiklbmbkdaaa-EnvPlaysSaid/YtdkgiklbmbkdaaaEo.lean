/- rebuslaw33.agrees: true in the frames' state. -/
import Derived.Test.YtdkgiklbmbkdaaaEn
import Derived.Lib.Builder
namespace Go.Proofs.Ytdkgiklbmbkdaaa
open Go.ChangeShapes Go.WideShapes Go.RowKit Go.Maps Bv Fl
set_option maxHeartbeats 1000000
set_option maxRecDepth 100000
theorem i32_small {x : Int} (h0 : 0 ≤ x) (h1 : x < 256) : IntKind.i32.wrap x = x := by
  simp only [IntKind.wrap, IntKind.bits, IntKind.signed]
  simp
  repeat (first | split | omega)
theorem neq_env (w : World) (a : Addr) : (binOp .neq 24 (.pointer (some a)) (.pointer (some a))).run Try.prog w = .ok (.bool false) w := by
  have hz : (Try.prog.info? 62).map (·.size) = some 4 := by kernel_rfl
  cases h : Try.prog.info? 62 with
  | none => rw [h] at hz; cases hz
  | some j => exact Go.Lib.run_neq_ptr_same w a Try.underlying24 h
theorem joinK8 {A0 A1 A2 A3 A4 A5 A6 A7 : Type} {F KA : World → A0 → A1 → A2 → A3 → A4 → A5 → A6 → A7 → Prop} {G : Prop} (h : (∀ w a0 a1 a2 a3 a4 a5 a6 a7, F w a0 a1 a2 a3 a4 a5 a6 a7 → KA w a0 a1 a2 a3 a4 a5 a6 a7) → G) (t : ∀ w a0 a1 a2 a3 a4 a5 a6 a7, F w a0 a1 a2 a3 a4 a5 a6 a7 → KA w a0 a1 a2 a3 a4 a5 a6 a7) : G := h t
abbrev agr_5_15 : Go.Oper := { dst := some 68, op := Go.Op.call { callee := Go.Callee.value (Go.Operand.func 22), args := #[Go.Operand.tmp 67, Go.Operand.const (Go.Value.int Go.IntKind.i64 0)], argTypes := #[47, 3] }, type := 75, pos := "law.go:81", after := #[{ on := 14, ground := Go.Ground.data }, { on := 12, ground := Go.Ground.chain }, { on := 12, ground := Go.Ground.guard }], guard := some (12, true) }
abbrev agr_7_10 : Go.Oper := { dst := some 104, op := Go.Op.call { callee := Go.Callee.value (Go.Operand.func 24), args := #[Go.Operand.tmp 103], argTypes := #[31] }, type := 23, pos := "law.go:84", after := #[{ on := 9, ground := Go.Ground.data }, { on := 4, ground := Go.Ground.chain }], guard := none }
abbrev agr_7_11 : Go.Oper := { dst := some 105, op := Go.Op.call { callee := Go.Callee.value (Go.Operand.func 23), args := #[Go.Operand.tmp 98, Go.Operand.tmp 104], argTypes := #[23, 23] }, type := 4, pos := "law.go:84", after := #[{ on := 4, ground := Go.Ground.data }, { on := 10, ground := Go.Ground.data }, { on := 10, ground := Go.Ground.chain }], guard := none }
abbrev agr_7_17 : Go.Oper := { dst := some 111, op := Go.Op.call { callee := Go.Callee.value (Go.Operand.func 16), args := #[Go.Operand.tmp 110], argTypes := #[24] }, type := 23, pos := "law.go:84", after := #[{ on := 16, ground := Go.Ground.data }, { on := 12, ground := Go.Ground.chain }, { on := 12, ground := Go.Ground.guard }], guard := some (12, true) }
abbrev agr_7_23 : Go.Oper := { dst := some 117, op := Go.Op.call { callee := Go.Callee.value (Go.Operand.func 24), args := #[Go.Operand.tmp 116], argTypes := #[31] }, type := 23, pos := "law.go:84", after := #[{ on := 22, ground := Go.Ground.data }, { on := 17, ground := Go.Ground.chain }, { on := 12, ground := Go.Ground.guard }], guard := some (12, true) }
abbrev agr_7_24 : Go.Oper := { dst := some 118, op := Go.Op.call { callee := Go.Callee.value (Go.Operand.func 23), args := #[Go.Operand.tmp 111, Go.Operand.tmp 117], argTypes := #[23, 23] }, type := 4, pos := "law.go:84", after := #[{ on := 17, ground := Go.Ground.data }, { on := 23, ground := Go.Ground.data }, { on := 23, ground := Go.Ground.chain }, { on := 12, ground := Go.Ground.guard }], guard := some (12, true) }
abbrev agr_7_4 : Go.Oper := { dst := some 98, op := Go.Op.call { callee := Go.Callee.value (Go.Operand.func 15), args := #[Go.Operand.tmp 97], argTypes := #[24] }, type := 23, pos := "law.go:84", after := #[{ on := 3, ground := Go.Ground.data }], guard := none }
theorem agrees_any (w : World) (base : Nat) (B bm bf : Nat → Nat) (al ar : Addr) (V F : Nat → List Pr) (N : Nat) (DV DF : Nat → DataW Value) (c3 k : Nat) (hk : k < 3) (s : ByteArray) (hs : s.size ≤ maxLen) (h : ES w base B bm bf al ar V F N DV DF) : Calls Try.prog 10 #[.slice (some al) 3 c3, .slice (some ar) 3 3, .int .i64 (k : Int), .string s] w fun e w' => e = .returned (.bool true) ∧ Ext w w' := by
  have cRv : ∀ w', Ext w w' → Calls Try.prog 21 #[.slice (some ar) (k + 1) 3, .string s, .bool false] w' fun e w2 => ∃ m t, e = .returned (.tuple #[.int .i64 m, .int .i64 t]) ∧ RGet V s k m t ∧ Ext w' w2 := fun w' hx => rget_v ar V F base k 3 hk s w' (h.r.ext hx) (fun i hi => by have := h.len i hi; omega)
  have cRf : ∀ w', Ext w w' → Calls Try.prog 21 #[.slice (some ar) (k + 1) 3, .string s, .bool true] w' fun e w2 => ∃ m t, e = .returned (.tuple #[.int .i64 m, .int .i64 t]) ∧ RGet F s k m t ∧ Ext w' w2 := fun w' hx => rget_f ar V F base k 3 hk s w' (h.r.ext hx) (fun i hi => by have := h.len i hi; omega)
  have cG : ∀ w', Ext w w' → Calls Try.prog 13 #[.pointer (some ⟨B k, 0, none⟩), .string s] w' fun e w2 => ∃ v ok, e = .returned (.tuple #[v, ok]) ∧ GetR DV zeroArr s k v ok ∧ Flat 9 v ∧ Ext w' w2 := fun w' hx => get_chain w' s hs B bm DV k hk h.ord (fun i hi => cell_ext hx (h.c0 i hi)) (fun i hi => cell_ext hx (h.c1 i hi)) (fun i hi => let ⟨⟨n, _, ho⟩, _⟩ := (h.vs i hi).ext hx; ⟨n, ho⟩) (fun i hi => (h.vs i hi).flat s)
  have cF : ∀ w', Ext w w' → Calls Try.prog 14 #[.pointer (some ⟨B k, 0, none⟩), .string s] w' fun e w2 => ∃ v ok, e = .returned (.tuple #[v, ok]) ∧ GetR DF zeroClo s k v ok ∧ Flat 8 v ∧ Ext w' w2 := fun w' hx => fun_chain w' s hs B bf DF k hk h.ord (fun i hi => cell_ext hx (h.c0 i hi)) (fun i hi => cell_ext hx (h.c2 i hi)) (fun i hi => let ⟨⟨n, _, ho⟩, _⟩ := (h.fs i hi).ext hx; ⟨n, ho⟩) (fun i hi => (h.fs i hi).flat s)
  have HP1 := fun m t v ok w' (hx : Ext w w') (h1 : RGet V s k m t) (h2 : GetR DV zeroArr s k v ok) => agr_v hk (fun i hi => (h.vs i hi).ext hx) h1 h2
  have HP2 := fun m t v ok (h1 : RGet F s k m t) (h2 : GetR DF zeroClo s k v ok) => agr_f hk h.fs h1 h2
  obtain ⟨A, n, c, A2, n2, c2, R0, R1, hn, hn2, SV, SF⟩ := h.r k hk
  obtain ⟨FV, hFV⟩ : ∃ FV : Nat → Value, (fun j => .string ((V k).getD j default).nm) = FV := ⟨_, rfl⟩
  obtain ⟨GV, hGV⟩ : ∃ GV : Nat → Value, (fun j => .string ((F k).getD j default).nm) = GV := ⟨_, rfl⟩
  have hlen := h.len k hk
  rw [← hn.out, ← hn2.out] at hlen
  have cN : ∀ w', Ext w w' → Calls Try.prog 15 #[.pointer (some ⟨B k, 0, none⟩)] w' fun e w2 => ∃ A c, e = .returned (.slice A n c) ∧ SlS w2 1 A n (pre FV n) (New w'.heap.size) ∧ Ext w' w2 := fun w' hx => by
    obtain ⟨⟨n0, _, ho⟩, hr, _⟩ := (h.vs k hk).ext hx
    have q := names_ok w' (B k) (bm k) n0 (DV k) (V k) (cell_ext hx (h.c1 k hk)) ho hr (by have := hn.out; omega)
    rw [← pre_names (V k) hn.out, ← hn.out, hFV] at q
    exact q
  have cFs : ∀ w', Ext w w' → Calls Try.prog 16 #[.pointer (some ⟨B k, 0, none⟩)] w' fun e w2 => ∃ A c, e = .returned (.slice A n2 c) ∧ SlS w2 1 A n2 (pre GV n2) (New w'.heap.size) ∧ Ext w' w2 := fun w' hx => by
    obtain ⟨⟨n0, _, ho⟩, hr, _⟩ := (h.fs k hk).ext hx
    have q := funs_ok w' (B k) (bf k) n0 (DF k) (F k) (cell_ext hx (h.c2 k hk)) ho hr (by have := hn2.out; omega)
    rw [← pre_names (F k) hn2.out, ← hn2.out, hGV] at q
    exact q
  have cM : ∀ w', Ext w w' → Calls Try.prog 24 #[.slice A n c] w' fun e w2 => ∃ B b, e = .returned (.slice B n b) ∧ SlS w2 1 B n (pre FV n) (New w'.heap.size) ∧ Ext w' w2 := fun w' hx => by
    have q := names_any A n c (V k) w' hn (by omega) (SV.ext hx).is
    rw [hFV] at q
    exact q
  have cM2 : ∀ w', Ext w w' → Calls Try.prog 24 #[.slice A2 n2 c2] w' fun e w2 => ∃ B b, e = .returned (.slice B n2 b) ∧ SlS w2 1 B n2 (pre GV n2) (New w'.heap.size) ∧ Ext w' w2 := fun w' hx => by
    have q := names_any A2 n2 c2 (F k) w' hn2 (by omega) (SF.ext hx).is
    rw [hGV] at q
    exact q
  have cT : ∀ (X : Option Addr) (x : Nat) (Y : Option Addr) (y : Nat) (w' : World), Sl w' 1 X n (pre FV n) → Sl w' 1 Y n (pre FV n) → Calls Try.prog 23 #[.slice X n x, .slice Y n y] w' fun e w2 => e = .returned (.bool true) ∧ Ext w' w2 := fun X x Y y w' h1 h2 => by
    subst hFV
    exact texts_eq X n x Y y (fun j => ((V k).getD j default).nm) w' (by omega) h1 h2
  have cT2 : ∀ (X : Option Addr) (x : Nat) (Y : Option Addr) (y : Nat) (w' : World), Sl w' 1 X n2 (pre GV n2) → Sl w' 1 Y n2 (pre GV n2) → Calls Try.prog 23 #[.slice X n2 x, .slice Y n2 y] w' fun e w2 => e = .returned (.bool true) ∧ Ext w' w2 := fun X x Y y w' h1 h2 => by
    subst hGV
    exact texts_eq X n2 x Y y (fun j => ((F k).getD j default).nm) w' (by omega) h1 h2
  have L0 := h.l k hk
  have Li : ∀ i, i ≤ k → w.cell? (al.add i) = some (.pointer (some ⟨B i, 0, none⟩)) := fun i hi => h.l i (by omega)
  have hL0 : (al.add k).block < w.heap.size := World.block_lt_of_cell? _ _ L0
  have hR0 : (ar.add (k * 2)).block < w.heap.size := World.block_lt_of_cell? _ _ R0
  clear h hn hn2 SV SF hFV hGV
  generalize B k = b at *
  have E := Ext.refl w
  go_enter Try.func10, Try.ntmps10
  go_wp2_with fail
  refine (cRv _ E).mono ?_
  rintro e w23 ⟨m, t, rfl, hm, x⟩
  have z1 := x.size
  replace E := E.trans x
  replace L0 := cell_ext (x) L0
  replace R0 := cell_ext (x) R0
  replace R1 := cell_ext (x) R1
  clear x
  go_wp2_with fail
  refine (cRf _ E).mono ?_
  rintro e w32 ⟨m2, t2, rfl, hm2, x⟩
  have z2 := x.size
  replace E := E.trans x
  replace L0 := cell_ext (x) L0
  replace R0 := cell_ext (x) R0
  replace R1 := cell_ext (x) R1
  clear x
  go_wp2_with fail
  refine (cG _ E).mono ?_
  rintro e w41 ⟨v, ok, rfl, hg, vf, x⟩
  have hc := HP1 _ _ _ _ _ (E.trans x) hm hg
  clear hm hg HP1
  have z3 := x.size
  replace E := E.trans x
  replace L0 := cell_ext (x) L0
  replace R0 := cell_ext (x) R0
  replace R1 := cell_ext (x) R1
  clear x
  have MARK1 : True := trivial
  rcases hc with ⟨rfl, rfl⟩ | ⟨z, hz1, hz2, hmz, rfl, AVv⟩
  · have TB13 : True := trivial
    have TG5 : True := trivial
    go_wp2_with (first | (clear TB13; refine allocsA rfl rfl ?_; intro B13 w13 bB13 cB13 XB13 LB13 RB13; have z4 := XB13.size; replace E := E.trans XB13; replace L0 := cell_ext (XB13) L0; replace R0 := cell_ext (XB13) R0; replace R1 := cell_ext (XB13) R1) | (clear TG5; have hRl := (RB13).lt (Nat.zero_lt_succ _); refine storesA (B := B13) rfl rfl rfl (v := v) rfl RB13 vf ?_; clear LB13; intro s5 G5 LB13 RQ; have z6 := G5.size; replace E := grown_ext E G5 (by omega); replace L0 := cell_grown (G5) L0 (by show (al.add k).block ≠ _; omega); replace R0 := cell_grown (G5) R0 (by show (ar.add (k * 2)).block ≠ _; omega); replace R1 := cell_grown (G5) R1 (by show (ar.add (k * 2)).block ≠ _; omega); clear RB13; have RB13 := RQ; clear RQ hRl; clear RB13))
    refine (cF _ E).mono ?_
    rintro e w50 ⟨u, is, rfl, hg2, uf, x⟩
    have hc2 := HP2 _ _ _ _ hm2 hg2
    clear hm2 hg2 HP2
    have z7 := x.size
    replace E := E.trans x
    replace L0 := cell_ext (x) L0
    replace R0 := cell_ext (x) R0
    replace R1 := cell_ext (x) R1
    replace LB13 := LB13.ext x
    clear x
    have MARK2 : True := trivial
    rcases hc2 with ⟨rfl, rfl⟩ | ⟨z2, i, y1, y2, hmz2, rfl, hi, htz2, rfl⟩
    · have TB15 : True := trivial
      have TG9 : True := trivial
      go_wp2_with (first | (clear TB15; refine allocsC rfl rfl ?_; intro B15 w15 bB15 cB15 XB15 LB15 RB15; have z8 := XB15.size; replace E := E.trans XB15; replace L0 := cell_ext (XB15) L0; replace R0 := cell_ext (XB15) R0; replace R1 := cell_ext (XB15) R1; replace LB13 := LB13.ext XB15) | (clear TG9; have hRl := (RB15).lt (Nat.zero_lt_succ _); refine storesC (B := B15) rfl rfl rfl (v := u) rfl RB15 uf ?_; clear LB15; intro s9 G9 LB15 RQ; have z10 := G9.size; replace E := grown_ext E G9 (by omega); replace L0 := cell_grown (G9) L0 (by show (al.add k).block ≠ _; omega); replace R0 := cell_grown (G9) R0 (by show (ar.add (k * 2)).block ≠ _; omega); replace R1 := cell_grown (G9) R1 (by show (ar.add (k * 2)).block ≠ _; omega); replace LB13 := LB13.grown G9 (by omega); clear RB15; have RB15 := RQ; clear RQ hRl; clear RB15))
      try simp only [Act.put, List.setIfInBounds_toArray, List.set_cons_zero, List.set_cons_succ]
      have hq11 : s9.heap.size ≤ s9.drew.heap.size := Nat.le_refl _
      have z12 := (Ext.refl s9).drew.size
      replace E := E.trans (Ext.refl s9).drew
      replace L0 := cell_ext ((Ext.refl s9).drew) L0
      replace R0 := cell_ext ((Ext.refl s9).drew) R0
      replace R1 := cell_ext ((Ext.refl s9).drew) R1
      replace LB13 := LB13.ext (Ext.refl s9).drew
      replace LB15 := LB15.ext (Ext.refl s9).drew
      refine wp_region_held_drew (S := (fun _ => True)) (by kernel_rfl) trivial (fun hHeld => ?_)
      refine wpAnyH_take (i := 0) (oi := { dst := some 53, op := Go.Op.move (Go.Operand.tmp 14), type := 4, pos := "law.go:81", after := #[], guard := none }) (v := ?v13f0f0) rfl (by kernel_rfl) (by kernel_rfl) (by kernel_rfl) (fun _ _ _ h => h) (Or.inl ⟨by rfl, ?hy13f0f0⟩) hHeld ?rest13f0f0
      case hy13f0f0 => (intro w hSw; (try dsimp only at hSw); go_simp; (first | done | with_reducible rfl))
      try simp only [Act.put, List.setIfInBounds_toArray, List.set_cons_zero, List.set_cons_succ]
      refine wpAnyH_take (i := 1) (oi := { dst := some 54, op := Go.Op.move (Go.Operand.tmp 9), type := 3, pos := "law.go:81", after := #[], guard := none }) (v := ?v14f0f0) rfl (by kernel_rfl) (by kernel_rfl) (by kernel_rfl) (fun _ _ _ h => h) (Or.inl ⟨by rfl, ?hy14f0f0⟩) hHeld ?rest14f0f0
      case hy14f0f0 => (intro w hSw; (try dsimp only at hSw); go_simp; (first | done | with_reducible rfl))
      try simp only [Act.put, List.setIfInBounds_toArray, List.set_cons_zero, List.set_cons_succ]
      refine wpAnyH_take (i := 2) (oi := { dst := some 55, op := Go.Op.binOp Go.BinOp.geq 3 (Go.Operand.tmp 54) (Go.Operand.const (Go.Value.int Go.IntKind.i64 0)) 3, type := 4, pos := "law.go:81", after := #[{ on := 1, ground := Go.Ground.data }], guard := none }) (v := ?v15f0f0) rfl (by kernel_rfl) (by kernel_rfl) (by kernel_rfl) (fun _ _ _ h => h) (Or.inl ⟨by rfl, ?hy15f0f0⟩) hHeld ?rest15f0f0
      case hy15f0f0 => (intro w hSw; (try dsimp only at hSw); go_simp; (first | done | with_reducible rfl))
      try simp only [Act.put, List.setIfInBounds_toArray, List.set_cons_zero, List.set_cons_succ]
      refine wpAnyH_take (i := 3) (oi := { dst := some 56, op := Go.Op.binOp Go.BinOp.neq 4 (Go.Operand.tmp 53) (Go.Operand.tmp 55) 4, type := 4, pos := "law.go:81", after := #[{ on := 0, ground := Go.Ground.data }, { on := 2, ground := Go.Ground.data }], guard := none }) (v := ?v16f0f0) rfl (by kernel_rfl) (by kernel_rfl) (by kernel_rfl) (fun _ _ _ h => h) (Or.inl ⟨by rfl, ?hy16f0f0⟩) hHeld ?rest16f0f0
      case hy16f0f0 => (intro w hSw; (try dsimp only at hSw); go_simp; (first | done | with_reducible rfl))
      try simp only [Act.put, List.setIfInBounds_toArray, List.set_cons_zero, List.set_cons_succ]
      refine wpAnyH_take (i := 4) (oi := { dst := some 57, op := Go.Op.move (Go.Operand.tmp 56), type := 4, pos := "law.go:81", after := #[{ on := 3, ground := Go.Ground.data }], guard := none }) (v := ?v17f0f0) rfl (by kernel_rfl) (by kernel_rfl) (by kernel_rfl) (fun _ _ _ h => h) (Or.inl ⟨by rfl, ?hy17f0f0⟩) hHeld ?rest17f0f0
      case hy17f0f0 => (intro w hSw; (try dsimp only at hSw); go_simp; (first | done | with_reducible rfl))
      try simp only [Act.put, List.setIfInBounds_toArray, List.set_cons_zero, List.set_cons_succ]
      refine wpAnyH_take (i := 5) (oi := { dst := some 58, op := Go.Op.move (Go.Operand.tmp 16), type := 4, pos := "law.go:81", after := #[{ on := 4, ground := Go.Ground.guard }], guard := some (4, false) }) (v := ?v18f0f0) rfl (by kernel_rfl) (by kernel_rfl) (by kernel_rfl) (fun _ _ _ h => h) (Or.inl ⟨by rfl, ?hy18f0f0⟩) hHeld ?rest18f0f0
      case hy18f0f0 => (intro w hSw; (try dsimp only at hSw); go_simp; (first | done | with_reducible rfl))
      try simp only [Act.put, List.setIfInBounds_toArray, List.set_cons_zero, List.set_cons_succ]
      refine wpAnyH_take (i := 6) (oi := { dst := some 59, op := Go.Op.move (Go.Operand.tmp 11), type := 3, pos := "law.go:81", after := #[{ on := 4, ground := Go.Ground.guard }], guard := some (4, false) }) (v := ?v19f0f0) rfl (by kernel_rfl) (by kernel_rfl) (by kernel_rfl) (fun _ _ _ h => h) (Or.inl ⟨by rfl, ?hy19f0f0⟩) hHeld ?rest19f0f0
      case hy19f0f0 => (intro w hSw; (try dsimp only at hSw); go_simp; (first | done | with_reducible rfl))
      try simp only [Act.put, List.setIfInBounds_toArray, List.set_cons_zero, List.set_cons_succ]
      refine wpAnyH_take (i := 7) (oi := { dst := some 60, op := Go.Op.binOp Go.BinOp.geq 3 (Go.Operand.tmp 59) (Go.Operand.const (Go.Value.int Go.IntKind.i64 0)) 3, type := 4, pos := "law.go:81", after := #[{ on := 6, ground := Go.Ground.data }, { on := 4, ground := Go.Ground.guard }], guard := some (4, false) }) (v := ?v20f0f0) rfl (by kernel_rfl) (by kernel_rfl) (by kernel_rfl) (fun _ _ _ h => h) (Or.inl ⟨by rfl, ?hy20f0f0⟩) hHeld ?rest20f0f0
      case hy20f0f0 => (intro w hSw; (try dsimp only at hSw); go_simp; (first | done | with_reducible rfl))
      try simp only [Act.put, List.setIfInBounds_toArray, List.set_cons_zero, List.set_cons_succ]
      refine wpAnyH_take (i := 8) (oi := { dst := some 61, op := Go.Op.binOp Go.BinOp.neq 4 (Go.Operand.tmp 58) (Go.Operand.tmp 60) 4, type := 4, pos := "law.go:81", after := #[{ on := 5, ground := Go.Ground.data }, { on := 7, ground := Go.Ground.data }, { on := 4, ground := Go.Ground.guard }], guard := some (4, false) }) (v := ?v21f0f0) rfl (by kernel_rfl) (by kernel_rfl) (by kernel_rfl) (fun _ _ _ h => h) (Or.inl ⟨by rfl, ?hy21f0f0⟩) hHeld ?rest21f0f0
      case hy21f0f0 => (intro w hSw; (try dsimp only at hSw); go_simp; (first | done | with_reducible rfl))
      try simp only [Act.put, List.setIfInBounds_toArray, List.set_cons_zero, List.set_cons_succ]
      refine wpAnyH_take (i := 9) (oi := { dst := some 62, op := Go.Op.pick (Go.Operand.tmp 57) (Go.Operand.const (Go.Value.bool true)) (Go.Operand.tmp 61), type := 4, pos := "law.go:81", after := #[{ on := 4, ground := Go.Ground.data }, { on := 8, ground := Go.Ground.data }], guard := none }) (v := ?v22f0f0) rfl (by kernel_rfl) (by kernel_rfl) (by kernel_rfl) (fun _ _ _ h => h) (Or.inl ⟨by rfl, ?hy22f0f0⟩) hHeld ?rest22f0f0
      case hy22f0f0 => (intro w hSw; (try dsimp only at hSw); go_simp; (first | done | with_reducible rfl))
      try simp only [Act.put, List.setIfInBounds_toArray, List.set_cons_zero, List.set_cons_succ]
      refine wpAnyH_take (i := 10) (oi := { dst := some 63, op := Go.Op.move (Go.Operand.tmp 62), type := 4, pos := "law.go:81", after := #[{ on := 9, ground := Go.Ground.data }, { on := 4, ground := Go.Ground.chain }], guard := none }) (v := ?v23f0f0) rfl (by kernel_rfl) (by kernel_rfl) (by kernel_rfl) (fun _ _ _ h => h) (Or.inl ⟨by rfl, ?hy23f0f0⟩) hHeld ?rest23f0f0
      case hy23f0f0 => (intro w hSw; (try dsimp only at hSw); go_simp; (first | done | with_reducible rfl))
      try simp only [Act.put, List.setIfInBounds_toArray, List.set_cons_zero, List.set_cons_succ]
      refine wpAnyH_take (i := 11) (oi := { dst := some 64, op := Go.Op.move (Go.Operand.tmp 14), type := 4, pos := "law.go:81", after := #[{ on := 10, ground := Go.Ground.guard }], guard := some (10, false) }) (v := ?v24f0f0) rfl (by kernel_rfl) (by kernel_rfl) (by kernel_rfl) (fun _ _ _ h => h) (Or.inl ⟨by rfl, ?hy24f0f0⟩) hHeld ?rest24f0f0
      case hy24f0f0 => (intro w hSw; (try dsimp only at hSw); go_simp; (first | done | with_reducible rfl))
      try simp only [Act.put, List.setIfInBounds_toArray, List.set_cons_zero, List.set_cons_succ]
      refine wpAnyH_take (i := 12) (oi := { dst := some 65, op := Go.Op.move (Go.Operand.tmp 64), type := 4, pos := "law.go:81", after := #[{ on := 11, ground := Go.Ground.data }, { on := 10, ground := Go.Ground.chain }, { on := 10, ground := Go.Ground.guard }], guard := some (10, false) }) (v := ?v25f0f0) rfl (by kernel_rfl) (by kernel_rfl) (by kernel_rfl) (fun _ _ _ h => h) (Or.inl ⟨by rfl, ?hy25f0f0⟩) hHeld ?rest25f0f0
      case hy25f0f0 => (intro w hSw; (try dsimp only at hSw); go_simp; (first | done | with_reducible rfl))
      try simp only [Act.put, List.setIfInBounds_toArray, List.set_cons_zero, List.set_cons_succ]
      refine wpAnyH_take (i := 13) (oi := { dst := some 66, op := Go.Op.fieldAddr 49 (Go.Operand.tmp 13) 1, type := 0, pos := "law.go:81", after := #[{ on := 12, ground := Go.Ground.guard }], guard := some (12, true) }) (v := undef) rfl (by kernel_rfl) (by kernel_rfl) (by kernel_rfl) (fun _ _ _ h => h) (Or.inr ⟨by rfl, rfl⟩) hHeld ?_
      try simp only [Act.put, List.setIfInBounds_toArray, List.set_cons_zero, List.set_cons_succ]
      refine wpAnyH_take (i := 14) (oi := { dst := some 67, op := Go.Op.load 47 (Go.Operand.tmp 66), type := 47, pos := "law.go:81", after := #[{ on := 13, ground := Go.Ground.data }, { on := 12, ground := Go.Ground.guard }], guard := some (12, true) }) (v := undef) rfl (by kernel_rfl) (by kernel_rfl) (by kernel_rfl) (fun _ _ _ h => h) (Or.inr ⟨by rfl, rfl⟩) hHeld ?_
      try simp only [Act.put, List.setIfInBounds_toArray, List.set_cons_zero, List.set_cons_succ]
      refine wpAnyH_take (i := 15) (oi := { dst := some 68, op := Go.Op.call { callee := Go.Callee.value (Go.Operand.func 22), args := #[Go.Operand.tmp 67, Go.Operand.const (Go.Value.int Go.IntKind.i64 0)], argTypes := #[47, 3] }, type := 75, pos := "law.go:81", after := #[{ on := 14, ground := Go.Ground.data }, { on := 12, ground := Go.Ground.chain }, { on := 12, ground := Go.Ground.guard }], guard := some (12, true) }) (v := undef) rfl (by kernel_rfl) (by kernel_rfl) (by kernel_rfl) (fun _ _ _ h => h) (Or.inr ⟨by rfl, rfl⟩) hHeld ?_
      try simp only [Act.put, List.setIfInBounds_toArray, List.set_cons_zero, List.set_cons_succ]
      refine wpAnyH_take (i := 16) (oi := { dst := some 69, op := Go.Op.move (Go.Operand.tmp 9), type := 3, pos := "law.go:81", after := #[{ on := 12, ground := Go.Ground.guard }], guard := some (12, true) }) (v := undef) rfl (by kernel_rfl) (by kernel_rfl) (by kernel_rfl) (fun _ _ _ h => h) (Or.inr ⟨by rfl, rfl⟩) hHeld ?_
      try simp only [Act.put, List.setIfInBounds_toArray, List.set_cons_zero, List.set_cons_succ]
      refine wpAnyH_take (i := 17) (oi := { dst := some 70, op := Go.Op.convert 3 75 (Go.Operand.tmp 69), type := 75, pos := "law.go:81", after := #[{ on := 16, ground := Go.Ground.data }, { on := 12, ground := Go.Ground.guard }], guard := some (12, true) }) (v := undef) rfl (by kernel_rfl) (by kernel_rfl) (by kernel_rfl) (fun _ _ _ h => h) (Or.inr ⟨by rfl, rfl⟩) hHeld ?_
      try simp only [Act.put, List.setIfInBounds_toArray, List.set_cons_zero, List.set_cons_succ]
      refine wpAnyH_take (i := 18) (oi := { dst := some 71, op := Go.Op.binOp Go.BinOp.neq 75 (Go.Operand.tmp 68) (Go.Operand.tmp 70) 75, type := 4, pos := "law.go:81", after := #[{ on := 15, ground := Go.Ground.data }, { on := 17, ground := Go.Ground.data }, { on := 12, ground := Go.Ground.guard }], guard := some (12, true) }) (v := undef) rfl (by kernel_rfl) (by kernel_rfl) (by kernel_rfl) (fun _ _ _ h => h) (Or.inr ⟨by rfl, rfl⟩) hHeld ?_
      try simp only [Act.put, List.setIfInBounds_toArray, List.set_cons_zero, List.set_cons_succ]
      refine wpAnyH_take (i := 19) (oi := { dst := some 72, op := Go.Op.pick (Go.Operand.tmp 65) (Go.Operand.tmp 71) (Go.Operand.const (Go.Value.bool false)), type := 4, pos := "law.go:81", after := #[{ on := 12, ground := Go.Ground.data }, { on := 18, ground := Go.Ground.data }, { on := 10, ground := Go.Ground.guard }], guard := some (10, false) }) (v := ?v32f0f0) rfl (by kernel_rfl) (by kernel_rfl) (by kernel_rfl) (fun _ _ _ h => h) (Or.inl ⟨by rfl, ?hy32f0f0⟩) hHeld ?rest32f0f0
      case hy32f0f0 => (intro w hSw; (try dsimp only at hSw); go_simp; (first | done | with_reducible rfl))
      try simp only [Act.put, List.setIfInBounds_toArray, List.set_cons_zero, List.set_cons_succ]
      refine wpAnyH_take (i := 20) (oi := { dst := some 73, op := Go.Op.pick (Go.Operand.tmp 63) (Go.Operand.const (Go.Value.bool true)) (Go.Operand.tmp 72), type := 4, pos := "law.go:81", after := #[{ on := 10, ground := Go.Ground.data }, { on := 19, ground := Go.Ground.data }], guard := none }) (v := ?v33f0f0) rfl (by kernel_rfl) (by kernel_rfl) (by kernel_rfl) (fun _ _ _ h => h) (Or.inl ⟨by rfl, ?hy33f0f0⟩) hHeld ?rest33f0f0
      case hy33f0f0 => (intro w hSw; (try dsimp only at hSw); go_simp; (first | done | with_reducible rfl))
      try simp only [Act.put, List.setIfInBounds_toArray, List.set_cons_zero, List.set_cons_succ]
      refine wpAnyH_take (i := 21) (oi := { dst := some 74, op := Go.Op.move (Go.Operand.tmp 73), type := 4, pos := "law.go:81", after := #[{ on := 20, ground := Go.Ground.data }, { on := 15, ground := Go.Ground.chain }], guard := none }) (v := ?v34f0f0) rfl (by kernel_rfl) (by kernel_rfl) (by kernel_rfl) (fun _ _ _ h => h) (Or.inl ⟨by rfl, ?hy34f0f0⟩) hHeld ?rest34f0f0
      case hy34f0f0 => (intro w hSw; (try dsimp only at hSw); go_simp; (first | done | with_reducible rfl))
      try simp only [Act.put, List.setIfInBounds_toArray, List.set_cons_zero, List.set_cons_succ]
      refine wpAnyH_take (i := 22) (oi := { dst := some 75, op := Go.Op.move (Go.Operand.tmp 16), type := 4, pos := "law.go:81", after := #[{ on := 21, ground := Go.Ground.guard }], guard := some (21, false) }) (v := ?v35f0f0) rfl (by kernel_rfl) (by kernel_rfl) (by kernel_rfl) (fun _ _ _ h => h) (Or.inl ⟨by rfl, ?hy35f0f0⟩) hHeld ?rest35f0f0
      case hy35f0f0 => (intro w hSw; (try dsimp only at hSw); go_simp; (first | done | with_reducible rfl))
      try simp only [Act.put, List.setIfInBounds_toArray, List.set_cons_zero, List.set_cons_succ]
      refine wpAnyH_take (i := 23) (oi := { dst := some 76, op := Go.Op.move (Go.Operand.tmp 75), type := 4, pos := "law.go:81", after := #[{ on := 22, ground := Go.Ground.data }, { on := 21, ground := Go.Ground.chain }, { on := 21, ground := Go.Ground.guard }], guard := some (21, false) }) (v := ?v36f0f0) rfl (by kernel_rfl) (by kernel_rfl) (by kernel_rfl) (fun _ _ _ h => h) (Or.inl ⟨by rfl, ?hy36f0f0⟩) hHeld ?rest36f0f0
      case hy36f0f0 => (intro w hSw; (try dsimp only at hSw); go_simp; (first | done | with_reducible rfl))
      try simp only [Act.put, List.setIfInBounds_toArray, List.set_cons_zero, List.set_cons_succ]
      refine wpAnyH_take (i := 24) (oi := { dst := some 77, op := Go.Op.fieldAddr 66 (Go.Operand.tmp 15) 0, type := 0, pos := "law.go:81", after := #[{ on := 23, ground := Go.Ground.guard }], guard := some (23, true) }) (v := undef) rfl (by kernel_rfl) (by kernel_rfl) (by kernel_rfl) (fun _ _ _ h => h) (Or.inr ⟨by rfl, rfl⟩) hHeld ?_
      try simp only [Act.put, List.setIfInBounds_toArray, List.set_cons_zero, List.set_cons_succ]
      refine wpAnyH_take (i := 25) (oi := { dst := some 78, op := Go.Op.fieldAddr 54 (Go.Operand.tmp 77) 5, type := 0, pos := "law.go:81", after := #[{ on := 24, ground := Go.Ground.data }, { on := 23, ground := Go.Ground.guard }], guard := some (23, true) }) (v := undef) rfl (by kernel_rfl) (by kernel_rfl) (by kernel_rfl) (fun _ _ _ h => h) (Or.inr ⟨by rfl, rfl⟩) hHeld ?_
      try simp only [Act.put, List.setIfInBounds_toArray, List.set_cons_zero, List.set_cons_succ]
      refine wpAnyH_take (i := 26) (oi := { dst := some 79, op := Go.Op.load 21 (Go.Operand.tmp 78), type := 21, pos := "law.go:81", after := #[{ on := 25, ground := Go.Ground.data }, { on := 23, ground := Go.Ground.guard }], guard := some (23, true) }) (v := undef) rfl (by kernel_rfl) (by kernel_rfl) (by kernel_rfl) (fun _ _ _ h => h) (Or.inr ⟨by rfl, rfl⟩) hHeld ?_
      try simp only [Act.put, List.setIfInBounds_toArray, List.set_cons_zero, List.set_cons_succ]
      refine wpAnyH_take (i := 27) (oi := { dst := some 80, op := Go.Op.convert 21 3 (Go.Operand.tmp 79), type := 3, pos := "law.go:81", after := #[{ on := 26, ground := Go.Ground.data }, { on := 23, ground := Go.Ground.guard }], guard := some (23, true) }) (v := undef) rfl (by kernel_rfl) (by kernel_rfl) (by kernel_rfl) (fun _ _ _ h => h) (Or.inr ⟨by rfl, rfl⟩) hHeld ?_
      try simp only [Act.put, List.setIfInBounds_toArray, List.set_cons_zero, List.set_cons_succ]
      refine wpAnyH_take (i := 28) (oi := { dst := some 81, op := Go.Op.move (Go.Operand.tmp 11), type := 3, pos := "law.go:81", after := #[{ on := 23, ground := Go.Ground.guard }], guard := some (23, true) }) (v := undef) rfl (by kernel_rfl) (by kernel_rfl) (by kernel_rfl) (fun _ _ _ h => h) (Or.inr ⟨by rfl, rfl⟩) hHeld ?_
      try simp only [Act.put, List.setIfInBounds_toArray, List.set_cons_zero, List.set_cons_succ]
      refine wpAnyH_take (i := 29) (oi := { dst := some 82, op := Go.Op.binOp Go.BinOp.neq 3 (Go.Operand.tmp 80) (Go.Operand.tmp 81) 3, type := 4, pos := "law.go:81", after := #[{ on := 27, ground := Go.Ground.data }, { on := 28, ground := Go.Ground.data }, { on := 23, ground := Go.Ground.guard }], guard := some (23, true) }) (v := undef) rfl (by kernel_rfl) (by kernel_rfl) (by kernel_rfl) (fun _ _ _ h => h) (Or.inr ⟨by rfl, rfl⟩) hHeld ?_
      try simp only [Act.put, List.setIfInBounds_toArray, List.set_cons_zero, List.set_cons_succ]
      refine wpAnyH_take (i := 30) (oi := { dst := some 83, op := Go.Op.move (Go.Operand.tmp 82), type := 4, pos := "law.go:81", after := #[{ on := 29, ground := Go.Ground.data }, { on := 23, ground := Go.Ground.chain }, { on := 23, ground := Go.Ground.guard }], guard := some (23, true) }) (v := undef) rfl (by kernel_rfl) (by kernel_rfl) (by kernel_rfl) (fun _ _ _ h => h) (Or.inr ⟨by rfl, rfl⟩) hHeld ?_
      try simp only [Act.put, List.setIfInBounds_toArray, List.set_cons_zero, List.set_cons_succ]
      refine wpAnyH_take (i := 31) (oi := { dst := some 84, op := Go.Op.fieldAddr 66 (Go.Operand.tmp 15) 1, type := 0, pos := "law.go:81", after := #[{ on := 30, ground := Go.Ground.guard }], guard := some (30, false) }) (v := undef) rfl (by kernel_rfl) (by kernel_rfl) (by kernel_rfl) (fun _ _ _ h => h) (Or.inr ⟨by rfl, rfl⟩) hHeld ?_
      try simp only [Act.put, List.setIfInBounds_toArray, List.set_cons_zero, List.set_cons_succ]
      refine wpAnyH_take (i := 32) (oi := { dst := some 85, op := Go.Op.load 24 (Go.Operand.tmp 84), type := 24, pos := "law.go:81", after := #[{ on := 31, ground := Go.Ground.data }, { on := 30, ground := Go.Ground.guard }], guard := some (30, false) }) (v := undef) rfl (by kernel_rfl) (by kernel_rfl) (by kernel_rfl) (fun _ _ _ h => h) (Or.inr ⟨by rfl, rfl⟩) hHeld ?_
      try simp only [Act.put, List.setIfInBounds_toArray, List.set_cons_zero, List.set_cons_succ]
      refine wpAnyH_take (i := 33) (oi := { dst := some 86, op := Go.Op.move (Go.Operand.tmp 0), type := 26, pos := "law.go:81", after := #[{ on := 30, ground := Go.Ground.guard }], guard := some (30, false) }) (v := undef) rfl (by kernel_rfl) (by kernel_rfl) (by kernel_rfl) (fun _ _ _ h => h) (Or.inr ⟨by rfl, rfl⟩) hHeld ?_
      try simp only [Act.put, List.setIfInBounds_toArray, List.set_cons_zero, List.set_cons_succ]
      refine wpAnyH_take (i := 34) (oi := { dst := some 87, op := Go.Op.move (Go.Operand.tmp 12), type := 3, pos := "law.go:81", after := #[{ on := 30, ground := Go.Ground.guard }], guard := some (30, false) }) (v := undef) rfl (by kernel_rfl) (by kernel_rfl) (by kernel_rfl) (fun _ _ _ h => h) (Or.inr ⟨by rfl, rfl⟩) hHeld ?_
      try simp only [Act.put, List.setIfInBounds_toArray, List.set_cons_zero, List.set_cons_succ]
      refine wpAnyH_take (i := 35) (oi := { dst := some 88, op := Go.Op.indexAddr 26 (Go.Operand.tmp 86) (Go.Operand.tmp 87), type := 0, pos := "law.go:81", after := #[{ on := 33, ground := Go.Ground.data }, { on := 34, ground := Go.Ground.data }, { on := 30, ground := Go.Ground.guard }], guard := some (30, false) }) (v := undef) rfl (by kernel_rfl) (by kernel_rfl) (by kernel_rfl) (fun _ _ _ h => h) (Or.inr ⟨by rfl, rfl⟩) hHeld ?_
      try simp only [Act.put, List.setIfInBounds_toArray, List.set_cons_zero, List.set_cons_succ]
      refine wpAnyH_take (i := 36) (oi := { dst := some 89, op := Go.Op.load 24 (Go.Operand.tmp 88), type := 24, pos := "law.go:81", after := #[{ on := 35, ground := Go.Ground.data }, { on := 30, ground := Go.Ground.guard }], guard := some (30, false) }) (v := undef) rfl (by kernel_rfl) (by kernel_rfl) (by kernel_rfl) (fun _ _ _ h => h) (Or.inr ⟨by rfl, rfl⟩) hHeld ?_
      try simp only [Act.put, List.setIfInBounds_toArray, List.set_cons_zero, List.set_cons_succ]
      refine wpAnyH_take (i := 37) (oi := { dst := some 90, op := Go.Op.binOp Go.BinOp.neq 24 (Go.Operand.tmp 85) (Go.Operand.tmp 89) 24, type := 4, pos := "law.go:81", after := #[{ on := 32, ground := Go.Ground.data }, { on := 36, ground := Go.Ground.data }, { on := 30, ground := Go.Ground.guard }], guard := some (30, false) }) (v := undef) rfl (by kernel_rfl) (by kernel_rfl) (by kernel_rfl) (fun _ _ _ h => h) (Or.inr ⟨by rfl, rfl⟩) hHeld ?_
      try simp only [Act.put, List.setIfInBounds_toArray, List.set_cons_zero, List.set_cons_succ]
      refine wpAnyH_take (i := 38) (oi := { dst := some 91, op := Go.Op.pick (Go.Operand.tmp 83) (Go.Operand.const (Go.Value.bool true)) (Go.Operand.tmp 90), type := 4, pos := "law.go:81", after := #[{ on := 30, ground := Go.Ground.data }, { on := 37, ground := Go.Ground.data }, { on := 23, ground := Go.Ground.guard }], guard := some (23, true) }) (v := undef) rfl (by kernel_rfl) (by kernel_rfl) (by kernel_rfl) (fun _ _ _ h => h) (Or.inr ⟨by rfl, rfl⟩) hHeld ?_
      try simp only [Act.put, List.setIfInBounds_toArray, List.set_cons_zero, List.set_cons_succ]
      refine wpAnyH_take (i := 39) (oi := { dst := some 92, op := Go.Op.pick (Go.Operand.tmp 76) (Go.Operand.tmp 91) (Go.Operand.const (Go.Value.bool false)), type := 4, pos := "law.go:81", after := #[{ on := 23, ground := Go.Ground.data }, { on := 38, ground := Go.Ground.data }, { on := 21, ground := Go.Ground.guard }], guard := some (21, false) }) (v := ?v52f0f0) rfl (by kernel_rfl) (by kernel_rfl) (by kernel_rfl) (fun _ _ _ h => h) (Or.inl ⟨by rfl, ?hy52f0f0⟩) hHeld ?rest52f0f0
      case hy52f0f0 => (intro w hSw; (try dsimp only at hSw); go_simp; (first | done | with_reducible rfl))
      try simp only [Act.put, List.setIfInBounds_toArray, List.set_cons_zero, List.set_cons_succ]
      refine wpAnyH_take (i := 40) (oi := { dst := some 93, op := Go.Op.pick (Go.Operand.tmp 74) (Go.Operand.const (Go.Value.bool true)) (Go.Operand.tmp 92), type := 4, pos := "law.go:81", after := #[{ on := 21, ground := Go.Ground.data }, { on := 39, ground := Go.Ground.data }], guard := none }) (v := ?v53f0f0) rfl (by kernel_rfl) (by kernel_rfl) (by kernel_rfl) (fun _ _ _ h => h) (Or.inl ⟨by rfl, ?hy53f0f0⟩) hHeld ?rest53f0f0
      case hy53f0f0 => (intro w hSw; (try dsimp only at hSw); go_simp; (first | done | with_reducible rfl))
      try simp only [Act.put, List.setIfInBounds_toArray, List.set_cons_zero, List.set_cons_succ]
      refine wpAnyH_done (by kernel_rfl) ?_ _
      generalize s9.drew = wd54 at *
      go_wp2_with fail
      try simp only [Act.put, List.setIfInBounds_toArray, List.set_cons_zero, List.set_cons_succ]
      apply joinK0 (F := fun (wS7 : World) => wd54.heap.size ≤ wS7.heap.size ∧ Ext w wS7 ∧ Lay 9 wS7 B13 v ∧ Lay 8 wS7 B15 u ∧ wS7.cell? (al.add k) = some (.pointer (some ⟨b, 0, none⟩)) ∧ wS7.cell? (ar.add (k * 2)) = some (.slice A n c) ∧ wS7.cell? ⟨(ar.add (k * 2)).block, (ar.add (k * 2)).off + 1, none⟩ = some (.slice A2 n2 c2))
      · intro J
        refine J wd54 ?_
        exact ⟨Nat.le_refl _, E, LB13, LB15, L0, R0, R1⟩
      intro wS7 hJS
      clear E L0 R0 R1 LB13 LB15
      refine wp_region_held_drew (S := (fun w' => w'.cell? (al.add k) = some (.pointer (some ⟨b, 0, none⟩)) ∧ w'.cell? (ar.add (k * 2)) = some (.slice A n c) ∧ w'.cell? ⟨(ar.add (k * 2)).block, (ar.add (k * 2)).off + 1, none⟩ = some (.slice A2 n2 c2))) (by kernel_rfl) (by obtain ⟨z57, E, LB13, LB15, L0, R0, R1⟩ := hJS; exact ⟨(L0), (R0), (R1)⟩) (fun hH0 => ?_)
      apply joinK8 (F := fun (wD7_0 : World) (NA1 : Option Addr) (nc1 : Nat) (MA1 : Option Addr) (mc1 : Nat) (NA2 : Option Addr) (nc2 : Nat) (MA2 : Option Addr) (mc2 : Nat) => wS7.heap.size ≤ wD7_0.heap.size ∧ Ext w wD7_0 ∧ Lay 9 wD7_0 B13 v ∧ Lay 8 wD7_0 B15 u)
      intro JD7_0
      · have hJQ := hJS
        obtain ⟨z57, E, LB13, LB15, L0, R0, R1⟩ := hJQ
        have hq58 : wS7.heap.size ≤ wS7.drew.heap.size := Nat.le_refl _
        have z59 := (Ext.refl wS7).drew.size
        replace E := E.trans (Ext.refl wS7).drew
        replace LB13 := LB13.ext (Ext.refl wS7).drew
        replace LB15 := LB15.ext (Ext.refl wS7).drew
        replace L0 := cell_ext ((Ext.refl wS7).drew) L0
        replace R0 := cell_ext ((Ext.refl wS7).drew) R0
        replace R1 := cell_ext ((Ext.refl wS7).drew) R1
        have hHeld := And.intro (L0) (And.intro (R0) ((R1)))
        refine wpAnyH_take (i := 0) (oi := { dst := some 94, op := Go.Op.move (Go.Operand.tmp 0), type := 26, pos := "law.go:84", after := #[], guard := none }) (v := ?v60f0f0) rfl (by kernel_rfl) (by kernel_rfl) (by kernel_rfl) (fun _ _ _ h => h) (Or.inl ⟨by rfl, ?hy60f0f0⟩) hHeld ?rest60f0f0
        case hy60f0f0 => (intro w hSw; (try dsimp only at hSw); obtain ⟨hS0, hS1, hS2⟩ := hSw; go_simp; (first | done | with_reducible rfl))
        try simp only [Act.put, List.setIfInBounds_toArray, List.set_cons_zero, List.set_cons_succ]
        refine wpAnyH_take (i := 1) (oi := { dst := some 95, op := Go.Op.move (Go.Operand.tmp 2), type := 3, pos := "law.go:84", after := #[], guard := none }) (v := ?v61f0f0) rfl (by kernel_rfl) (by kernel_rfl) (by kernel_rfl) (fun _ _ _ h => h) (Or.inl ⟨by rfl, ?hy61f0f0⟩) hHeld ?rest61f0f0
        case hy61f0f0 => (intro w hSw; (try dsimp only at hSw); obtain ⟨hS0, hS1, hS2⟩ := hSw; go_simp; (first | done | with_reducible rfl))
        try simp only [Act.put, List.setIfInBounds_toArray, List.set_cons_zero, List.set_cons_succ]
        refine wpAnyH_take (i := 2) (oi := { dst := some 96, op := Go.Op.indexAddr 26 (Go.Operand.tmp 94) (Go.Operand.tmp 95), type := 0, pos := "law.go:84", after := #[{ on := 0, ground := Go.Ground.data }, { on := 1, ground := Go.Ground.data }], guard := none }) (v := .pointer (some (al.add k))) rfl (by kernel_rfl) (by kernel_rfl) (by kernel_rfl) (fun _ _ _ h => h) (Or.inl ⟨by rfl, ?hy62f0f0⟩) hHeld ?rest62f0f0
        case hy62f0f0 => (intro w hSw; (try dsimp only at hSw); obtain ⟨hS0, hS1, hS2⟩ := hSw; go_simp; try (first | done | (intro hk3; exfalso; omega) | (rw [if_pos]; omega) | (simp; omega)); (first | done | with_reducible rfl))
        try simp only [Act.put, List.setIfInBounds_toArray, List.set_cons_zero, List.set_cons_succ]
        refine wpAnyH_take (i := 3) (oi := { dst := some 97, op := Go.Op.load 24 (Go.Operand.tmp 96), type := 24, pos := "law.go:84", after := #[{ on := 2, ground := Go.Ground.data }], guard := none }) (v := .pointer (some ⟨b, 0, none⟩)) rfl (by kernel_rfl) (by kernel_rfl) (by kernel_rfl) (fun _ _ _ h => h) (Or.inl ⟨by rfl, ?hy63f0f0⟩) hHeld ?rest63f0f0
        case hy63f0f0 => (intro w hSw; (try dsimp only at hSw); obtain ⟨hS0, hS1, hS2⟩ := hSw; go_simp; try (first | done | (simp [hS0]; done) | (simp [hS1]; done) | (simp [hS2]; done) | (simp; omega) | omega); (first | done | with_reducible rfl))
        try simp only [Act.put, List.setIfInBounds_toArray, List.set_cons_zero, List.set_cons_succ]
        refine wpAnyH_take (i := 5) (oi := { dst := some 99, op := Go.Op.move (Go.Operand.tmp 1), type := 27, pos := "law.go:84", after := #[], guard := none }) (v := ?v64f0f0) rfl (by kernel_rfl) (by kernel_rfl) (by kernel_rfl) (fun _ _ _ h => h) (Or.inl ⟨by rfl, ?hy64f0f0⟩) hHeld ?rest64f0f0
        case hy64f0f0 => (intro w hSw; (try dsimp only at hSw); obtain ⟨hS0, hS1, hS2⟩ := hSw; go_simp; (first | done | with_reducible rfl))
        try simp only [Act.put, List.setIfInBounds_toArray, List.set_cons_zero, List.set_cons_succ]
        refine wpAnyH_take (i := 6) (oi := { dst := some 100, op := Go.Op.move (Go.Operand.tmp 2), type := 3, pos := "law.go:84", after := #[], guard := none }) (v := ?v65f0f0) rfl (by kernel_rfl) (by kernel_rfl) (by kernel_rfl) (fun _ _ _ h => h) (Or.inl ⟨by rfl, ?hy65f0f0⟩) hHeld ?rest65f0f0
        case hy65f0f0 => (intro w hSw; (try dsimp only at hSw); obtain ⟨hS0, hS1, hS2⟩ := hSw; go_simp; (first | done | with_reducible rfl))
        try simp only [Act.put, List.setIfInBounds_toArray, List.set_cons_zero, List.set_cons_succ]
        refine wpAnyH_take (i := 7) (oi := { dst := some 101, op := Go.Op.indexAddr 27 (Go.Operand.tmp 99) (Go.Operand.tmp 100), type := 0, pos := "law.go:84", after := #[{ on := 5, ground := Go.Ground.data }, { on := 6, ground := Go.Ground.data }], guard := none }) (v := .pointer (some (ar.add (k * 2)))) rfl (by kernel_rfl) (by kernel_rfl) (by kernel_rfl) (fun _ _ _ h => h) (Or.inl ⟨by rfl, ?hy66f0f0⟩) hHeld ?rest66f0f0
        case hy66f0f0 => (intro w hSw; (try dsimp only at hSw); obtain ⟨hS0, hS1, hS2⟩ := hSw; go_simp; try (first | done | (intro hk3; exfalso; omega) | (rw [if_pos]; omega) | (simp; omega)); (first | done | with_reducible rfl))
        try simp only [Act.put, List.setIfInBounds_toArray, List.set_cons_zero, List.set_cons_succ]
        refine wpAnyH_take (i := 8) (oi := { dst := some 102, op := Go.Op.fieldAddr 33 (Go.Operand.tmp 101) 0, type := 0, pos := "law.go:84", after := #[{ on := 7, ground := Go.Ground.data }], guard := none }) (v := ?v67f0f0) rfl (by kernel_rfl) (by kernel_rfl) (by kernel_rfl) (fun _ _ _ h => h) (Or.inl ⟨by rfl, ?hy67f0f0⟩) hHeld ?rest67f0f0
        case hy67f0f0 => (intro w hSw; (try dsimp only at hSw); obtain ⟨hS0, hS1, hS2⟩ := hSw; go_simp; (first | done | with_reducible rfl))
        try simp only [Act.put, List.setIfInBounds_toArray, List.set_cons_zero, List.set_cons_succ]
        refine wpAnyH_take (i := 9) (oi := { dst := some 103, op := Go.Op.load 31 (Go.Operand.tmp 102), type := 31, pos := "law.go:84", after := #[{ on := 8, ground := Go.Ground.data }], guard := none }) (v := .slice A n c) rfl (by kernel_rfl) (by kernel_rfl) (by kernel_rfl) (fun _ _ _ h => h) (Or.inl ⟨by rfl, ?hy68f0f0⟩) hHeld ?rest68f0f0
        case hy68f0f0 => (intro w hSw; (try dsimp only at hSw); obtain ⟨hS0, hS1, hS2⟩ := hSw; go_simp; try (first | done | (simp [hS0]; done) | (simp [hS1]; done) | (simp [hS2]; done) | (simp; omega) | omega); (first | done | with_reducible rfl))
        try simp only [Act.put, List.setIfInBounds_toArray, List.set_cons_zero, List.set_cons_succ]
        refine wpAnyH_ready (rs := [4]) (by kernel_rfl) (by simp) ?_
        refine AllReadyH.cons (o := agr_7_4) rfl (fun K hK => ?_) (AllReadyH.nil)
        dsimp only [agr_7_4]
        go_simp
        refine (cN _ E).mono ?_
        rintro e w98 ⟨NA1, nc1, rfl, HQ1, x⟩
        have z69 := x.size
        replace E := E.trans x
        replace LB13 := LB13.ext x
        replace LB15 := LB15.ext x
        replace L0 := cell_ext (x) L0
        replace R0 := cell_ext (x) R0
        replace R1 := cell_ext (x) R1
        clear x
        clear hHeld
        have hHeld := And.intro (L0) (And.intro (R0) ((R1)))
        refine hK.out _ _ hHeld (fun _ => ?_)
        clear hK K
        try simp only [Act.put, List.setIfInBounds_toArray, List.set_cons_zero, List.set_cons_succ]
        refine wpAnyH_ready (rs := [10]) (by kernel_rfl) (by simp) ?_
        refine AllReadyH.cons (o := agr_7_10) rfl (fun K hK => ?_) (AllReadyH.nil)
        dsimp only [agr_7_10]
        go_simp
        refine (cM _ E).mono ?_
        rintro e w104 ⟨MA1, mc1, rfl, HQ2, x⟩
        have z70 := x.size
        replace E := E.trans x
        replace LB13 := LB13.ext x
        replace LB15 := LB15.ext x
        replace L0 := cell_ext (x) L0
        replace R0 := cell_ext (x) R0
        replace R1 := cell_ext (x) R1
        replace HQ1 := HQ1.ext x
        clear x
        clear hHeld
        have hHeld := And.intro (L0) (And.intro (R0) ((R1)))
        refine hK.out _ _ hHeld (fun _ => ?_)
        clear hK K
        try simp only [Act.put, List.setIfInBounds_toArray, List.set_cons_zero, List.set_cons_succ]
        refine wpAnyH_ready (rs := [11]) (by kernel_rfl) (by simp) ?_
        refine AllReadyH.cons (o := agr_7_11) rfl (fun K hK => ?_) (AllReadyH.nil)
        dsimp only [agr_7_11]
        go_simp
        refine (cT _ _ _ _ _ HQ1.is HQ2.is).mono ?_
        rintro e w105 ⟨rfl, x⟩
        have z71 := x.size
        replace E := E.trans x
        replace LB13 := LB13.ext x
        replace LB15 := LB15.ext x
        replace L0 := cell_ext (x) L0
        replace R0 := cell_ext (x) R0
        replace R1 := cell_ext (x) R1
        replace HQ1 := HQ1.ext x
        replace HQ2 := HQ2.ext x
        clear x
        clear hHeld
        have hHeld := And.intro (L0) (And.intro (R0) ((R1)))
        refine hK.out _ _ hHeld (fun _ => ?_)
        clear hK K
        try simp only [Act.put, List.setIfInBounds_toArray, List.set_cons_zero, List.set_cons_succ]
        refine wpAnyH_take (i := 12) (oi := { dst := some 106, op := Go.Op.move (Go.Operand.tmp 105), type := 4, pos := "law.go:84", after := #[{ on := 11, ground := Go.Ground.data }, { on := 11, ground := Go.Ground.chain }], guard := none }) (v := ?v72f0f0) rfl (by kernel_rfl) (by kernel_rfl) (by kernel_rfl) (fun _ _ _ h => h) (Or.inl ⟨by rfl, ?hy72f0f0⟩) hHeld ?rest72f0f0
        case hy72f0f0 => (intro w hSw; (try dsimp only at hSw); obtain ⟨hS0, hS1, hS2⟩ := hSw; go_simp; (first | done | with_reducible rfl))
        try simp only [Act.put, List.setIfInBounds_toArray, List.set_cons_zero, List.set_cons_succ]
        refine wpAnyH_take (i := 13) (oi := { dst := some 107, op := Go.Op.move (Go.Operand.tmp 0), type := 26, pos := "law.go:84", after := #[{ on := 12, ground := Go.Ground.guard }], guard := some (12, true) }) (v := ?v73f0f0) rfl (by kernel_rfl) (by kernel_rfl) (by kernel_rfl) (fun _ _ _ h => h) (Or.inl ⟨by rfl, ?hy73f0f0⟩) hHeld ?rest73f0f0
        case hy73f0f0 => (intro w hSw; (try dsimp only at hSw); obtain ⟨hS0, hS1, hS2⟩ := hSw; go_simp; (first | done | with_reducible rfl))
        try simp only [Act.put, List.setIfInBounds_toArray, List.set_cons_zero, List.set_cons_succ]
        refine wpAnyH_take (i := 14) (oi := { dst := some 108, op := Go.Op.move (Go.Operand.tmp 2), type := 3, pos := "law.go:84", after := #[{ on := 12, ground := Go.Ground.guard }], guard := some (12, true) }) (v := ?v74f0f0) rfl (by kernel_rfl) (by kernel_rfl) (by kernel_rfl) (fun _ _ _ h => h) (Or.inl ⟨by rfl, ?hy74f0f0⟩) hHeld ?rest74f0f0
        case hy74f0f0 => (intro w hSw; (try dsimp only at hSw); obtain ⟨hS0, hS1, hS2⟩ := hSw; go_simp; (first | done | with_reducible rfl))
        try simp only [Act.put, List.setIfInBounds_toArray, List.set_cons_zero, List.set_cons_succ]
        refine wpAnyH_take (i := 15) (oi := { dst := some 109, op := Go.Op.indexAddr 26 (Go.Operand.tmp 107) (Go.Operand.tmp 108), type := 0, pos := "law.go:84", after := #[{ on := 13, ground := Go.Ground.data }, { on := 14, ground := Go.Ground.data }, { on := 12, ground := Go.Ground.guard }], guard := some (12, true) }) (v := .pointer (some (al.add k))) rfl (by kernel_rfl) (by kernel_rfl) (by kernel_rfl) (fun _ _ _ h => h) (Or.inl ⟨by rfl, ?hy75f0f0⟩) hHeld ?rest75f0f0
        case hy75f0f0 => (intro w hSw; (try dsimp only at hSw); obtain ⟨hS0, hS1, hS2⟩ := hSw; go_simp; try (first | done | (intro hk3; exfalso; omega) | (rw [if_pos]; omega) | (simp; omega)); (first | done | with_reducible rfl))
        try simp only [Act.put, List.setIfInBounds_toArray, List.set_cons_zero, List.set_cons_succ]
        refine wpAnyH_take (i := 16) (oi := { dst := some 110, op := Go.Op.load 24 (Go.Operand.tmp 109), type := 24, pos := "law.go:84", after := #[{ on := 15, ground := Go.Ground.data }, { on := 12, ground := Go.Ground.guard }], guard := some (12, true) }) (v := .pointer (some ⟨b, 0, none⟩)) rfl (by kernel_rfl) (by kernel_rfl) (by kernel_rfl) (fun _ _ _ h => h) (Or.inl ⟨by rfl, ?hy76f0f0⟩) hHeld ?rest76f0f0
        case hy76f0f0 => (intro w hSw; (try dsimp only at hSw); obtain ⟨hS0, hS1, hS2⟩ := hSw; go_simp; try (first | done | (simp [hS0]; done) | (simp [hS1]; done) | (simp [hS2]; done) | (simp; omega) | omega); (first | done | with_reducible rfl))
        try simp only [Act.put, List.setIfInBounds_toArray, List.set_cons_zero, List.set_cons_succ]
        refine wpAnyH_take (i := 18) (oi := { dst := some 112, op := Go.Op.move (Go.Operand.tmp 1), type := 27, pos := "law.go:84", after := #[{ on := 12, ground := Go.Ground.guard }], guard := some (12, true) }) (v := ?v77f0f0) rfl (by kernel_rfl) (by kernel_rfl) (by kernel_rfl) (fun _ _ _ h => h) (Or.inl ⟨by rfl, ?hy77f0f0⟩) hHeld ?rest77f0f0
        case hy77f0f0 => (intro w hSw; (try dsimp only at hSw); obtain ⟨hS0, hS1, hS2⟩ := hSw; go_simp; (first | done | with_reducible rfl))
        try simp only [Act.put, List.setIfInBounds_toArray, List.set_cons_zero, List.set_cons_succ]
        refine wpAnyH_take (i := 19) (oi := { dst := some 113, op := Go.Op.move (Go.Operand.tmp 2), type := 3, pos := "law.go:84", after := #[{ on := 12, ground := Go.Ground.guard }], guard := some (12, true) }) (v := ?v78f0f0) rfl (by kernel_rfl) (by kernel_rfl) (by kernel_rfl) (fun _ _ _ h => h) (Or.inl ⟨by rfl, ?hy78f0f0⟩) hHeld ?rest78f0f0
        case hy78f0f0 => (intro w hSw; (try dsimp only at hSw); obtain ⟨hS0, hS1, hS2⟩ := hSw; go_simp; (first | done | with_reducible rfl))
        try simp only [Act.put, List.setIfInBounds_toArray, List.set_cons_zero, List.set_cons_succ]
        refine wpAnyH_take (i := 20) (oi := { dst := some 114, op := Go.Op.indexAddr 27 (Go.Operand.tmp 112) (Go.Operand.tmp 113), type := 0, pos := "law.go:84", after := #[{ on := 18, ground := Go.Ground.data }, { on := 19, ground := Go.Ground.data }, { on := 12, ground := Go.Ground.guard }], guard := some (12, true) }) (v := .pointer (some (ar.add (k * 2)))) rfl (by kernel_rfl) (by kernel_rfl) (by kernel_rfl) (fun _ _ _ h => h) (Or.inl ⟨by rfl, ?hy79f0f0⟩) hHeld ?rest79f0f0
        case hy79f0f0 => (intro w hSw; (try dsimp only at hSw); obtain ⟨hS0, hS1, hS2⟩ := hSw; go_simp; try (first | done | (intro hk3; exfalso; omega) | (rw [if_pos]; omega) | (simp; omega)); (first | done | with_reducible rfl))
        try simp only [Act.put, List.setIfInBounds_toArray, List.set_cons_zero, List.set_cons_succ]
        refine wpAnyH_take (i := 21) (oi := { dst := some 115, op := Go.Op.fieldAddr 33 (Go.Operand.tmp 114) 1, type := 0, pos := "law.go:84", after := #[{ on := 20, ground := Go.Ground.data }, { on := 12, ground := Go.Ground.guard }], guard := some (12, true) }) (v := ?v80f0f0) rfl (by kernel_rfl) (by kernel_rfl) (by kernel_rfl) (fun _ _ _ h => h) (Or.inl ⟨by rfl, ?hy80f0f0⟩) hHeld ?rest80f0f0
        case hy80f0f0 => (intro w hSw; (try dsimp only at hSw); obtain ⟨hS0, hS1, hS2⟩ := hSw; go_simp; (first | done | with_reducible rfl))
        try simp only [Act.put, List.setIfInBounds_toArray, List.set_cons_zero, List.set_cons_succ]
        refine wpAnyH_take (i := 22) (oi := { dst := some 116, op := Go.Op.load 31 (Go.Operand.tmp 115), type := 31, pos := "law.go:84", after := #[{ on := 21, ground := Go.Ground.data }, { on := 12, ground := Go.Ground.guard }], guard := some (12, true) }) (v := .slice A2 n2 c2) rfl (by kernel_rfl) (by kernel_rfl) (by kernel_rfl) (fun _ _ _ h => h) (Or.inl ⟨by rfl, ?hy81f0f0⟩) hHeld ?rest81f0f0
        case hy81f0f0 => (intro w hSw; (try dsimp only at hSw); obtain ⟨hS0, hS1, hS2⟩ := hSw; go_simp; try (first | done | (simp [hS0]; done) | (simp [hS1]; done) | (simp [hS2]; done) | (simp; omega) | omega); (first | done | with_reducible rfl))
        try simp only [Act.put, List.setIfInBounds_toArray, List.set_cons_zero, List.set_cons_succ]
        refine wpAnyH_ready (rs := [17]) (by kernel_rfl) (by simp) ?_
        refine AllReadyH.cons (o := agr_7_17) rfl (fun K hK => ?_) (AllReadyH.nil)
        dsimp only [agr_7_17]
        go_simp
        refine (cFs _ E).mono ?_
        rintro e w111 ⟨NA2, nc2, rfl, HQ3, x⟩
        have z82 := x.size
        replace E := E.trans x
        replace LB13 := LB13.ext x
        replace LB15 := LB15.ext x
        replace L0 := cell_ext (x) L0
        replace R0 := cell_ext (x) R0
        replace R1 := cell_ext (x) R1
        replace HQ1 := HQ1.ext x
        replace HQ2 := HQ2.ext x
        clear x
        clear hHeld
        have hHeld := And.intro (L0) (And.intro (R0) ((R1)))
        refine hK.out _ _ hHeld (fun _ => ?_)
        clear hK K
        try simp only [Act.put, List.setIfInBounds_toArray, List.set_cons_zero, List.set_cons_succ]
        refine wpAnyH_ready (rs := [23]) (by kernel_rfl) (by simp) ?_
        refine AllReadyH.cons (o := agr_7_23) rfl (fun K hK => ?_) (AllReadyH.nil)
        dsimp only [agr_7_23]
        go_simp
        refine (cM2 _ E).mono ?_
        rintro e w117 ⟨MA2, mc2, rfl, HQ4, x⟩
        have z83 := x.size
        replace E := E.trans x
        replace LB13 := LB13.ext x
        replace LB15 := LB15.ext x
        replace L0 := cell_ext (x) L0
        replace R0 := cell_ext (x) R0
        replace R1 := cell_ext (x) R1
        replace HQ1 := HQ1.ext x
        replace HQ2 := HQ2.ext x
        replace HQ3 := HQ3.ext x
        clear x
        clear hHeld
        have hHeld := And.intro (L0) (And.intro (R0) ((R1)))
        refine hK.out _ _ hHeld (fun _ => ?_)
        clear hK K
        try simp only [Act.put, List.setIfInBounds_toArray, List.set_cons_zero, List.set_cons_succ]
        refine wpAnyH_ready (rs := [24]) (by kernel_rfl) (by simp) ?_
        refine AllReadyH.cons (o := agr_7_24) rfl (fun K hK => ?_) (AllReadyH.nil)
        dsimp only [agr_7_24]
        go_simp
        refine (cT2 _ _ _ _ _ HQ3.is HQ4.is).mono ?_
        rintro e w118 ⟨rfl, x⟩
        have z84 := x.size
        replace E := E.trans x
        replace LB13 := LB13.ext x
        replace LB15 := LB15.ext x
        replace L0 := cell_ext (x) L0
        replace R0 := cell_ext (x) R0
        replace R1 := cell_ext (x) R1
        replace HQ1 := HQ1.ext x
        replace HQ2 := HQ2.ext x
        replace HQ3 := HQ3.ext x
        replace HQ4 := HQ4.ext x
        clear x
        clear hHeld
        have hHeld := And.intro (L0) (And.intro (R0) ((R1)))
        refine hK.out _ _ hHeld (fun _ => ?_)
        clear hK K
        try simp only [Act.put, List.setIfInBounds_toArray, List.set_cons_zero, List.set_cons_succ]
        refine wpAnyH_take (i := 25) (oi := { dst := some 119, op := Go.Op.pick (Go.Operand.tmp 106) (Go.Operand.tmp 118) (Go.Operand.const (Go.Value.bool false)), type := 4, pos := "law.go:84", after := #[{ on := 12, ground := Go.Ground.data }, { on := 24, ground := Go.Ground.data }], guard := none }) (v := ?v85f0f0) rfl (by kernel_rfl) (by kernel_rfl) (by kernel_rfl) (fun _ _ _ h => h) (Or.inl ⟨by rfl, ?hy85f0f0⟩) hHeld ?rest85f0f0
        case hy85f0f0 => (intro w hSw; (try dsimp only at hSw); obtain ⟨hS0, hS1, hS2⟩ := hSw; go_simp; (first | done | with_reducible rfl))
        try simp only [Act.put, List.setIfInBounds_toArray, List.set_cons_zero, List.set_cons_succ]
        refine wpAnyH_take (i := 26) (oi := { dst := some 8, op := Go.Op.assign (Go.Operand.tmp 119), type := 4, pos := "law.go:84", after := #[{ on := 25, ground := Go.Ground.data }, { on := 24, ground := Go.Ground.chain }, { on := 0, ground := Go.Ground.phase }, { on := 1, ground := Go.Ground.phase }, { on := 2, ground := Go.Ground.phase }, { on := 3, ground := Go.Ground.phase }, { on := 4, ground := Go.Ground.phase }, { on := 5, ground := Go.Ground.phase }, { on := 6, ground := Go.Ground.phase }, { on := 7, ground := Go.Ground.phase }, { on := 8, ground := Go.Ground.phase }, { on := 9, ground := Go.Ground.phase }, { on := 10, ground := Go.Ground.phase }, { on := 11, ground := Go.Ground.phase }, { on := 12, ground := Go.Ground.phase }, { on := 13, ground := Go.Ground.phase }, { on := 14, ground := Go.Ground.phase }, { on := 15, ground := Go.Ground.phase }, { on := 16, ground := Go.Ground.phase }, { on := 17, ground := Go.Ground.phase }, { on := 18, ground := Go.Ground.phase }, { on := 19, ground := Go.Ground.phase }, { on := 20, ground := Go.Ground.phase }, { on := 21, ground := Go.Ground.phase }, { on := 22, ground := Go.Ground.phase }, { on := 23, ground := Go.Ground.phase }, { on := 24, ground := Go.Ground.phase }, { on := 25, ground := Go.Ground.phase }], guard := none }) (v := ?v86f0f0) rfl (by kernel_rfl) (by kernel_rfl) (by kernel_rfl) (fun _ _ _ h => h) (Or.inl ⟨by rfl, ?hy86f0f0⟩) hHeld ?rest86f0f0
        case hy86f0f0 => (intro w hSw; (try dsimp only at hSw); obtain ⟨hS0, hS1, hS2⟩ := hSw; go_simp; (first | done | with_reducible rfl))
        try simp only [Act.put, List.setIfInBounds_toArray, List.set_cons_zero, List.set_cons_succ]
        refine wpAnyH_done (by kernel_rfl) ?_ _
        refine JD7_0 w118 NA1 nc1 MA1 mc1 NA2 nc2 MA2 mc2 ?_
        exact ⟨by omega, E, LB13, LB15⟩
      · intro wD7_0 NA1 nc1 MA1 mc1 NA2 nc2 MA2 mc2 hJ
        obtain ⟨z87, E, LB13, LB15⟩ := hJ
        try dsimp only
        go_wp2_with fail
        go_ret
        exact ⟨rfl, E⟩
    · obtain rfl := hmz2.symm
      obtain rfl := htz2.symm
      clear uf
      have Lj := cell_ext E (Li i hi)
      have hLj : (al.add i).block < w.heap.size := World.block_lt_of_cell? _ _ (Li i hi)
      clear Li
      generalize B i = bt at Lj ⊢
      dsimp only [cloV]
      have TB15 : True := trivial
      have TG9 : True := trivial
      go_wp2_with (first | (clear TB15; refine allocsC rfl rfl ?_; intro B15 w15 bB15 cB15 XB15 LB15 RB15; have z8 := XB15.size; replace E := E.trans XB15; replace L0 := cell_ext (XB15) L0; replace R0 := cell_ext (XB15) R0; replace R1 := cell_ext (XB15) R1; replace LB13 := LB13.ext XB15; replace Lj := cell_ext (XB15) Lj; have cB15_5 := lay_cell LB15 (j := 5) rfl; have cB15_7 := lay_cell LB15 (j := 7) rfl) | (clear TG9; have hRl := (RB15).lt (Nat.zero_lt_succ _); refine storesC (B := B15) rfl rfl rfl (v := (.agg #[.int .i64 13, .int .i64 0, .slice none 0 0, .slice none 0 0, .string ByteArray.empty, .int .i32 z2, .slice none 0 0, .pointer (some ⟨bt, 0, none⟩)])) rfl RB15 (cloV_flat z2 bt) ?_; clear LB15; clear cB15_5; clear cB15_7; intro s9 G9 LB15 RQ; have z10 := G9.size; replace E := grown_ext E G9 (by omega); replace L0 := cell_grown (G9) L0 (by show (al.add k).block ≠ _; omega); replace R0 := cell_grown (G9) R0 (by show (ar.add (k * 2)).block ≠ _; omega); replace R1 := cell_grown (G9) R1 (by show (ar.add (k * 2)).block ≠ _; omega); replace LB13 := LB13.grown G9 (by omega); replace Lj := cell_grown (G9) Lj (by show (al.add i).block ≠ _; omega); clear RB15; have RB15 := RQ; clear RQ hRl; have cB15_5 := lay_cell LB15 (j := 5) rfl; have cB15_7 := lay_cell LB15 (j := 7) rfl; clear RB15))
      try simp only [Act.put, List.setIfInBounds_toArray, List.set_cons_zero, List.set_cons_succ]
      have hq11 : s9.heap.size ≤ s9.drew.heap.size := Nat.le_refl _
      have z12 := (Ext.refl s9).drew.size
      replace E := E.trans (Ext.refl s9).drew
      replace L0 := cell_ext ((Ext.refl s9).drew) L0
      replace R0 := cell_ext ((Ext.refl s9).drew) R0
      replace R1 := cell_ext ((Ext.refl s9).drew) R1
      replace LB13 := LB13.ext (Ext.refl s9).drew
      replace Lj := cell_ext ((Ext.refl s9).drew) Lj
      replace LB15 := LB15.ext (Ext.refl s9).drew
      replace cB15_5 := cell_ext ((Ext.refl s9).drew) cB15_5
      replace cB15_7 := cell_ext ((Ext.refl s9).drew) cB15_7
      refine wp_region_held_drew (S := (fun w' => w'.cell? ⟨B15, 5, none⟩ = some (.int .i32 z2) ∧ w'.cell? ⟨B15, 7, none⟩ = some (.pointer (some ⟨bt, 0, none⟩)) ∧ w'.cell? (al.add i) = some (.pointer (some ⟨bt, 0, none⟩)))) (by kernel_rfl) ⟨(cB15_5), (cB15_7), (Lj)⟩ (fun hHeld => ?_)
      refine wpAnyH_take (i := 0) (oi := { dst := some 53, op := Go.Op.move (Go.Operand.tmp 14), type := 4, pos := "law.go:81", after := #[], guard := none }) (v := ?v13f1f0) rfl (by kernel_rfl) (by kernel_rfl) (by kernel_rfl) (fun _ _ _ h => h) (Or.inl ⟨by rfl, ?hy13f1f0⟩) hHeld ?rest13f1f0
      case hy13f1f0 => (intro w hSw; (try dsimp only at hSw); obtain ⟨hS0, hS1, hS2⟩ := hSw; go_simp; (first | done | with_reducible rfl))
      try simp only [Act.put, List.setIfInBounds_toArray, List.set_cons_zero, List.set_cons_succ]
      refine wpAnyH_take (i := 1) (oi := { dst := some 54, op := Go.Op.move (Go.Operand.tmp 9), type := 3, pos := "law.go:81", after := #[], guard := none }) (v := ?v14f1f0) rfl (by kernel_rfl) (by kernel_rfl) (by kernel_rfl) (fun _ _ _ h => h) (Or.inl ⟨by rfl, ?hy14f1f0⟩) hHeld ?rest14f1f0
      case hy14f1f0 => (intro w hSw; (try dsimp only at hSw); obtain ⟨hS0, hS1, hS2⟩ := hSw; go_simp; (first | done | with_reducible rfl))
      try simp only [Act.put, List.setIfInBounds_toArray, List.set_cons_zero, List.set_cons_succ]
      refine wpAnyH_take (i := 2) (oi := { dst := some 55, op := Go.Op.binOp Go.BinOp.geq 3 (Go.Operand.tmp 54) (Go.Operand.const (Go.Value.int Go.IntKind.i64 0)) 3, type := 4, pos := "law.go:81", after := #[{ on := 1, ground := Go.Ground.data }], guard := none }) (v := ?v15f1f0) rfl (by kernel_rfl) (by kernel_rfl) (by kernel_rfl) (fun _ _ _ h => h) (Or.inl ⟨by rfl, ?hy15f1f0⟩) hHeld ?rest15f1f0
      case hy15f1f0 => (intro w hSw; (try dsimp only at hSw); obtain ⟨hS0, hS1, hS2⟩ := hSw; go_simp; (first | done | with_reducible rfl))
      try simp only [Act.put, List.setIfInBounds_toArray, List.set_cons_zero, List.set_cons_succ]
      refine wpAnyH_take (i := 3) (oi := { dst := some 56, op := Go.Op.binOp Go.BinOp.neq 4 (Go.Operand.tmp 53) (Go.Operand.tmp 55) 4, type := 4, pos := "law.go:81", after := #[{ on := 0, ground := Go.Ground.data }, { on := 2, ground := Go.Ground.data }], guard := none }) (v := ?v16f1f0) rfl (by kernel_rfl) (by kernel_rfl) (by kernel_rfl) (fun _ _ _ h => h) (Or.inl ⟨by rfl, ?hy16f1f0⟩) hHeld ?rest16f1f0
      case hy16f1f0 => (intro w hSw; (try dsimp only at hSw); obtain ⟨hS0, hS1, hS2⟩ := hSw; go_simp; (first | done | with_reducible rfl))
      try simp only [Act.put, List.setIfInBounds_toArray, List.set_cons_zero, List.set_cons_succ]
      refine wpAnyH_take (i := 4) (oi := { dst := some 57, op := Go.Op.move (Go.Operand.tmp 56), type := 4, pos := "law.go:81", after := #[{ on := 3, ground := Go.Ground.data }], guard := none }) (v := ?v17f1f0) rfl (by kernel_rfl) (by kernel_rfl) (by kernel_rfl) (fun _ _ _ h => h) (Or.inl ⟨by rfl, ?hy17f1f0⟩) hHeld ?rest17f1f0
      case hy17f1f0 => (intro w hSw; (try dsimp only at hSw); obtain ⟨hS0, hS1, hS2⟩ := hSw; go_simp; (first | done | with_reducible rfl))
      try simp only [Act.put, List.setIfInBounds_toArray, List.set_cons_zero, List.set_cons_succ]
      refine wpAnyH_take (i := 5) (oi := { dst := some 58, op := Go.Op.move (Go.Operand.tmp 16), type := 4, pos := "law.go:81", after := #[{ on := 4, ground := Go.Ground.guard }], guard := some (4, false) }) (v := ?v18f1f0) rfl (by kernel_rfl) (by kernel_rfl) (by kernel_rfl) (fun _ _ _ h => h) (Or.inl ⟨by rfl, ?hy18f1f0⟩) hHeld ?rest18f1f0
      case hy18f1f0 => (intro w hSw; (try dsimp only at hSw); obtain ⟨hS0, hS1, hS2⟩ := hSw; go_simp; (first | done | with_reducible rfl))
      try simp only [Act.put, List.setIfInBounds_toArray, List.set_cons_zero, List.set_cons_succ]
      refine wpAnyH_take (i := 6) (oi := { dst := some 59, op := Go.Op.move (Go.Operand.tmp 11), type := 3, pos := "law.go:81", after := #[{ on := 4, ground := Go.Ground.guard }], guard := some (4, false) }) (v := ?v19f1f0) rfl (by kernel_rfl) (by kernel_rfl) (by kernel_rfl) (fun _ _ _ h => h) (Or.inl ⟨by rfl, ?hy19f1f0⟩) hHeld ?rest19f1f0
      case hy19f1f0 => (intro w hSw; (try dsimp only at hSw); obtain ⟨hS0, hS1, hS2⟩ := hSw; go_simp; (first | done | with_reducible rfl))
      try simp only [Act.put, List.setIfInBounds_toArray, List.set_cons_zero, List.set_cons_succ]
      refine wpAnyH_take (i := 7) (oi := { dst := some 60, op := Go.Op.binOp Go.BinOp.geq 3 (Go.Operand.tmp 59) (Go.Operand.const (Go.Value.int Go.IntKind.i64 0)) 3, type := 4, pos := "law.go:81", after := #[{ on := 6, ground := Go.Ground.data }, { on := 4, ground := Go.Ground.guard }], guard := some (4, false) }) (v := .bool true) rfl (by kernel_rfl) (by kernel_rfl) (by kernel_rfl) (fun _ _ _ h => h) (Or.inl ⟨by rfl, ?hy20f1f0⟩) hHeld ?rest20f1f0
      case hy20f1f0 => (intro w hSw; (try dsimp only at hSw); obtain ⟨hS0, hS1, hS2⟩ := hSw; go_simp; try (first | done | (simp [hS0]; done) | (simp [hS1]; done) | (simp [hS2]; done) | (simp; omega) | omega); (first | done | with_reducible rfl))
      try simp only [Act.put, List.setIfInBounds_toArray, List.set_cons_zero, List.set_cons_succ]
      refine wpAnyH_take (i := 8) (oi := { dst := some 61, op := Go.Op.binOp Go.BinOp.neq 4 (Go.Operand.tmp 58) (Go.Operand.tmp 60) 4, type := 4, pos := "law.go:81", after := #[{ on := 5, ground := Go.Ground.data }, { on := 7, ground := Go.Ground.data }, { on := 4, ground := Go.Ground.guard }], guard := some (4, false) }) (v := ?v21f1f0) rfl (by kernel_rfl) (by kernel_rfl) (by kernel_rfl) (fun _ _ _ h => h) (Or.inl ⟨by rfl, ?hy21f1f0⟩) hHeld ?rest21f1f0
      case hy21f1f0 => (intro w hSw; (try dsimp only at hSw); obtain ⟨hS0, hS1, hS2⟩ := hSw; go_simp; (first | done | with_reducible rfl))
      try simp only [Act.put, List.setIfInBounds_toArray, List.set_cons_zero, List.set_cons_succ]
      refine wpAnyH_take (i := 9) (oi := { dst := some 62, op := Go.Op.pick (Go.Operand.tmp 57) (Go.Operand.const (Go.Value.bool true)) (Go.Operand.tmp 61), type := 4, pos := "law.go:81", after := #[{ on := 4, ground := Go.Ground.data }, { on := 8, ground := Go.Ground.data }], guard := none }) (v := ?v22f1f0) rfl (by kernel_rfl) (by kernel_rfl) (by kernel_rfl) (fun _ _ _ h => h) (Or.inl ⟨by rfl, ?hy22f1f0⟩) hHeld ?rest22f1f0
      case hy22f1f0 => (intro w hSw; (try dsimp only at hSw); obtain ⟨hS0, hS1, hS2⟩ := hSw; go_simp; (first | done | with_reducible rfl))
      try simp only [Act.put, List.setIfInBounds_toArray, List.set_cons_zero, List.set_cons_succ]
      refine wpAnyH_take (i := 10) (oi := { dst := some 63, op := Go.Op.move (Go.Operand.tmp 62), type := 4, pos := "law.go:81", after := #[{ on := 9, ground := Go.Ground.data }, { on := 4, ground := Go.Ground.chain }], guard := none }) (v := ?v23f1f0) rfl (by kernel_rfl) (by kernel_rfl) (by kernel_rfl) (fun _ _ _ h => h) (Or.inl ⟨by rfl, ?hy23f1f0⟩) hHeld ?rest23f1f0
      case hy23f1f0 => (intro w hSw; (try dsimp only at hSw); obtain ⟨hS0, hS1, hS2⟩ := hSw; go_simp; (first | done | with_reducible rfl))
      try simp only [Act.put, List.setIfInBounds_toArray, List.set_cons_zero, List.set_cons_succ]
      refine wpAnyH_take (i := 11) (oi := { dst := some 64, op := Go.Op.move (Go.Operand.tmp 14), type := 4, pos := "law.go:81", after := #[{ on := 10, ground := Go.Ground.guard }], guard := some (10, false) }) (v := ?v24f1f0) rfl (by kernel_rfl) (by kernel_rfl) (by kernel_rfl) (fun _ _ _ h => h) (Or.inl ⟨by rfl, ?hy24f1f0⟩) hHeld ?rest24f1f0
      case hy24f1f0 => (intro w hSw; (try dsimp only at hSw); obtain ⟨hS0, hS1, hS2⟩ := hSw; go_simp; (first | done | with_reducible rfl))
      try simp only [Act.put, List.setIfInBounds_toArray, List.set_cons_zero, List.set_cons_succ]
      refine wpAnyH_take (i := 12) (oi := { dst := some 65, op := Go.Op.move (Go.Operand.tmp 64), type := 4, pos := "law.go:81", after := #[{ on := 11, ground := Go.Ground.data }, { on := 10, ground := Go.Ground.chain }, { on := 10, ground := Go.Ground.guard }], guard := some (10, false) }) (v := ?v25f1f0) rfl (by kernel_rfl) (by kernel_rfl) (by kernel_rfl) (fun _ _ _ h => h) (Or.inl ⟨by rfl, ?hy25f1f0⟩) hHeld ?rest25f1f0
      case hy25f1f0 => (intro w hSw; (try dsimp only at hSw); obtain ⟨hS0, hS1, hS2⟩ := hSw; go_simp; (first | done | with_reducible rfl))
      try simp only [Act.put, List.setIfInBounds_toArray, List.set_cons_zero, List.set_cons_succ]
      refine wpAnyH_take (i := 13) (oi := { dst := some 66, op := Go.Op.fieldAddr 49 (Go.Operand.tmp 13) 1, type := 0, pos := "law.go:81", after := #[{ on := 12, ground := Go.Ground.guard }], guard := some (12, true) }) (v := undef) rfl (by kernel_rfl) (by kernel_rfl) (by kernel_rfl) (fun _ _ _ h => h) (Or.inr ⟨by rfl, rfl⟩) hHeld ?_
      try simp only [Act.put, List.setIfInBounds_toArray, List.set_cons_zero, List.set_cons_succ]
      refine wpAnyH_take (i := 14) (oi := { dst := some 67, op := Go.Op.load 47 (Go.Operand.tmp 66), type := 47, pos := "law.go:81", after := #[{ on := 13, ground := Go.Ground.data }, { on := 12, ground := Go.Ground.guard }], guard := some (12, true) }) (v := undef) rfl (by kernel_rfl) (by kernel_rfl) (by kernel_rfl) (fun _ _ _ h => h) (Or.inr ⟨by rfl, rfl⟩) hHeld ?_
      try simp only [Act.put, List.setIfInBounds_toArray, List.set_cons_zero, List.set_cons_succ]
      refine wpAnyH_take (i := 15) (oi := { dst := some 68, op := Go.Op.call { callee := Go.Callee.value (Go.Operand.func 22), args := #[Go.Operand.tmp 67, Go.Operand.const (Go.Value.int Go.IntKind.i64 0)], argTypes := #[47, 3] }, type := 75, pos := "law.go:81", after := #[{ on := 14, ground := Go.Ground.data }, { on := 12, ground := Go.Ground.chain }, { on := 12, ground := Go.Ground.guard }], guard := some (12, true) }) (v := undef) rfl (by kernel_rfl) (by kernel_rfl) (by kernel_rfl) (fun _ _ _ h => h) (Or.inr ⟨by rfl, rfl⟩) hHeld ?_
      try simp only [Act.put, List.setIfInBounds_toArray, List.set_cons_zero, List.set_cons_succ]
      refine wpAnyH_take (i := 16) (oi := { dst := some 69, op := Go.Op.move (Go.Operand.tmp 9), type := 3, pos := "law.go:81", after := #[{ on := 12, ground := Go.Ground.guard }], guard := some (12, true) }) (v := undef) rfl (by kernel_rfl) (by kernel_rfl) (by kernel_rfl) (fun _ _ _ h => h) (Or.inr ⟨by rfl, rfl⟩) hHeld ?_
      try simp only [Act.put, List.setIfInBounds_toArray, List.set_cons_zero, List.set_cons_succ]
      refine wpAnyH_take (i := 17) (oi := { dst := some 70, op := Go.Op.convert 3 75 (Go.Operand.tmp 69), type := 75, pos := "law.go:81", after := #[{ on := 16, ground := Go.Ground.data }, { on := 12, ground := Go.Ground.guard }], guard := some (12, true) }) (v := undef) rfl (by kernel_rfl) (by kernel_rfl) (by kernel_rfl) (fun _ _ _ h => h) (Or.inr ⟨by rfl, rfl⟩) hHeld ?_
      try simp only [Act.put, List.setIfInBounds_toArray, List.set_cons_zero, List.set_cons_succ]
      refine wpAnyH_take (i := 18) (oi := { dst := some 71, op := Go.Op.binOp Go.BinOp.neq 75 (Go.Operand.tmp 68) (Go.Operand.tmp 70) 75, type := 4, pos := "law.go:81", after := #[{ on := 15, ground := Go.Ground.data }, { on := 17, ground := Go.Ground.data }, { on := 12, ground := Go.Ground.guard }], guard := some (12, true) }) (v := undef) rfl (by kernel_rfl) (by kernel_rfl) (by kernel_rfl) (fun _ _ _ h => h) (Or.inr ⟨by rfl, rfl⟩) hHeld ?_
      try simp only [Act.put, List.setIfInBounds_toArray, List.set_cons_zero, List.set_cons_succ]
      refine wpAnyH_take (i := 19) (oi := { dst := some 72, op := Go.Op.pick (Go.Operand.tmp 65) (Go.Operand.tmp 71) (Go.Operand.const (Go.Value.bool false)), type := 4, pos := "law.go:81", after := #[{ on := 12, ground := Go.Ground.data }, { on := 18, ground := Go.Ground.data }, { on := 10, ground := Go.Ground.guard }], guard := some (10, false) }) (v := ?v32f1f0) rfl (by kernel_rfl) (by kernel_rfl) (by kernel_rfl) (fun _ _ _ h => h) (Or.inl ⟨by rfl, ?hy32f1f0⟩) hHeld ?rest32f1f0
      case hy32f1f0 => (intro w hSw; (try dsimp only at hSw); obtain ⟨hS0, hS1, hS2⟩ := hSw; go_simp; (first | done | with_reducible rfl))
      try simp only [Act.put, List.setIfInBounds_toArray, List.set_cons_zero, List.set_cons_succ]
      refine wpAnyH_take (i := 20) (oi := { dst := some 73, op := Go.Op.pick (Go.Operand.tmp 63) (Go.Operand.const (Go.Value.bool true)) (Go.Operand.tmp 72), type := 4, pos := "law.go:81", after := #[{ on := 10, ground := Go.Ground.data }, { on := 19, ground := Go.Ground.data }], guard := none }) (v := ?v33f1f0) rfl (by kernel_rfl) (by kernel_rfl) (by kernel_rfl) (fun _ _ _ h => h) (Or.inl ⟨by rfl, ?hy33f1f0⟩) hHeld ?rest33f1f0
      case hy33f1f0 => (intro w hSw; (try dsimp only at hSw); obtain ⟨hS0, hS1, hS2⟩ := hSw; go_simp; (first | done | with_reducible rfl))
      try simp only [Act.put, List.setIfInBounds_toArray, List.set_cons_zero, List.set_cons_succ]
      refine wpAnyH_take (i := 21) (oi := { dst := some 74, op := Go.Op.move (Go.Operand.tmp 73), type := 4, pos := "law.go:81", after := #[{ on := 20, ground := Go.Ground.data }, { on := 15, ground := Go.Ground.chain }], guard := none }) (v := ?v34f1f0) rfl (by kernel_rfl) (by kernel_rfl) (by kernel_rfl) (fun _ _ _ h => h) (Or.inl ⟨by rfl, ?hy34f1f0⟩) hHeld ?rest34f1f0
      case hy34f1f0 => (intro w hSw; (try dsimp only at hSw); obtain ⟨hS0, hS1, hS2⟩ := hSw; go_simp; (first | done | with_reducible rfl))
      try simp only [Act.put, List.setIfInBounds_toArray, List.set_cons_zero, List.set_cons_succ]
      refine wpAnyH_take (i := 22) (oi := { dst := some 75, op := Go.Op.move (Go.Operand.tmp 16), type := 4, pos := "law.go:81", after := #[{ on := 21, ground := Go.Ground.guard }], guard := some (21, false) }) (v := ?v35f1f0) rfl (by kernel_rfl) (by kernel_rfl) (by kernel_rfl) (fun _ _ _ h => h) (Or.inl ⟨by rfl, ?hy35f1f0⟩) hHeld ?rest35f1f0
      case hy35f1f0 => (intro w hSw; (try dsimp only at hSw); obtain ⟨hS0, hS1, hS2⟩ := hSw; go_simp; (first | done | with_reducible rfl))
      try simp only [Act.put, List.setIfInBounds_toArray, List.set_cons_zero, List.set_cons_succ]
      refine wpAnyH_take (i := 23) (oi := { dst := some 76, op := Go.Op.move (Go.Operand.tmp 75), type := 4, pos := "law.go:81", after := #[{ on := 22, ground := Go.Ground.data }, { on := 21, ground := Go.Ground.chain }, { on := 21, ground := Go.Ground.guard }], guard := some (21, false) }) (v := ?v36f1f0) rfl (by kernel_rfl) (by kernel_rfl) (by kernel_rfl) (fun _ _ _ h => h) (Or.inl ⟨by rfl, ?hy36f1f0⟩) hHeld ?rest36f1f0
      case hy36f1f0 => (intro w hSw; (try dsimp only at hSw); obtain ⟨hS0, hS1, hS2⟩ := hSw; go_simp; (first | done | with_reducible rfl))
      try simp only [Act.put, List.setIfInBounds_toArray, List.set_cons_zero, List.set_cons_succ]
      refine wpAnyH_take (i := 24) (oi := { dst := some 77, op := Go.Op.fieldAddr 66 (Go.Operand.tmp 15) 0, type := 0, pos := "law.go:81", after := #[{ on := 23, ground := Go.Ground.guard }], guard := some (23, true) }) (v := ?v37f1f0) rfl (by kernel_rfl) (by kernel_rfl) (by kernel_rfl) (fun _ _ _ h => h) (Or.inl ⟨by rfl, ?hy37f1f0⟩) hHeld ?rest37f1f0
      case hy37f1f0 => (intro w hSw; (try dsimp only at hSw); obtain ⟨hS0, hS1, hS2⟩ := hSw; go_simp; (first | done | with_reducible rfl))
      try simp only [Act.put, List.setIfInBounds_toArray, List.set_cons_zero, List.set_cons_succ]
      refine wpAnyH_take (i := 25) (oi := { dst := some 78, op := Go.Op.fieldAddr 54 (Go.Operand.tmp 77) 5, type := 0, pos := "law.go:81", after := #[{ on := 24, ground := Go.Ground.data }, { on := 23, ground := Go.Ground.guard }], guard := some (23, true) }) (v := ?v38f1f0) rfl (by kernel_rfl) (by kernel_rfl) (by kernel_rfl) (fun _ _ _ h => h) (Or.inl ⟨by rfl, ?hy38f1f0⟩) hHeld ?rest38f1f0
      case hy38f1f0 => (intro w hSw; (try dsimp only at hSw); obtain ⟨hS0, hS1, hS2⟩ := hSw; go_simp; (first | done | with_reducible rfl))
      try simp only [Act.put, List.setIfInBounds_toArray, List.set_cons_zero, List.set_cons_succ]
      refine wpAnyH_take (i := 26) (oi := { dst := some 79, op := Go.Op.load 21 (Go.Operand.tmp 78), type := 21, pos := "law.go:81", after := #[{ on := 25, ground := Go.Ground.data }, { on := 23, ground := Go.Ground.guard }], guard := some (23, true) }) (v := .int .i32 z2) rfl (by kernel_rfl) (by kernel_rfl) (by kernel_rfl) (fun _ _ _ h => h) (Or.inl ⟨by rfl, ?hy39f1f0⟩) hHeld ?rest39f1f0
      case hy39f1f0 => (intro w hSw; (try dsimp only at hSw); obtain ⟨hS0, hS1, hS2⟩ := hSw; go_simp; try (first | done | (simp [hS0]; done) | (simp [hS1]; done) | (simp [hS2]; done) | (simp; omega) | omega); (first | done | with_reducible rfl))
      try simp only [Act.put, List.setIfInBounds_toArray, List.set_cons_zero, List.set_cons_succ]
      refine wpAnyH_take (i := 27) (oi := { dst := some 80, op := Go.Op.convert 21 3 (Go.Operand.tmp 79), type := 3, pos := "law.go:81", after := #[{ on := 26, ground := Go.Ground.data }, { on := 23, ground := Go.Ground.guard }], guard := some (23, true) }) (v := .int .i64 z2) rfl (by kernel_rfl) (by kernel_rfl) (by kernel_rfl) (fun _ _ _ h => h) (Or.inl ⟨by rfl, ?hy40f1f0⟩) hHeld ?rest40f1f0
      case hy40f1f0 => (intro w hSw; (try dsimp only at hSw); obtain ⟨hS0, hS1, hS2⟩ := hSw; go_simp; try (first | done | exact wrap_small (by omega) (by omega) | (rw [wrap_small (by omega) (by omega)]; done)); (first | done | with_reducible rfl))
      try simp only [Act.put, List.setIfInBounds_toArray, List.set_cons_zero, List.set_cons_succ]
      refine wpAnyH_take (i := 28) (oi := { dst := some 81, op := Go.Op.move (Go.Operand.tmp 11), type := 3, pos := "law.go:81", after := #[{ on := 23, ground := Go.Ground.guard }], guard := some (23, true) }) (v := ?v41f1f0) rfl (by kernel_rfl) (by kernel_rfl) (by kernel_rfl) (fun _ _ _ h => h) (Or.inl ⟨by rfl, ?hy41f1f0⟩) hHeld ?rest41f1f0
      case hy41f1f0 => (intro w hSw; (try dsimp only at hSw); obtain ⟨hS0, hS1, hS2⟩ := hSw; go_simp; (first | done | with_reducible rfl))
      try simp only [Act.put, List.setIfInBounds_toArray, List.set_cons_zero, List.set_cons_succ]
      refine wpAnyH_take (i := 29) (oi := { dst := some 82, op := Go.Op.binOp Go.BinOp.neq 3 (Go.Operand.tmp 80) (Go.Operand.tmp 81) 3, type := 4, pos := "law.go:81", after := #[{ on := 27, ground := Go.Ground.data }, { on := 28, ground := Go.Ground.data }, { on := 23, ground := Go.Ground.guard }], guard := some (23, true) }) (v := .bool false) rfl (by kernel_rfl) (by kernel_rfl) (by kernel_rfl) (fun _ _ _ h => h) (Or.inl ⟨by rfl, ?hy42f1f0⟩) hHeld ?rest42f1f0
      case hy42f1f0 => (intro w hSw; (try dsimp only at hSw); obtain ⟨hS0, hS1, hS2⟩ := hSw; go_simp; try (first | done | (simp [hS0]; done) | (simp [hS1]; done) | (simp [hS2]; done) | (simp; omega) | omega); (first | done | with_reducible rfl))
      try simp only [Act.put, List.setIfInBounds_toArray, List.set_cons_zero, List.set_cons_succ]
      refine wpAnyH_take (i := 30) (oi := { dst := some 83, op := Go.Op.move (Go.Operand.tmp 82), type := 4, pos := "law.go:81", after := #[{ on := 29, ground := Go.Ground.data }, { on := 23, ground := Go.Ground.chain }, { on := 23, ground := Go.Ground.guard }], guard := some (23, true) }) (v := ?v43f1f0) rfl (by kernel_rfl) (by kernel_rfl) (by kernel_rfl) (fun _ _ _ h => h) (Or.inl ⟨by rfl, ?hy43f1f0⟩) hHeld ?rest43f1f0
      case hy43f1f0 => (intro w hSw; (try dsimp only at hSw); obtain ⟨hS0, hS1, hS2⟩ := hSw; go_simp; (first | done | with_reducible rfl))
      try simp only [Act.put, List.setIfInBounds_toArray, List.set_cons_zero, List.set_cons_succ]
      refine wpAnyH_take (i := 31) (oi := { dst := some 84, op := Go.Op.fieldAddr 66 (Go.Operand.tmp 15) 1, type := 0, pos := "law.go:81", after := #[{ on := 30, ground := Go.Ground.guard }], guard := some (30, false) }) (v := ?v44f1f0) rfl (by kernel_rfl) (by kernel_rfl) (by kernel_rfl) (fun _ _ _ h => h) (Or.inl ⟨by rfl, ?hy44f1f0⟩) hHeld ?rest44f1f0
      case hy44f1f0 => (intro w hSw; (try dsimp only at hSw); obtain ⟨hS0, hS1, hS2⟩ := hSw; go_simp; (first | done | with_reducible rfl))
      try simp only [Act.put, List.setIfInBounds_toArray, List.set_cons_zero, List.set_cons_succ]
      refine wpAnyH_take (i := 32) (oi := { dst := some 85, op := Go.Op.load 24 (Go.Operand.tmp 84), type := 24, pos := "law.go:81", after := #[{ on := 31, ground := Go.Ground.data }, { on := 30, ground := Go.Ground.guard }], guard := some (30, false) }) (v := .pointer (some ⟨bt, 0, none⟩)) rfl (by kernel_rfl) (by kernel_rfl) (by kernel_rfl) (fun _ _ _ h => h) (Or.inl ⟨by rfl, ?hy45f1f0⟩) hHeld ?rest45f1f0
      case hy45f1f0 => (intro w hSw; (try dsimp only at hSw); obtain ⟨hS0, hS1, hS2⟩ := hSw; go_simp; try (first | done | (simp [hS0]; done) | (simp [hS1]; done) | (simp [hS2]; done) | (simp; omega) | omega); (first | done | with_reducible rfl))
      try simp only [Act.put, List.setIfInBounds_toArray, List.set_cons_zero, List.set_cons_succ]
      refine wpAnyH_take (i := 33) (oi := { dst := some 86, op := Go.Op.move (Go.Operand.tmp 0), type := 26, pos := "law.go:81", after := #[{ on := 30, ground := Go.Ground.guard }], guard := some (30, false) }) (v := ?v46f1f0) rfl (by kernel_rfl) (by kernel_rfl) (by kernel_rfl) (fun _ _ _ h => h) (Or.inl ⟨by rfl, ?hy46f1f0⟩) hHeld ?rest46f1f0
      case hy46f1f0 => (intro w hSw; (try dsimp only at hSw); obtain ⟨hS0, hS1, hS2⟩ := hSw; go_simp; (first | done | with_reducible rfl))
      try simp only [Act.put, List.setIfInBounds_toArray, List.set_cons_zero, List.set_cons_succ]
      refine wpAnyH_take (i := 34) (oi := { dst := some 87, op := Go.Op.move (Go.Operand.tmp 12), type := 3, pos := "law.go:81", after := #[{ on := 30, ground := Go.Ground.guard }], guard := some (30, false) }) (v := ?v47f1f0) rfl (by kernel_rfl) (by kernel_rfl) (by kernel_rfl) (fun _ _ _ h => h) (Or.inl ⟨by rfl, ?hy47f1f0⟩) hHeld ?rest47f1f0
      case hy47f1f0 => (intro w hSw; (try dsimp only at hSw); obtain ⟨hS0, hS1, hS2⟩ := hSw; go_simp; (first | done | with_reducible rfl))
      try simp only [Act.put, List.setIfInBounds_toArray, List.set_cons_zero, List.set_cons_succ]
      refine wpAnyH_take (i := 35) (oi := { dst := some 88, op := Go.Op.indexAddr 26 (Go.Operand.tmp 86) (Go.Operand.tmp 87), type := 0, pos := "law.go:81", after := #[{ on := 33, ground := Go.Ground.data }, { on := 34, ground := Go.Ground.data }, { on := 30, ground := Go.Ground.guard }], guard := some (30, false) }) (v := .pointer (some (al.add i))) rfl (by kernel_rfl) (by kernel_rfl) (by kernel_rfl) (fun _ _ _ h => h) (Or.inl ⟨by rfl, ?hy48f1f0⟩) hHeld ?rest48f1f0
      case hy48f1f0 => (intro w hSw; (try dsimp only at hSw); obtain ⟨hS0, hS1, hS2⟩ := hSw; go_simp; try (first | done | (intro hk3; exfalso; omega) | (rw [if_pos]; omega) | (simp; omega)); (first | done | with_reducible rfl))
      try simp only [Act.put, List.setIfInBounds_toArray, List.set_cons_zero, List.set_cons_succ]
      refine wpAnyH_take (i := 36) (oi := { dst := some 89, op := Go.Op.load 24 (Go.Operand.tmp 88), type := 24, pos := "law.go:81", after := #[{ on := 35, ground := Go.Ground.data }, { on := 30, ground := Go.Ground.guard }], guard := some (30, false) }) (v := .pointer (some ⟨bt, 0, none⟩)) rfl (by kernel_rfl) (by kernel_rfl) (by kernel_rfl) (fun _ _ _ h => h) (Or.inl ⟨by rfl, ?hy49f1f0⟩) hHeld ?rest49f1f0
      case hy49f1f0 => (intro w hSw; (try dsimp only at hSw); obtain ⟨hS0, hS1, hS2⟩ := hSw; go_simp; try (first | done | (simp [hS0]; done) | (simp [hS1]; done) | (simp [hS2]; done) | (simp; omega) | omega); (first | done | with_reducible rfl))
      try simp only [Act.put, List.setIfInBounds_toArray, List.set_cons_zero, List.set_cons_succ]
      refine wpAnyH_take (i := 37) (oi := { dst := some 90, op := Go.Op.binOp Go.BinOp.neq 24 (Go.Operand.tmp 85) (Go.Operand.tmp 89) 24, type := 4, pos := "law.go:81", after := #[{ on := 32, ground := Go.Ground.data }, { on := 36, ground := Go.Ground.data }, { on := 30, ground := Go.Ground.guard }], guard := some (30, false) }) (v := .bool false) rfl (by kernel_rfl) (by kernel_rfl) (by kernel_rfl) (fun _ _ _ h => h) (Or.inl ⟨by rfl, ?hy50f1f0⟩) hHeld ?rest50f1f0
      case hy50f1f0 => (intro w hSw; (try dsimp only at hSw); obtain ⟨hS0, hS1, hS2⟩ := hSw; go_simp; try (first | done | (simp [neq_env]; done) | (rw [neq_env]; rfl)); (first | done | with_reducible rfl))
      try simp only [Act.put, List.setIfInBounds_toArray, List.set_cons_zero, List.set_cons_succ]
      refine wpAnyH_take (i := 38) (oi := { dst := some 91, op := Go.Op.pick (Go.Operand.tmp 83) (Go.Operand.const (Go.Value.bool true)) (Go.Operand.tmp 90), type := 4, pos := "law.go:81", after := #[{ on := 30, ground := Go.Ground.data }, { on := 37, ground := Go.Ground.data }, { on := 23, ground := Go.Ground.guard }], guard := some (23, true) }) (v := ?v51f1f0) rfl (by kernel_rfl) (by kernel_rfl) (by kernel_rfl) (fun _ _ _ h => h) (Or.inl ⟨by rfl, ?hy51f1f0⟩) hHeld ?rest51f1f0
      case hy51f1f0 => (intro w hSw; (try dsimp only at hSw); obtain ⟨hS0, hS1, hS2⟩ := hSw; go_simp; (first | done | with_reducible rfl))
      try simp only [Act.put, List.setIfInBounds_toArray, List.set_cons_zero, List.set_cons_succ]
      refine wpAnyH_take (i := 39) (oi := { dst := some 92, op := Go.Op.pick (Go.Operand.tmp 76) (Go.Operand.tmp 91) (Go.Operand.const (Go.Value.bool false)), type := 4, pos := "law.go:81", after := #[{ on := 23, ground := Go.Ground.data }, { on := 38, ground := Go.Ground.data }, { on := 21, ground := Go.Ground.guard }], guard := some (21, false) }) (v := ?v52f1f0) rfl (by kernel_rfl) (by kernel_rfl) (by kernel_rfl) (fun _ _ _ h => h) (Or.inl ⟨by rfl, ?hy52f1f0⟩) hHeld ?rest52f1f0
      case hy52f1f0 => (intro w hSw; (try dsimp only at hSw); obtain ⟨hS0, hS1, hS2⟩ := hSw; go_simp; (first | done | with_reducible rfl))
      try simp only [Act.put, List.setIfInBounds_toArray, List.set_cons_zero, List.set_cons_succ]
      refine wpAnyH_take (i := 40) (oi := { dst := some 93, op := Go.Op.pick (Go.Operand.tmp 74) (Go.Operand.const (Go.Value.bool true)) (Go.Operand.tmp 92), type := 4, pos := "law.go:81", after := #[{ on := 21, ground := Go.Ground.data }, { on := 39, ground := Go.Ground.data }], guard := none }) (v := ?v53f1f0) rfl (by kernel_rfl) (by kernel_rfl) (by kernel_rfl) (fun _ _ _ h => h) (Or.inl ⟨by rfl, ?hy53f1f0⟩) hHeld ?rest53f1f0
      case hy53f1f0 => (intro w hSw; (try dsimp only at hSw); obtain ⟨hS0, hS1, hS2⟩ := hSw; go_simp; (first | done | with_reducible rfl))
      try simp only [Act.put, List.setIfInBounds_toArray, List.set_cons_zero, List.set_cons_succ]
      refine wpAnyH_done (by kernel_rfl) ?_ _
      generalize s9.drew = wd54 at *
      go_wp2_with fail
      try simp only [Act.put, List.setIfInBounds_toArray, List.set_cons_zero, List.set_cons_succ]
      apply joinK0 (F := fun (wS7 : World) => wd54.heap.size ≤ wS7.heap.size ∧ Ext w wS7 ∧ Lay 9 wS7 B13 v ∧ Lay 8 wS7 B15 (.agg #[.int .i64 13, .int .i64 0, .slice none 0 0, .slice none 0 0, .string ByteArray.empty, .int .i32 z2, .slice none 0 0, .pointer (some ⟨bt, 0, none⟩)]) ∧ wS7.cell? (al.add k) = some (.pointer (some ⟨b, 0, none⟩)) ∧ wS7.cell? (ar.add (k * 2)) = some (.slice A n c) ∧ wS7.cell? ⟨(ar.add (k * 2)).block, (ar.add (k * 2)).off + 1, none⟩ = some (.slice A2 n2 c2))
      · intro J
        refine J wd54 ?_
        exact ⟨Nat.le_refl _, E, LB13, LB15, L0, R0, R1⟩
      intro wS7 hJS
      clear E L0 R0 R1 LB13 Lj LB15 cB15_5 cB15_7
      refine wp_region_held_drew (S := (fun w' => w'.cell? (al.add k) = some (.pointer (some ⟨b, 0, none⟩)) ∧ w'.cell? (ar.add (k * 2)) = some (.slice A n c) ∧ w'.cell? ⟨(ar.add (k * 2)).block, (ar.add (k * 2)).off + 1, none⟩ = some (.slice A2 n2 c2))) (by kernel_rfl) (by obtain ⟨z57, E, LB13, LB15, L0, R0, R1⟩ := hJS; exact ⟨(L0), (R0), (R1)⟩) (fun hH0 => ?_)
      apply joinK8 (F := fun (wD7_0 : World) (NA1 : Option Addr) (nc1 : Nat) (MA1 : Option Addr) (mc1 : Nat) (NA2 : Option Addr) (nc2 : Nat) (MA2 : Option Addr) (mc2 : Nat) => wS7.heap.size ≤ wD7_0.heap.size ∧ Ext w wD7_0 ∧ Lay 9 wD7_0 B13 v ∧ Lay 8 wD7_0 B15 (.agg #[.int .i64 13, .int .i64 0, .slice none 0 0, .slice none 0 0, .string ByteArray.empty, .int .i32 z2, .slice none 0 0, .pointer (some ⟨bt, 0, none⟩)]))
      intro JD7_0
      · have hJQ := hJS
        obtain ⟨z57, E, LB13, LB15, L0, R0, R1⟩ := hJQ
        have hq58 : wS7.heap.size ≤ wS7.drew.heap.size := Nat.le_refl _
        have z59 := (Ext.refl wS7).drew.size
        replace E := E.trans (Ext.refl wS7).drew
        replace LB13 := LB13.ext (Ext.refl wS7).drew
        replace LB15 := LB15.ext (Ext.refl wS7).drew
        replace L0 := cell_ext ((Ext.refl wS7).drew) L0
        replace R0 := cell_ext ((Ext.refl wS7).drew) R0
        replace R1 := cell_ext ((Ext.refl wS7).drew) R1
        have hHeld := And.intro (L0) (And.intro (R0) ((R1)))
        refine wpAnyH_take (i := 0) (oi := { dst := some 94, op := Go.Op.move (Go.Operand.tmp 0), type := 26, pos := "law.go:84", after := #[], guard := none }) (v := ?v60f1f0) rfl (by kernel_rfl) (by kernel_rfl) (by kernel_rfl) (fun _ _ _ h => h) (Or.inl ⟨by rfl, ?hy60f1f0⟩) hHeld ?rest60f1f0
        case hy60f1f0 => (intro w hSw; (try dsimp only at hSw); obtain ⟨hS0, hS1, hS2⟩ := hSw; go_simp; (first | done | with_reducible rfl))
        try simp only [Act.put, List.setIfInBounds_toArray, List.set_cons_zero, List.set_cons_succ]
        refine wpAnyH_take (i := 1) (oi := { dst := some 95, op := Go.Op.move (Go.Operand.tmp 2), type := 3, pos := "law.go:84", after := #[], guard := none }) (v := ?v61f1f0) rfl (by kernel_rfl) (by kernel_rfl) (by kernel_rfl) (fun _ _ _ h => h) (Or.inl ⟨by rfl, ?hy61f1f0⟩) hHeld ?rest61f1f0
        case hy61f1f0 => (intro w hSw; (try dsimp only at hSw); obtain ⟨hS0, hS1, hS2⟩ := hSw; go_simp; (first | done | with_reducible rfl))
        try simp only [Act.put, List.setIfInBounds_toArray, List.set_cons_zero, List.set_cons_succ]
        refine wpAnyH_take (i := 2) (oi := { dst := some 96, op := Go.Op.indexAddr 26 (Go.Operand.tmp 94) (Go.Operand.tmp 95), type := 0, pos := "law.go:84", after := #[{ on := 0, ground := Go.Ground.data }, { on := 1, ground := Go.Ground.data }], guard := none }) (v := .pointer (some (al.add k))) rfl (by kernel_rfl) (by kernel_rfl) (by kernel_rfl) (fun _ _ _ h => h) (Or.inl ⟨by rfl, ?hy62f1f0⟩) hHeld ?rest62f1f0
        case hy62f1f0 => (intro w hSw; (try dsimp only at hSw); obtain ⟨hS0, hS1, hS2⟩ := hSw; go_simp; try (first | done | (intro hk3; exfalso; omega) | (rw [if_pos]; omega) | (simp; omega)); (first | done | with_reducible rfl))
        try simp only [Act.put, List.setIfInBounds_toArray, List.set_cons_zero, List.set_cons_succ]
        refine wpAnyH_take (i := 3) (oi := { dst := some 97, op := Go.Op.load 24 (Go.Operand.tmp 96), type := 24, pos := "law.go:84", after := #[{ on := 2, ground := Go.Ground.data }], guard := none }) (v := .pointer (some ⟨b, 0, none⟩)) rfl (by kernel_rfl) (by kernel_rfl) (by kernel_rfl) (fun _ _ _ h => h) (Or.inl ⟨by rfl, ?hy63f1f0⟩) hHeld ?rest63f1f0
        case hy63f1f0 => (intro w hSw; (try dsimp only at hSw); obtain ⟨hS0, hS1, hS2⟩ := hSw; go_simp; try (first | done | (simp [hS0]; done) | (simp [hS1]; done) | (simp [hS2]; done) | (simp; omega) | omega); (first | done | with_reducible rfl))
        try simp only [Act.put, List.setIfInBounds_toArray, List.set_cons_zero, List.set_cons_succ]
        refine wpAnyH_take (i := 5) (oi := { dst := some 99, op := Go.Op.move (Go.Operand.tmp 1), type := 27, pos := "law.go:84", after := #[], guard := none }) (v := ?v64f1f0) rfl (by kernel_rfl) (by kernel_rfl) (by kernel_rfl) (fun _ _ _ h => h) (Or.inl ⟨by rfl, ?hy64f1f0⟩) hHeld ?rest64f1f0
        case hy64f1f0 => (intro w hSw; (try dsimp only at hSw); obtain ⟨hS0, hS1, hS2⟩ := hSw; go_simp; (first | done | with_reducible rfl))
        try simp only [Act.put, List.setIfInBounds_toArray, List.set_cons_zero, List.set_cons_succ]
        refine wpAnyH_take (i := 6) (oi := { dst := some 100, op := Go.Op.move (Go.Operand.tmp 2), type := 3, pos := "law.go:84", after := #[], guard := none }) (v := ?v65f1f0) rfl (by kernel_rfl) (by kernel_rfl) (by kernel_rfl) (fun _ _ _ h => h) (Or.inl ⟨by rfl, ?hy65f1f0⟩) hHeld ?rest65f1f0
        case hy65f1f0 => (intro w hSw; (try dsimp only at hSw); obtain ⟨hS0, hS1, hS2⟩ := hSw; go_simp; (first | done | with_reducible rfl))
        try simp only [Act.put, List.setIfInBounds_toArray, List.set_cons_zero, List.set_cons_succ]
        refine wpAnyH_take (i := 7) (oi := { dst := some 101, op := Go.Op.indexAddr 27 (Go.Operand.tmp 99) (Go.Operand.tmp 100), type := 0, pos := "law.go:84", after := #[{ on := 5, ground := Go.Ground.data }, { on := 6, ground := Go.Ground.data }], guard := none }) (v := .pointer (some (ar.add (k * 2)))) rfl (by kernel_rfl) (by kernel_rfl) (by kernel_rfl) (fun _ _ _ h => h) (Or.inl ⟨by rfl, ?hy66f1f0⟩) hHeld ?rest66f1f0
        case hy66f1f0 => (intro w hSw; (try dsimp only at hSw); obtain ⟨hS0, hS1, hS2⟩ := hSw; go_simp; try (first | done | (intro hk3; exfalso; omega) | (rw [if_pos]; omega) | (simp; omega)); (first | done | with_reducible rfl))
        try simp only [Act.put, List.setIfInBounds_toArray, List.set_cons_zero, List.set_cons_succ]
        refine wpAnyH_take (i := 8) (oi := { dst := some 102, op := Go.Op.fieldAddr 33 (Go.Operand.tmp 101) 0, type := 0, pos := "law.go:84", after := #[{ on := 7, ground := Go.Ground.data }], guard := none }) (v := ?v67f1f0) rfl (by kernel_rfl) (by kernel_rfl) (by kernel_rfl) (fun _ _ _ h => h) (Or.inl ⟨by rfl, ?hy67f1f0⟩) hHeld ?rest67f1f0
        case hy67f1f0 => (intro w hSw; (try dsimp only at hSw); obtain ⟨hS0, hS1, hS2⟩ := hSw; go_simp; (first | done | with_reducible rfl))
        try simp only [Act.put, List.setIfInBounds_toArray, List.set_cons_zero, List.set_cons_succ]
        refine wpAnyH_take (i := 9) (oi := { dst := some 103, op := Go.Op.load 31 (Go.Operand.tmp 102), type := 31, pos := "law.go:84", after := #[{ on := 8, ground := Go.Ground.data }], guard := none }) (v := .slice A n c) rfl (by kernel_rfl) (by kernel_rfl) (by kernel_rfl) (fun _ _ _ h => h) (Or.inl ⟨by rfl, ?hy68f1f0⟩) hHeld ?rest68f1f0
        case hy68f1f0 => (intro w hSw; (try dsimp only at hSw); obtain ⟨hS0, hS1, hS2⟩ := hSw; go_simp; try (first | done | (simp [hS0]; done) | (simp [hS1]; done) | (simp [hS2]; done) | (simp; omega) | omega); (first | done | with_reducible rfl))
        try simp only [Act.put, List.setIfInBounds_toArray, List.set_cons_zero, List.set_cons_succ]
        refine wpAnyH_ready (rs := [4]) (by kernel_rfl) (by simp) ?_
        refine AllReadyH.cons (o := agr_7_4) rfl (fun K hK => ?_) (AllReadyH.nil)
        dsimp only [agr_7_4]
        go_simp
        refine (cN _ E).mono ?_
        rintro e w98 ⟨NA1, nc1, rfl, HQ1, x⟩
        have z69 := x.size
        replace E := E.trans x
        replace LB13 := LB13.ext x
        replace LB15 := LB15.ext x
        replace L0 := cell_ext (x) L0
        replace R0 := cell_ext (x) R0
        replace R1 := cell_ext (x) R1
        clear x
        clear hHeld
        have hHeld := And.intro (L0) (And.intro (R0) ((R1)))
        refine hK.out _ _ hHeld (fun _ => ?_)
        clear hK K
        try simp only [Act.put, List.setIfInBounds_toArray, List.set_cons_zero, List.set_cons_succ]
        refine wpAnyH_ready (rs := [10]) (by kernel_rfl) (by simp) ?_
        refine AllReadyH.cons (o := agr_7_10) rfl (fun K hK => ?_) (AllReadyH.nil)
        dsimp only [agr_7_10]
        go_simp
        refine (cM _ E).mono ?_
        rintro e w104 ⟨MA1, mc1, rfl, HQ2, x⟩
        have z70 := x.size
        replace E := E.trans x
        replace LB13 := LB13.ext x
        replace LB15 := LB15.ext x
        replace L0 := cell_ext (x) L0
        replace R0 := cell_ext (x) R0
        replace R1 := cell_ext (x) R1
        replace HQ1 := HQ1.ext x
        clear x
        clear hHeld
        have hHeld := And.intro (L0) (And.intro (R0) ((R1)))
        refine hK.out _ _ hHeld (fun _ => ?_)
        clear hK K
        try simp only [Act.put, List.setIfInBounds_toArray, List.set_cons_zero, List.set_cons_succ]
        refine wpAnyH_ready (rs := [11]) (by kernel_rfl) (by simp) ?_
        refine AllReadyH.cons (o := agr_7_11) rfl (fun K hK => ?_) (AllReadyH.nil)
        dsimp only [agr_7_11]
        go_simp
        refine (cT _ _ _ _ _ HQ1.is HQ2.is).mono ?_
        rintro e w105 ⟨rfl, x⟩
        have z71 := x.size
        replace E := E.trans x
        replace LB13 := LB13.ext x
        replace LB15 := LB15.ext x
        replace L0 := cell_ext (x) L0
        replace R0 := cell_ext (x) R0
        replace R1 := cell_ext (x) R1
        replace HQ1 := HQ1.ext x
        replace HQ2 := HQ2.ext x
        clear x
        clear hHeld
        have hHeld := And.intro (L0) (And.intro (R0) ((R1)))
        refine hK.out _ _ hHeld (fun _ => ?_)
        clear hK K
        try simp only [Act.put, List.setIfInBounds_toArray, List.set_cons_zero, List.set_cons_succ]
        refine wpAnyH_take (i := 12) (oi := { dst := some 106, op := Go.Op.move (Go.Operand.tmp 105), type := 4, pos := "law.go:84", after := #[{ on := 11, ground := Go.Ground.data }, { on := 11, ground := Go.Ground.chain }], guard := none }) (v := ?v72f1f0) rfl (by kernel_rfl) (by kernel_rfl) (by kernel_rfl) (fun _ _ _ h => h) (Or.inl ⟨by rfl, ?hy72f1f0⟩) hHeld ?rest72f1f0
        case hy72f1f0 => (intro w hSw; (try dsimp only at hSw); obtain ⟨hS0, hS1, hS2⟩ := hSw; go_simp; (first | done | with_reducible rfl))
        try simp only [Act.put, List.setIfInBounds_toArray, List.set_cons_zero, List.set_cons_succ]
        refine wpAnyH_take (i := 13) (oi := { dst := some 107, op := Go.Op.move (Go.Operand.tmp 0), type := 26, pos := "law.go:84", after := #[{ on := 12, ground := Go.Ground.guard }], guard := some (12, true) }) (v := ?v73f1f0) rfl (by kernel_rfl) (by kernel_rfl) (by kernel_rfl) (fun _ _ _ h => h) (Or.inl ⟨by rfl, ?hy73f1f0⟩) hHeld ?rest73f1f0
        case hy73f1f0 => (intro w hSw; (try dsimp only at hSw); obtain ⟨hS0, hS1, hS2⟩ := hSw; go_simp; (first | done | with_reducible rfl))
        try simp only [Act.put, List.setIfInBounds_toArray, List.set_cons_zero, List.set_cons_succ]
        refine wpAnyH_take (i := 14) (oi := { dst := some 108, op := Go.Op.move (Go.Operand.tmp 2), type := 3, pos := "law.go:84", after := #[{ on := 12, ground := Go.Ground.guard }], guard := some (12, true) }) (v := ?v74f1f0) rfl (by kernel_rfl) (by kernel_rfl) (by kernel_rfl) (fun _ _ _ h => h) (Or.inl ⟨by rfl, ?hy74f1f0⟩) hHeld ?rest74f1f0
        case hy74f1f0 => (intro w hSw; (try dsimp only at hSw); obtain ⟨hS0, hS1, hS2⟩ := hSw; go_simp; (first | done | with_reducible rfl))
        try simp only [Act.put, List.setIfInBounds_toArray, List.set_cons_zero, List.set_cons_succ]
        refine wpAnyH_take (i := 15) (oi := { dst := some 109, op := Go.Op.indexAddr 26 (Go.Operand.tmp 107) (Go.Operand.tmp 108), type := 0, pos := "law.go:84", after := #[{ on := 13, ground := Go.Ground.data }, { on := 14, ground := Go.Ground.data }, { on := 12, ground := Go.Ground.guard }], guard := some (12, true) }) (v := .pointer (some (al.add k))) rfl (by kernel_rfl) (by kernel_rfl) (by kernel_rfl) (fun _ _ _ h => h) (Or.inl ⟨by rfl, ?hy75f1f0⟩) hHeld ?rest75f1f0
        case hy75f1f0 => (intro w hSw; (try dsimp only at hSw); obtain ⟨hS0, hS1, hS2⟩ := hSw; go_simp; try (first | done | (intro hk3; exfalso; omega) | (rw [if_pos]; omega) | (simp; omega)); (first | done | with_reducible rfl))
        try simp only [Act.put, List.setIfInBounds_toArray, List.set_cons_zero, List.set_cons_succ]
        refine wpAnyH_take (i := 16) (oi := { dst := some 110, op := Go.Op.load 24 (Go.Operand.tmp 109), type := 24, pos := "law.go:84", after := #[{ on := 15, ground := Go.Ground.data }, { on := 12, ground := Go.Ground.guard }], guard := some (12, true) }) (v := .pointer (some ⟨b, 0, none⟩)) rfl (by kernel_rfl) (by kernel_rfl) (by kernel_rfl) (fun _ _ _ h => h) (Or.inl ⟨by rfl, ?hy76f1f0⟩) hHeld ?rest76f1f0
        case hy76f1f0 => (intro w hSw; (try dsimp only at hSw); obtain ⟨hS0, hS1, hS2⟩ := hSw; go_simp; try (first | done | (simp [hS0]; done) | (simp [hS1]; done) | (simp [hS2]; done) | (simp; omega) | omega); (first | done | with_reducible rfl))
        try simp only [Act.put, List.setIfInBounds_toArray, List.set_cons_zero, List.set_cons_succ]
        refine wpAnyH_take (i := 18) (oi := { dst := some 112, op := Go.Op.move (Go.Operand.tmp 1), type := 27, pos := "law.go:84", after := #[{ on := 12, ground := Go.Ground.guard }], guard := some (12, true) }) (v := ?v77f1f0) rfl (by kernel_rfl) (by kernel_rfl) (by kernel_rfl) (fun _ _ _ h => h) (Or.inl ⟨by rfl, ?hy77f1f0⟩) hHeld ?rest77f1f0
        case hy77f1f0 => (intro w hSw; (try dsimp only at hSw); obtain ⟨hS0, hS1, hS2⟩ := hSw; go_simp; (first | done | with_reducible rfl))
        try simp only [Act.put, List.setIfInBounds_toArray, List.set_cons_zero, List.set_cons_succ]
        refine wpAnyH_take (i := 19) (oi := { dst := some 113, op := Go.Op.move (Go.Operand.tmp 2), type := 3, pos := "law.go:84", after := #[{ on := 12, ground := Go.Ground.guard }], guard := some (12, true) }) (v := ?v78f1f0) rfl (by kernel_rfl) (by kernel_rfl) (by kernel_rfl) (fun _ _ _ h => h) (Or.inl ⟨by rfl, ?hy78f1f0⟩) hHeld ?rest78f1f0
        case hy78f1f0 => (intro w hSw; (try dsimp only at hSw); obtain ⟨hS0, hS1, hS2⟩ := hSw; go_simp; (first | done | with_reducible rfl))
        try simp only [Act.put, List.setIfInBounds_toArray, List.set_cons_zero, List.set_cons_succ]
        refine wpAnyH_take (i := 20) (oi := { dst := some 114, op := Go.Op.indexAddr 27 (Go.Operand.tmp 112) (Go.Operand.tmp 113), type := 0, pos := "law.go:84", after := #[{ on := 18, ground := Go.Ground.data }, { on := 19, ground := Go.Ground.data }, { on := 12, ground := Go.Ground.guard }], guard := some (12, true) }) (v := .pointer (some (ar.add (k * 2)))) rfl (by kernel_rfl) (by kernel_rfl) (by kernel_rfl) (fun _ _ _ h => h) (Or.inl ⟨by rfl, ?hy79f1f0⟩) hHeld ?rest79f1f0
        case hy79f1f0 => (intro w hSw; (try dsimp only at hSw); obtain ⟨hS0, hS1, hS2⟩ := hSw; go_simp; try (first | done | (intro hk3; exfalso; omega) | (rw [if_pos]; omega) | (simp; omega)); (first | done | with_reducible rfl))
        try simp only [Act.put, List.setIfInBounds_toArray, List.set_cons_zero, List.set_cons_succ]
        refine wpAnyH_take (i := 21) (oi := { dst := some 115, op := Go.Op.fieldAddr 33 (Go.Operand.tmp 114) 1, type := 0, pos := "law.go:84", after := #[{ on := 20, ground := Go.Ground.data }, { on := 12, ground := Go.Ground.guard }], guard := some (12, true) }) (v := ?v80f1f0) rfl (by kernel_rfl) (by kernel_rfl) (by kernel_rfl) (fun _ _ _ h => h) (Or.inl ⟨by rfl, ?hy80f1f0⟩) hHeld ?rest80f1f0
        case hy80f1f0 => (intro w hSw; (try dsimp only at hSw); obtain ⟨hS0, hS1, hS2⟩ := hSw; go_simp; (first | done | with_reducible rfl))
        try simp only [Act.put, List.setIfInBounds_toArray, List.set_cons_zero, List.set_cons_succ]
        refine wpAnyH_take (i := 22) (oi := { dst := some 116, op := Go.Op.load 31 (Go.Operand.tmp 115), type := 31, pos := "law.go:84", after := #[{ on := 21, ground := Go.Ground.data }, { on := 12, ground := Go.Ground.guard }], guard := some (12, true) }) (v := .slice A2 n2 c2) rfl (by kernel_rfl) (by kernel_rfl) (by kernel_rfl) (fun _ _ _ h => h) (Or.inl ⟨by rfl, ?hy81f1f0⟩) hHeld ?rest81f1f0
        case hy81f1f0 => (intro w hSw; (try dsimp only at hSw); obtain ⟨hS0, hS1, hS2⟩ := hSw; go_simp; try (first | done | (simp [hS0]; done) | (simp [hS1]; done) | (simp [hS2]; done) | (simp; omega) | omega); (first | done | with_reducible rfl))
        try simp only [Act.put, List.setIfInBounds_toArray, List.set_cons_zero, List.set_cons_succ]
        refine wpAnyH_ready (rs := [17]) (by kernel_rfl) (by simp) ?_
        refine AllReadyH.cons (o := agr_7_17) rfl (fun K hK => ?_) (AllReadyH.nil)
        dsimp only [agr_7_17]
        go_simp
        refine (cFs _ E).mono ?_
        rintro e w111 ⟨NA2, nc2, rfl, HQ3, x⟩
        have z82 := x.size
        replace E := E.trans x
        replace LB13 := LB13.ext x
        replace LB15 := LB15.ext x
        replace L0 := cell_ext (x) L0
        replace R0 := cell_ext (x) R0
        replace R1 := cell_ext (x) R1
        replace HQ1 := HQ1.ext x
        replace HQ2 := HQ2.ext x
        clear x
        clear hHeld
        have hHeld := And.intro (L0) (And.intro (R0) ((R1)))
        refine hK.out _ _ hHeld (fun _ => ?_)
        clear hK K
        try simp only [Act.put, List.setIfInBounds_toArray, List.set_cons_zero, List.set_cons_succ]
        refine wpAnyH_ready (rs := [23]) (by kernel_rfl) (by simp) ?_
        refine AllReadyH.cons (o := agr_7_23) rfl (fun K hK => ?_) (AllReadyH.nil)
        dsimp only [agr_7_23]
        go_simp
        refine (cM2 _ E).mono ?_
        rintro e w117 ⟨MA2, mc2, rfl, HQ4, x⟩
        have z83 := x.size
        replace E := E.trans x
        replace LB13 := LB13.ext x
        replace LB15 := LB15.ext x
        replace L0 := cell_ext (x) L0
        replace R0 := cell_ext (x) R0
        replace R1 := cell_ext (x) R1
        replace HQ1 := HQ1.ext x
        replace HQ2 := HQ2.ext x
        replace HQ3 := HQ3.ext x
        clear x
        clear hHeld
        have hHeld := And.intro (L0) (And.intro (R0) ((R1)))
        refine hK.out _ _ hHeld (fun _ => ?_)
        clear hK K
        try simp only [Act.put, List.setIfInBounds_toArray, List.set_cons_zero, List.set_cons_succ]
        refine wpAnyH_ready (rs := [24]) (by kernel_rfl) (by simp) ?_
        refine AllReadyH.cons (o := agr_7_24) rfl (fun K hK => ?_) (AllReadyH.nil)
        dsimp only [agr_7_24]
        go_simp
        refine (cT2 _ _ _ _ _ HQ3.is HQ4.is).mono ?_
        rintro e w118 ⟨rfl, x⟩
        have z84 := x.size
        replace E := E.trans x
        replace LB13 := LB13.ext x
        replace LB15 := LB15.ext x
        replace L0 := cell_ext (x) L0
        replace R0 := cell_ext (x) R0
        replace R1 := cell_ext (x) R1
        replace HQ1 := HQ1.ext x
        replace HQ2 := HQ2.ext x
        replace HQ3 := HQ3.ext x
        replace HQ4 := HQ4.ext x
        clear x
        clear hHeld
        have hHeld := And.intro (L0) (And.intro (R0) ((R1)))
        refine hK.out _ _ hHeld (fun _ => ?_)
        clear hK K
        try simp only [Act.put, List.setIfInBounds_toArray, List.set_cons_zero, List.set_cons_succ]
        refine wpAnyH_take (i := 25) (oi := { dst := some 119, op := Go.Op.pick (Go.Operand.tmp 106) (Go.Operand.tmp 118) (Go.Operand.const (Go.Value.bool false)), type := 4, pos := "law.go:84", after := #[{ on := 12, ground := Go.Ground.data }, { on := 24, ground := Go.Ground.data }], guard := none }) (v := ?v85f1f0) rfl (by kernel_rfl) (by kernel_rfl) (by kernel_rfl) (fun _ _ _ h => h) (Or.inl ⟨by rfl, ?hy85f1f0⟩) hHeld ?rest85f1f0
        case hy85f1f0 => (intro w hSw; (try dsimp only at hSw); obtain ⟨hS0, hS1, hS2⟩ := hSw; go_simp; (first | done | with_reducible rfl))
        try simp only [Act.put, List.setIfInBounds_toArray, List.set_cons_zero, List.set_cons_succ]
        refine wpAnyH_take (i := 26) (oi := { dst := some 8, op := Go.Op.assign (Go.Operand.tmp 119), type := 4, pos := "law.go:84", after := #[{ on := 25, ground := Go.Ground.data }, { on := 24, ground := Go.Ground.chain }, { on := 0, ground := Go.Ground.phase }, { on := 1, ground := Go.Ground.phase }, { on := 2, ground := Go.Ground.phase }, { on := 3, ground := Go.Ground.phase }, { on := 4, ground := Go.Ground.phase }, { on := 5, ground := Go.Ground.phase }, { on := 6, ground := Go.Ground.phase }, { on := 7, ground := Go.Ground.phase }, { on := 8, ground := Go.Ground.phase }, { on := 9, ground := Go.Ground.phase }, { on := 10, ground := Go.Ground.phase }, { on := 11, ground := Go.Ground.phase }, { on := 12, ground := Go.Ground.phase }, { on := 13, ground := Go.Ground.phase }, { on := 14, ground := Go.Ground.phase }, { on := 15, ground := Go.Ground.phase }, { on := 16, ground := Go.Ground.phase }, { on := 17, ground := Go.Ground.phase }, { on := 18, ground := Go.Ground.phase }, { on := 19, ground := Go.Ground.phase }, { on := 20, ground := Go.Ground.phase }, { on := 21, ground := Go.Ground.phase }, { on := 22, ground := Go.Ground.phase }, { on := 23, ground := Go.Ground.phase }, { on := 24, ground := Go.Ground.phase }, { on := 25, ground := Go.Ground.phase }], guard := none }) (v := ?v86f1f0) rfl (by kernel_rfl) (by kernel_rfl) (by kernel_rfl) (fun _ _ _ h => h) (Or.inl ⟨by rfl, ?hy86f1f0⟩) hHeld ?rest86f1f0
        case hy86f1f0 => (intro w hSw; (try dsimp only at hSw); obtain ⟨hS0, hS1, hS2⟩ := hSw; go_simp; (first | done | with_reducible rfl))
        try simp only [Act.put, List.setIfInBounds_toArray, List.set_cons_zero, List.set_cons_succ]
        refine wpAnyH_done (by kernel_rfl) ?_ _
        refine JD7_0 w118 NA1 nc1 MA1 mc1 NA2 nc2 MA2 mc2 ?_
        exact ⟨by omega, E, LB13, LB15⟩
      · intro wD7_0 NA1 nc1 MA1 mc1 NA2 nc2 MA2 mc2 hJ
        obtain ⟨z87, E, LB13, LB15⟩ := hJ
        try dsimp only
        go_wp2_with fail
        go_ret
        exact ⟨rfl, E⟩
  · obtain rfl := hmz.symm
    obtain ⟨k1, A1, n1, k11, bn, A3, n3, k3, A4, n4, k4, A5, n5, k5, A6, n6, k6, A7, n7, k7, rfl, NA⟩ := AVv
    replace NA := NA.now.mono (S' := fun i => i < w41.heap.size) (fun _ _ h => h.2)
    clear vf
    have hfd : tidy (fi z) := fi_tidy (by omega) (by omega)
    have he : (FloatKind.f64.format.order (fi z) (fi z) == some .eq) = true := by rw [c_eq (by have := hfd.1; unfold fin at this; unfold nn; omega) (by have := hfd.1; unfold fin at this; unfold nn; omega)]; simp
    have hfc : floatOfInt FloatKind.f64 z = fi z := rfl
    clear hfd
    generalize fi z = y at NA he hfc
    have cU : ∀ v k w, IsNum w v k [y] → Calls Try.prog 22 #[v, .int .i64 0] w fun e w' => e = .returned (.float .f64 y) ∧ Ext w w' := fun v k w h => nnum_in v k [y] 0 w h (by simp)
    generalize [y] = X at NA cU
    have TB13 : True := trivial
    have TG5 : True := trivial
    go_wp2_with (first | (clear TB13; refine allocsA rfl rfl ?_; intro B13 w13 bB13 cB13 XB13 LB13 RB13; have z4 := XB13.size; replace E := E.trans XB13; replace L0 := cell_ext (XB13) L0; replace R0 := cell_ext (XB13) R0; replace R1 := cell_ext (XB13) R1; replace NA := NA.ext XB13) | (clear TG5; have hRl := (RB13).lt (Nat.zero_lt_succ _); refine storesA (B := B13) rfl rfl rfl (v := (.agg #[.slice none 0 0, .int .i64 (k1 : Nat), .slice A1 n1 k11, .int .i64 bn, .slice A3 n3 k3, .slice A4 n4 k4, .slice A5 n5 k5, .slice A6 n6 k6, .slice A7 n7 k7])) rfl RB13 (arr_flat _ _ _ _ _ _ _ _ _ _ _ _ _ _ _ _ _ _ _ _ _ _ _) ?_; clear LB13; intro s5 G5 LB13 RQ; have z6 := G5.size; replace E := grown_ext E G5 (by omega); replace L0 := cell_grown (G5) L0 (by show (al.add k).block ≠ _; omega); replace R0 := cell_grown (G5) R0 (by show (ar.add (k * 2)).block ≠ _; omega); replace R1 := cell_grown (G5) R1 (by show (ar.add (k * 2)).block ≠ _; omega); replace NA := NA.grown G5 (by first | omega | (dsimp only [New]; omega)); clear RB13; have RB13 := RQ; clear RQ hRl; clear RB13))
    refine (cF _ E).mono ?_
    rintro e w50 ⟨u, is, rfl, hg2, uf, x⟩
    have hc2 := HP2 _ _ _ _ hm2 hg2
    clear hm2 hg2 HP2
    have z7 := x.size
    replace E := E.trans x
    replace L0 := cell_ext (x) L0
    replace R0 := cell_ext (x) R0
    replace R1 := cell_ext (x) R1
    replace NA := NA.ext x
    replace LB13 := LB13.ext x
    clear x
    have MARK2 : True := trivial
    rcases hc2 with ⟨rfl, rfl⟩ | ⟨z2, i, y1, y2, hmz2, rfl, hi, htz2, rfl⟩
    · have TB15 : True := trivial
      have TG9 : True := trivial
      go_wp2_with (first | (clear TB15; refine allocsC rfl rfl ?_; intro B15 w15 bB15 cB15 XB15 LB15 RB15; have z8 := XB15.size; replace E := E.trans XB15; replace L0 := cell_ext (XB15) L0; replace R0 := cell_ext (XB15) R0; replace R1 := cell_ext (XB15) R1; replace NA := NA.ext XB15; replace LB13 := LB13.ext XB15) | (clear TG9; have hRl := (RB15).lt (Nat.zero_lt_succ _); refine storesC (B := B15) rfl rfl rfl (v := u) rfl RB15 uf ?_; clear LB15; intro s9 G9 LB15 RQ; have z10 := G9.size; replace E := grown_ext E G9 (by omega); replace L0 := cell_grown (G9) L0 (by show (al.add k).block ≠ _; omega); replace R0 := cell_grown (G9) R0 (by show (ar.add (k * 2)).block ≠ _; omega); replace R1 := cell_grown (G9) R1 (by show (ar.add (k * 2)).block ≠ _; omega); replace NA := NA.grown G9 (by first | omega | (dsimp only [New]; omega)); replace LB13 := LB13.grown G9 (by omega); clear RB15; have RB15 := RQ; clear RQ hRl; clear RB15))
      try simp only [Act.put, List.setIfInBounds_toArray, List.set_cons_zero, List.set_cons_succ]
      have hq11 : s9.heap.size ≤ s9.drew.heap.size := Nat.le_refl _
      have z12 := (Ext.refl s9).drew.size
      replace E := E.trans (Ext.refl s9).drew
      replace L0 := cell_ext ((Ext.refl s9).drew) L0
      replace R0 := cell_ext ((Ext.refl s9).drew) R0
      replace R1 := cell_ext ((Ext.refl s9).drew) R1
      replace NA := NA.ext (Ext.refl s9).drew
      replace LB13 := LB13.ext (Ext.refl s9).drew
      replace LB15 := LB15.ext (Ext.refl s9).drew
      refine wp_region_held_drew (S := (fun w' => Lay 9 w' B13 (.agg #[.slice none 0 0, .int .i64 (k1 : Nat), .slice A1 n1 k11, .int .i64 bn, .slice A3 n3 k3, .slice A4 n4 k4, .slice A5 n5 k5, .slice A6 n6 k6, .slice A7 n7 k7]))) (by kernel_rfl) (LB13) (fun hHeld => ?_)
      refine wpAnyH_take (i := 0) (oi := { dst := some 53, op := Go.Op.move (Go.Operand.tmp 14), type := 4, pos := "law.go:81", after := #[], guard := none }) (v := ?v13f0f1) rfl (by kernel_rfl) (by kernel_rfl) (by kernel_rfl) (fun _ _ _ h => h) (Or.inl ⟨by rfl, ?hy13f0f1⟩) hHeld ?rest13f0f1
      case hy13f0f1 => (intro w hSw; (try dsimp only at hSw); go_simp; (first | done | with_reducible rfl))
      try simp only [Act.put, List.setIfInBounds_toArray, List.set_cons_zero, List.set_cons_succ]
      refine wpAnyH_take (i := 1) (oi := { dst := some 54, op := Go.Op.move (Go.Operand.tmp 9), type := 3, pos := "law.go:81", after := #[], guard := none }) (v := ?v14f0f1) rfl (by kernel_rfl) (by kernel_rfl) (by kernel_rfl) (fun _ _ _ h => h) (Or.inl ⟨by rfl, ?hy14f0f1⟩) hHeld ?rest14f0f1
      case hy14f0f1 => (intro w hSw; (try dsimp only at hSw); go_simp; (first | done | with_reducible rfl))
      try simp only [Act.put, List.setIfInBounds_toArray, List.set_cons_zero, List.set_cons_succ]
      refine wpAnyH_take (i := 2) (oi := { dst := some 55, op := Go.Op.binOp Go.BinOp.geq 3 (Go.Operand.tmp 54) (Go.Operand.const (Go.Value.int Go.IntKind.i64 0)) 3, type := 4, pos := "law.go:81", after := #[{ on := 1, ground := Go.Ground.data }], guard := none }) (v := .bool true) rfl (by kernel_rfl) (by kernel_rfl) (by kernel_rfl) (fun _ _ _ h => h) (Or.inl ⟨by rfl, ?hy15f0f1⟩) hHeld ?rest15f0f1
      case hy15f0f1 => (intro w hSw; (try dsimp only at hSw); go_simp; try (first | done | (simp; omega) | omega); (first | done | with_reducible rfl))
      try simp only [Act.put, List.setIfInBounds_toArray, List.set_cons_zero, List.set_cons_succ]
      refine wpAnyH_take (i := 3) (oi := { dst := some 56, op := Go.Op.binOp Go.BinOp.neq 4 (Go.Operand.tmp 53) (Go.Operand.tmp 55) 4, type := 4, pos := "law.go:81", after := #[{ on := 0, ground := Go.Ground.data }, { on := 2, ground := Go.Ground.data }], guard := none }) (v := ?v16f0f1) rfl (by kernel_rfl) (by kernel_rfl) (by kernel_rfl) (fun _ _ _ h => h) (Or.inl ⟨by rfl, ?hy16f0f1⟩) hHeld ?rest16f0f1
      case hy16f0f1 => (intro w hSw; (try dsimp only at hSw); go_simp; (first | done | with_reducible rfl))
      try simp only [Act.put, List.setIfInBounds_toArray, List.set_cons_zero, List.set_cons_succ]
      refine wpAnyH_take (i := 4) (oi := { dst := some 57, op := Go.Op.move (Go.Operand.tmp 56), type := 4, pos := "law.go:81", after := #[{ on := 3, ground := Go.Ground.data }], guard := none }) (v := ?v17f0f1) rfl (by kernel_rfl) (by kernel_rfl) (by kernel_rfl) (fun _ _ _ h => h) (Or.inl ⟨by rfl, ?hy17f0f1⟩) hHeld ?rest17f0f1
      case hy17f0f1 => (intro w hSw; (try dsimp only at hSw); go_simp; (first | done | with_reducible rfl))
      try simp only [Act.put, List.setIfInBounds_toArray, List.set_cons_zero, List.set_cons_succ]
      refine wpAnyH_take (i := 5) (oi := { dst := some 58, op := Go.Op.move (Go.Operand.tmp 16), type := 4, pos := "law.go:81", after := #[{ on := 4, ground := Go.Ground.guard }], guard := some (4, false) }) (v := ?v18f0f1) rfl (by kernel_rfl) (by kernel_rfl) (by kernel_rfl) (fun _ _ _ h => h) (Or.inl ⟨by rfl, ?hy18f0f1⟩) hHeld ?rest18f0f1
      case hy18f0f1 => (intro w hSw; (try dsimp only at hSw); go_simp; (first | done | with_reducible rfl))
      try simp only [Act.put, List.setIfInBounds_toArray, List.set_cons_zero, List.set_cons_succ]
      refine wpAnyH_take (i := 6) (oi := { dst := some 59, op := Go.Op.move (Go.Operand.tmp 11), type := 3, pos := "law.go:81", after := #[{ on := 4, ground := Go.Ground.guard }], guard := some (4, false) }) (v := ?v19f0f1) rfl (by kernel_rfl) (by kernel_rfl) (by kernel_rfl) (fun _ _ _ h => h) (Or.inl ⟨by rfl, ?hy19f0f1⟩) hHeld ?rest19f0f1
      case hy19f0f1 => (intro w hSw; (try dsimp only at hSw); go_simp; (first | done | with_reducible rfl))
      try simp only [Act.put, List.setIfInBounds_toArray, List.set_cons_zero, List.set_cons_succ]
      refine wpAnyH_take (i := 7) (oi := { dst := some 60, op := Go.Op.binOp Go.BinOp.geq 3 (Go.Operand.tmp 59) (Go.Operand.const (Go.Value.int Go.IntKind.i64 0)) 3, type := 4, pos := "law.go:81", after := #[{ on := 6, ground := Go.Ground.data }, { on := 4, ground := Go.Ground.guard }], guard := some (4, false) }) (v := ?v20f0f1) rfl (by kernel_rfl) (by kernel_rfl) (by kernel_rfl) (fun _ _ _ h => h) (Or.inl ⟨by rfl, ?hy20f0f1⟩) hHeld ?rest20f0f1
      case hy20f0f1 => (intro w hSw; (try dsimp only at hSw); go_simp; (first | done | with_reducible rfl))
      try simp only [Act.put, List.setIfInBounds_toArray, List.set_cons_zero, List.set_cons_succ]
      refine wpAnyH_take (i := 8) (oi := { dst := some 61, op := Go.Op.binOp Go.BinOp.neq 4 (Go.Operand.tmp 58) (Go.Operand.tmp 60) 4, type := 4, pos := "law.go:81", after := #[{ on := 5, ground := Go.Ground.data }, { on := 7, ground := Go.Ground.data }, { on := 4, ground := Go.Ground.guard }], guard := some (4, false) }) (v := ?v21f0f1) rfl (by kernel_rfl) (by kernel_rfl) (by kernel_rfl) (fun _ _ _ h => h) (Or.inl ⟨by rfl, ?hy21f0f1⟩) hHeld ?rest21f0f1
      case hy21f0f1 => (intro w hSw; (try dsimp only at hSw); go_simp; (first | done | with_reducible rfl))
      try simp only [Act.put, List.setIfInBounds_toArray, List.set_cons_zero, List.set_cons_succ]
      refine wpAnyH_take (i := 9) (oi := { dst := some 62, op := Go.Op.pick (Go.Operand.tmp 57) (Go.Operand.const (Go.Value.bool true)) (Go.Operand.tmp 61), type := 4, pos := "law.go:81", after := #[{ on := 4, ground := Go.Ground.data }, { on := 8, ground := Go.Ground.data }], guard := none }) (v := ?v22f0f1) rfl (by kernel_rfl) (by kernel_rfl) (by kernel_rfl) (fun _ _ _ h => h) (Or.inl ⟨by rfl, ?hy22f0f1⟩) hHeld ?rest22f0f1
      case hy22f0f1 => (intro w hSw; (try dsimp only at hSw); go_simp; (first | done | with_reducible rfl))
      try simp only [Act.put, List.setIfInBounds_toArray, List.set_cons_zero, List.set_cons_succ]
      refine wpAnyH_take (i := 10) (oi := { dst := some 63, op := Go.Op.move (Go.Operand.tmp 62), type := 4, pos := "law.go:81", after := #[{ on := 9, ground := Go.Ground.data }, { on := 4, ground := Go.Ground.chain }], guard := none }) (v := ?v23f0f1) rfl (by kernel_rfl) (by kernel_rfl) (by kernel_rfl) (fun _ _ _ h => h) (Or.inl ⟨by rfl, ?hy23f0f1⟩) hHeld ?rest23f0f1
      case hy23f0f1 => (intro w hSw; (try dsimp only at hSw); go_simp; (first | done | with_reducible rfl))
      try simp only [Act.put, List.setIfInBounds_toArray, List.set_cons_zero, List.set_cons_succ]
      refine wpAnyH_take (i := 11) (oi := { dst := some 64, op := Go.Op.move (Go.Operand.tmp 14), type := 4, pos := "law.go:81", after := #[{ on := 10, ground := Go.Ground.guard }], guard := some (10, false) }) (v := ?v24f0f1) rfl (by kernel_rfl) (by kernel_rfl) (by kernel_rfl) (fun _ _ _ h => h) (Or.inl ⟨by rfl, ?hy24f0f1⟩) hHeld ?rest24f0f1
      case hy24f0f1 => (intro w hSw; (try dsimp only at hSw); go_simp; (first | done | with_reducible rfl))
      try simp only [Act.put, List.setIfInBounds_toArray, List.set_cons_zero, List.set_cons_succ]
      refine wpAnyH_take (i := 12) (oi := { dst := some 65, op := Go.Op.move (Go.Operand.tmp 64), type := 4, pos := "law.go:81", after := #[{ on := 11, ground := Go.Ground.data }, { on := 10, ground := Go.Ground.chain }, { on := 10, ground := Go.Ground.guard }], guard := some (10, false) }) (v := ?v25f0f1) rfl (by kernel_rfl) (by kernel_rfl) (by kernel_rfl) (fun _ _ _ h => h) (Or.inl ⟨by rfl, ?hy25f0f1⟩) hHeld ?rest25f0f1
      case hy25f0f1 => (intro w hSw; (try dsimp only at hSw); go_simp; (first | done | with_reducible rfl))
      try simp only [Act.put, List.setIfInBounds_toArray, List.set_cons_zero, List.set_cons_succ]
      refine wpAnyH_take (i := 13) (oi := { dst := some 66, op := Go.Op.fieldAddr 49 (Go.Operand.tmp 13) 1, type := 0, pos := "law.go:81", after := #[{ on := 12, ground := Go.Ground.guard }], guard := some (12, true) }) (v := ?v26f0f1) rfl (by kernel_rfl) (by kernel_rfl) (by kernel_rfl) (fun _ _ _ h => h) (Or.inl ⟨by rfl, ?hy26f0f1⟩) hHeld ?rest26f0f1
      case hy26f0f1 => (intro w hSw; (try dsimp only at hSw); go_simp; (first | done | with_reducible rfl))
      try simp only [Act.put, List.setIfInBounds_toArray, List.set_cons_zero, List.set_cons_succ]
      refine wpAnyH_take (i := 14) (oi := { dst := some 67, op := Go.Op.load 47 (Go.Operand.tmp 66), type := 47, pos := "law.go:81", after := #[{ on := 13, ground := Go.Ground.data }, { on := 12, ground := Go.Ground.guard }], guard := some (12, true) }) (v := (.agg #[.int .i64 (k1 : Nat), .slice A1 n1 k11, .int .i64 bn, .slice A3 n3 k3, .slice A4 n4 k4, .slice A5 n5 k5, .slice A6 n6 k6, .slice A7 n7 k7])) rfl (by kernel_rfl) (by kernel_rfl) (by kernel_rfl) (fun _ _ _ h => h) (yields_vecin (by rfl) rfl rfl fun w' hx => hx) hHeld ?_
      try simp only [Act.put, List.setIfInBounds_toArray, List.set_cons_zero, List.set_cons_succ]
      refine wpAnyH_take (i := 16) (oi := { dst := some 69, op := Go.Op.move (Go.Operand.tmp 9), type := 3, pos := "law.go:81", after := #[{ on := 12, ground := Go.Ground.guard }], guard := some (12, true) }) (v := ?v28f0f1) rfl (by kernel_rfl) (by kernel_rfl) (by kernel_rfl) (fun _ _ _ h => h) (Or.inl ⟨by rfl, ?hy28f0f1⟩) hHeld ?rest28f0f1
      case hy28f0f1 => (intro w hSw; (try dsimp only at hSw); go_simp; (first | done | with_reducible rfl))
      try simp only [Act.put, List.setIfInBounds_toArray, List.set_cons_zero, List.set_cons_succ]
      refine wpAnyH_take (i := 17) (oi := { dst := some 70, op := Go.Op.convert 3 75 (Go.Operand.tmp 69), type := 75, pos := "law.go:81", after := #[{ on := 16, ground := Go.Ground.data }, { on := 12, ground := Go.Ground.guard }], guard := some (12, true) }) (v := .float .f64 y) rfl (by kernel_rfl) (by kernel_rfl) (by kernel_rfl) (fun _ _ _ h => h) (Or.inl ⟨by rfl, ?hy29f0f1⟩) hHeld ?rest29f0f1
      case hy29f0f1 => (intro w hSw; (try dsimp only at hSw); go_simp; try (first | done | (simp [hfc]; done) | (rw [hfc]; done)); (first | done | with_reducible rfl))
      try simp only [Act.put, List.setIfInBounds_toArray, List.set_cons_zero, List.set_cons_succ]
      refine wpAnyH_ready (rs := [15]) (by kernel_rfl) (by simp) ?_
      refine AllReadyH.cons (o := agr_5_15) rfl (fun K hK => ?_) (AllReadyH.nil)
      dsimp only [agr_5_15]
      go_simp
      refine (cU (.agg #[.int .i64 (k1 : Nat), .slice A1 n1 k11, .int .i64 bn, .slice A3 n3 k3, .slice A4 n4 k4, .slice A5 n5 k5, .slice A6 n6 k6, .slice A7 n7 k7]) _ _ NA.is).mono ?_
      rintro e w68 ⟨rfl, x⟩
      have z30 := x.size
      replace E := E.trans x
      replace L0 := cell_ext (x) L0
      replace R0 := cell_ext (x) R0
      replace R1 := cell_ext (x) R1
      replace NA := NA.ext x
      replace LB13 := LB13.ext x
      replace LB15 := LB15.ext x
      clear x
      clear hHeld
      have hHeld := (LB13)
      refine hK.out _ _ hHeld (fun _ => ?_)
      clear hK K
      try simp only [Act.put, List.setIfInBounds_toArray, List.set_cons_zero, List.set_cons_succ]
      refine wpAnyH_take (i := 18) (oi := { dst := some 71, op := Go.Op.binOp Go.BinOp.neq 75 (Go.Operand.tmp 68) (Go.Operand.tmp 70) 75, type := 4, pos := "law.go:81", after := #[{ on := 15, ground := Go.Ground.data }, { on := 17, ground := Go.Ground.data }, { on := 12, ground := Go.Ground.guard }], guard := some (12, true) }) (v := .bool false) rfl (by kernel_rfl) (by kernel_rfl) (by kernel_rfl) (fun _ _ _ h => h) (Or.inl ⟨by rfl, ?hy31f0f1⟩) hHeld ?rest31f0f1
      case hy31f0f1 => (intro w hSw; (try dsimp only at hSw); go_simp; try (first | done | (simp [he]; done) | simp_all); (first | done | with_reducible rfl))
      try simp only [Act.put, List.setIfInBounds_toArray, List.set_cons_zero, List.set_cons_succ]
      refine wpAnyH_take (i := 19) (oi := { dst := some 72, op := Go.Op.pick (Go.Operand.tmp 65) (Go.Operand.tmp 71) (Go.Operand.const (Go.Value.bool false)), type := 4, pos := "law.go:81", after := #[{ on := 12, ground := Go.Ground.data }, { on := 18, ground := Go.Ground.data }, { on := 10, ground := Go.Ground.guard }], guard := some (10, false) }) (v := ?v32f0f1) rfl (by kernel_rfl) (by kernel_rfl) (by kernel_rfl) (fun _ _ _ h => h) (Or.inl ⟨by rfl, ?hy32f0f1⟩) hHeld ?rest32f0f1
      case hy32f0f1 => (intro w hSw; (try dsimp only at hSw); go_simp; (first | done | with_reducible rfl))
      try simp only [Act.put, List.setIfInBounds_toArray, List.set_cons_zero, List.set_cons_succ]
      refine wpAnyH_take (i := 20) (oi := { dst := some 73, op := Go.Op.pick (Go.Operand.tmp 63) (Go.Operand.const (Go.Value.bool true)) (Go.Operand.tmp 72), type := 4, pos := "law.go:81", after := #[{ on := 10, ground := Go.Ground.data }, { on := 19, ground := Go.Ground.data }], guard := none }) (v := ?v33f0f1) rfl (by kernel_rfl) (by kernel_rfl) (by kernel_rfl) (fun _ _ _ h => h) (Or.inl ⟨by rfl, ?hy33f0f1⟩) hHeld ?rest33f0f1
      case hy33f0f1 => (intro w hSw; (try dsimp only at hSw); go_simp; (first | done | with_reducible rfl))
      try simp only [Act.put, List.setIfInBounds_toArray, List.set_cons_zero, List.set_cons_succ]
      refine wpAnyH_take (i := 21) (oi := { dst := some 74, op := Go.Op.move (Go.Operand.tmp 73), type := 4, pos := "law.go:81", after := #[{ on := 20, ground := Go.Ground.data }, { on := 15, ground := Go.Ground.chain }], guard := none }) (v := ?v34f0f1) rfl (by kernel_rfl) (by kernel_rfl) (by kernel_rfl) (fun _ _ _ h => h) (Or.inl ⟨by rfl, ?hy34f0f1⟩) hHeld ?rest34f0f1
      case hy34f0f1 => (intro w hSw; (try dsimp only at hSw); go_simp; (first | done | with_reducible rfl))
      try simp only [Act.put, List.setIfInBounds_toArray, List.set_cons_zero, List.set_cons_succ]
      refine wpAnyH_take (i := 22) (oi := { dst := some 75, op := Go.Op.move (Go.Operand.tmp 16), type := 4, pos := "law.go:81", after := #[{ on := 21, ground := Go.Ground.guard }], guard := some (21, false) }) (v := ?v35f0f1) rfl (by kernel_rfl) (by kernel_rfl) (by kernel_rfl) (fun _ _ _ h => h) (Or.inl ⟨by rfl, ?hy35f0f1⟩) hHeld ?rest35f0f1
      case hy35f0f1 => (intro w hSw; (try dsimp only at hSw); go_simp; (first | done | with_reducible rfl))
      try simp only [Act.put, List.setIfInBounds_toArray, List.set_cons_zero, List.set_cons_succ]
      refine wpAnyH_take (i := 23) (oi := { dst := some 76, op := Go.Op.move (Go.Operand.tmp 75), type := 4, pos := "law.go:81", after := #[{ on := 22, ground := Go.Ground.data }, { on := 21, ground := Go.Ground.chain }, { on := 21, ground := Go.Ground.guard }], guard := some (21, false) }) (v := ?v36f0f1) rfl (by kernel_rfl) (by kernel_rfl) (by kernel_rfl) (fun _ _ _ h => h) (Or.inl ⟨by rfl, ?hy36f0f1⟩) hHeld ?rest36f0f1
      case hy36f0f1 => (intro w hSw; (try dsimp only at hSw); go_simp; (first | done | with_reducible rfl))
      try simp only [Act.put, List.setIfInBounds_toArray, List.set_cons_zero, List.set_cons_succ]
      refine wpAnyH_take (i := 24) (oi := { dst := some 77, op := Go.Op.fieldAddr 66 (Go.Operand.tmp 15) 0, type := 0, pos := "law.go:81", after := #[{ on := 23, ground := Go.Ground.guard }], guard := some (23, true) }) (v := undef) rfl (by kernel_rfl) (by kernel_rfl) (by kernel_rfl) (fun _ _ _ h => h) (Or.inr ⟨by rfl, rfl⟩) hHeld ?_
      try simp only [Act.put, List.setIfInBounds_toArray, List.set_cons_zero, List.set_cons_succ]
      refine wpAnyH_take (i := 25) (oi := { dst := some 78, op := Go.Op.fieldAddr 54 (Go.Operand.tmp 77) 5, type := 0, pos := "law.go:81", after := #[{ on := 24, ground := Go.Ground.data }, { on := 23, ground := Go.Ground.guard }], guard := some (23, true) }) (v := undef) rfl (by kernel_rfl) (by kernel_rfl) (by kernel_rfl) (fun _ _ _ h => h) (Or.inr ⟨by rfl, rfl⟩) hHeld ?_
      try simp only [Act.put, List.setIfInBounds_toArray, List.set_cons_zero, List.set_cons_succ]
      refine wpAnyH_take (i := 26) (oi := { dst := some 79, op := Go.Op.load 21 (Go.Operand.tmp 78), type := 21, pos := "law.go:81", after := #[{ on := 25, ground := Go.Ground.data }, { on := 23, ground := Go.Ground.guard }], guard := some (23, true) }) (v := undef) rfl (by kernel_rfl) (by kernel_rfl) (by kernel_rfl) (fun _ _ _ h => h) (Or.inr ⟨by rfl, rfl⟩) hHeld ?_
      try simp only [Act.put, List.setIfInBounds_toArray, List.set_cons_zero, List.set_cons_succ]
      refine wpAnyH_take (i := 27) (oi := { dst := some 80, op := Go.Op.convert 21 3 (Go.Operand.tmp 79), type := 3, pos := "law.go:81", after := #[{ on := 26, ground := Go.Ground.data }, { on := 23, ground := Go.Ground.guard }], guard := some (23, true) }) (v := undef) rfl (by kernel_rfl) (by kernel_rfl) (by kernel_rfl) (fun _ _ _ h => h) (Or.inr ⟨by rfl, rfl⟩) hHeld ?_
      try simp only [Act.put, List.setIfInBounds_toArray, List.set_cons_zero, List.set_cons_succ]
      refine wpAnyH_take (i := 28) (oi := { dst := some 81, op := Go.Op.move (Go.Operand.tmp 11), type := 3, pos := "law.go:81", after := #[{ on := 23, ground := Go.Ground.guard }], guard := some (23, true) }) (v := undef) rfl (by kernel_rfl) (by kernel_rfl) (by kernel_rfl) (fun _ _ _ h => h) (Or.inr ⟨by rfl, rfl⟩) hHeld ?_
      try simp only [Act.put, List.setIfInBounds_toArray, List.set_cons_zero, List.set_cons_succ]
      refine wpAnyH_take (i := 29) (oi := { dst := some 82, op := Go.Op.binOp Go.BinOp.neq 3 (Go.Operand.tmp 80) (Go.Operand.tmp 81) 3, type := 4, pos := "law.go:81", after := #[{ on := 27, ground := Go.Ground.data }, { on := 28, ground := Go.Ground.data }, { on := 23, ground := Go.Ground.guard }], guard := some (23, true) }) (v := undef) rfl (by kernel_rfl) (by kernel_rfl) (by kernel_rfl) (fun _ _ _ h => h) (Or.inr ⟨by rfl, rfl⟩) hHeld ?_
      try simp only [Act.put, List.setIfInBounds_toArray, List.set_cons_zero, List.set_cons_succ]
      refine wpAnyH_take (i := 30) (oi := { dst := some 83, op := Go.Op.move (Go.Operand.tmp 82), type := 4, pos := "law.go:81", after := #[{ on := 29, ground := Go.Ground.data }, { on := 23, ground := Go.Ground.chain }, { on := 23, ground := Go.Ground.guard }], guard := some (23, true) }) (v := undef) rfl (by kernel_rfl) (by kernel_rfl) (by kernel_rfl) (fun _ _ _ h => h) (Or.inr ⟨by rfl, rfl⟩) hHeld ?_
      try simp only [Act.put, List.setIfInBounds_toArray, List.set_cons_zero, List.set_cons_succ]
      refine wpAnyH_take (i := 31) (oi := { dst := some 84, op := Go.Op.fieldAddr 66 (Go.Operand.tmp 15) 1, type := 0, pos := "law.go:81", after := #[{ on := 30, ground := Go.Ground.guard }], guard := some (30, false) }) (v := undef) rfl (by kernel_rfl) (by kernel_rfl) (by kernel_rfl) (fun _ _ _ h => h) (Or.inr ⟨by rfl, rfl⟩) hHeld ?_
      try simp only [Act.put, List.setIfInBounds_toArray, List.set_cons_zero, List.set_cons_succ]
      refine wpAnyH_take (i := 32) (oi := { dst := some 85, op := Go.Op.load 24 (Go.Operand.tmp 84), type := 24, pos := "law.go:81", after := #[{ on := 31, ground := Go.Ground.data }, { on := 30, ground := Go.Ground.guard }], guard := some (30, false) }) (v := undef) rfl (by kernel_rfl) (by kernel_rfl) (by kernel_rfl) (fun _ _ _ h => h) (Or.inr ⟨by rfl, rfl⟩) hHeld ?_
      try simp only [Act.put, List.setIfInBounds_toArray, List.set_cons_zero, List.set_cons_succ]
      refine wpAnyH_take (i := 33) (oi := { dst := some 86, op := Go.Op.move (Go.Operand.tmp 0), type := 26, pos := "law.go:81", after := #[{ on := 30, ground := Go.Ground.guard }], guard := some (30, false) }) (v := undef) rfl (by kernel_rfl) (by kernel_rfl) (by kernel_rfl) (fun _ _ _ h => h) (Or.inr ⟨by rfl, rfl⟩) hHeld ?_
      try simp only [Act.put, List.setIfInBounds_toArray, List.set_cons_zero, List.set_cons_succ]
      refine wpAnyH_take (i := 34) (oi := { dst := some 87, op := Go.Op.move (Go.Operand.tmp 12), type := 3, pos := "law.go:81", after := #[{ on := 30, ground := Go.Ground.guard }], guard := some (30, false) }) (v := undef) rfl (by kernel_rfl) (by kernel_rfl) (by kernel_rfl) (fun _ _ _ h => h) (Or.inr ⟨by rfl, rfl⟩) hHeld ?_
      try simp only [Act.put, List.setIfInBounds_toArray, List.set_cons_zero, List.set_cons_succ]
      refine wpAnyH_take (i := 35) (oi := { dst := some 88, op := Go.Op.indexAddr 26 (Go.Operand.tmp 86) (Go.Operand.tmp 87), type := 0, pos := "law.go:81", after := #[{ on := 33, ground := Go.Ground.data }, { on := 34, ground := Go.Ground.data }, { on := 30, ground := Go.Ground.guard }], guard := some (30, false) }) (v := undef) rfl (by kernel_rfl) (by kernel_rfl) (by kernel_rfl) (fun _ _ _ h => h) (Or.inr ⟨by rfl, rfl⟩) hHeld ?_
      try simp only [Act.put, List.setIfInBounds_toArray, List.set_cons_zero, List.set_cons_succ]
      refine wpAnyH_take (i := 36) (oi := { dst := some 89, op := Go.Op.load 24 (Go.Operand.tmp 88), type := 24, pos := "law.go:81", after := #[{ on := 35, ground := Go.Ground.data }, { on := 30, ground := Go.Ground.guard }], guard := some (30, false) }) (v := undef) rfl (by kernel_rfl) (by kernel_rfl) (by kernel_rfl) (fun _ _ _ h => h) (Or.inr ⟨by rfl, rfl⟩) hHeld ?_
      try simp only [Act.put, List.setIfInBounds_toArray, List.set_cons_zero, List.set_cons_succ]
      refine wpAnyH_take (i := 37) (oi := { dst := some 90, op := Go.Op.binOp Go.BinOp.neq 24 (Go.Operand.tmp 85) (Go.Operand.tmp 89) 24, type := 4, pos := "law.go:81", after := #[{ on := 32, ground := Go.Ground.data }, { on := 36, ground := Go.Ground.data }, { on := 30, ground := Go.Ground.guard }], guard := some (30, false) }) (v := undef) rfl (by kernel_rfl) (by kernel_rfl) (by kernel_rfl) (fun _ _ _ h => h) (Or.inr ⟨by rfl, rfl⟩) hHeld ?_
      try simp only [Act.put, List.setIfInBounds_toArray, List.set_cons_zero, List.set_cons_succ]
      refine wpAnyH_take (i := 38) (oi := { dst := some 91, op := Go.Op.pick (Go.Operand.tmp 83) (Go.Operand.const (Go.Value.bool true)) (Go.Operand.tmp 90), type := 4, pos := "law.go:81", after := #[{ on := 30, ground := Go.Ground.data }, { on := 37, ground := Go.Ground.data }, { on := 23, ground := Go.Ground.guard }], guard := some (23, true) }) (v := undef) rfl (by kernel_rfl) (by kernel_rfl) (by kernel_rfl) (fun _ _ _ h => h) (Or.inr ⟨by rfl, rfl⟩) hHeld ?_
      try simp only [Act.put, List.setIfInBounds_toArray, List.set_cons_zero, List.set_cons_succ]
      refine wpAnyH_take (i := 39) (oi := { dst := some 92, op := Go.Op.pick (Go.Operand.tmp 76) (Go.Operand.tmp 91) (Go.Operand.const (Go.Value.bool false)), type := 4, pos := "law.go:81", after := #[{ on := 23, ground := Go.Ground.data }, { on := 38, ground := Go.Ground.data }, { on := 21, ground := Go.Ground.guard }], guard := some (21, false) }) (v := ?v52f0f1) rfl (by kernel_rfl) (by kernel_rfl) (by kernel_rfl) (fun _ _ _ h => h) (Or.inl ⟨by rfl, ?hy52f0f1⟩) hHeld ?rest52f0f1
      case hy52f0f1 => (intro w hSw; (try dsimp only at hSw); go_simp; (first | done | with_reducible rfl))
      try simp only [Act.put, List.setIfInBounds_toArray, List.set_cons_zero, List.set_cons_succ]
      refine wpAnyH_take (i := 40) (oi := { dst := some 93, op := Go.Op.pick (Go.Operand.tmp 74) (Go.Operand.const (Go.Value.bool true)) (Go.Operand.tmp 92), type := 4, pos := "law.go:81", after := #[{ on := 21, ground := Go.Ground.data }, { on := 39, ground := Go.Ground.data }], guard := none }) (v := ?v53f0f1) rfl (by kernel_rfl) (by kernel_rfl) (by kernel_rfl) (fun _ _ _ h => h) (Or.inl ⟨by rfl, ?hy53f0f1⟩) hHeld ?rest53f0f1
      case hy53f0f1 => (intro w hSw; (try dsimp only at hSw); go_simp; (first | done | with_reducible rfl))
      try simp only [Act.put, List.setIfInBounds_toArray, List.set_cons_zero, List.set_cons_succ]
      refine wpAnyH_done (by kernel_rfl) ?_ _
      go_wp2_with fail
      try simp only [Act.put, List.setIfInBounds_toArray, List.set_cons_zero, List.set_cons_succ]
      apply joinK0 (F := fun (wS7 : World) => w68.heap.size ≤ wS7.heap.size ∧ Ext w wS7 ∧ Lay 9 wS7 B13 (.agg #[.slice none 0 0, .int .i64 (k1 : Nat), .slice A1 n1 k11, .int .i64 bn, .slice A3 n3 k3, .slice A4 n4 k4, .slice A5 n5 k5, .slice A6 n6 k6, .slice A7 n7 k7]) ∧ Lay 8 wS7 B15 u ∧ wS7.cell? (al.add k) = some (.pointer (some ⟨b, 0, none⟩)) ∧ wS7.cell? (ar.add (k * 2)) = some (.slice A n c) ∧ wS7.cell? ⟨(ar.add (k * 2)).block, (ar.add (k * 2)).off + 1, none⟩ = some (.slice A2 n2 c2))
      · intro J
        refine J w68 ?_
        exact ⟨Nat.le_refl _, E, LB13, LB15, L0, R0, R1⟩
      intro wS7 hJS
      clear E L0 R0 R1 NA LB13 LB15
      refine wp_region_held_drew (S := (fun w' => w'.cell? (al.add k) = some (.pointer (some ⟨b, 0, none⟩)) ∧ w'.cell? (ar.add (k * 2)) = some (.slice A n c) ∧ w'.cell? ⟨(ar.add (k * 2)).block, (ar.add (k * 2)).off + 1, none⟩ = some (.slice A2 n2 c2))) (by kernel_rfl) (by obtain ⟨z56, E, LB13, LB15, L0, R0, R1⟩ := hJS; exact ⟨(L0), (R0), (R1)⟩) (fun hH0 => ?_)
      apply joinK8 (F := fun (wD7_0 : World) (NA1 : Option Addr) (nc1 : Nat) (MA1 : Option Addr) (mc1 : Nat) (NA2 : Option Addr) (nc2 : Nat) (MA2 : Option Addr) (mc2 : Nat) => wS7.heap.size ≤ wD7_0.heap.size ∧ Ext w wD7_0 ∧ Lay 9 wD7_0 B13 (.agg #[.slice none 0 0, .int .i64 (k1 : Nat), .slice A1 n1 k11, .int .i64 bn, .slice A3 n3 k3, .slice A4 n4 k4, .slice A5 n5 k5, .slice A6 n6 k6, .slice A7 n7 k7]) ∧ Lay 8 wD7_0 B15 u)
      intro JD7_0
      · have hJQ := hJS
        obtain ⟨z56, E, LB13, LB15, L0, R0, R1⟩ := hJQ
        have hq57 : wS7.heap.size ≤ wS7.drew.heap.size := Nat.le_refl _
        have z58 := (Ext.refl wS7).drew.size
        replace E := E.trans (Ext.refl wS7).drew
        replace LB13 := LB13.ext (Ext.refl wS7).drew
        replace LB15 := LB15.ext (Ext.refl wS7).drew
        replace L0 := cell_ext ((Ext.refl wS7).drew) L0
        replace R0 := cell_ext ((Ext.refl wS7).drew) R0
        replace R1 := cell_ext ((Ext.refl wS7).drew) R1
        have hHeld := And.intro (L0) (And.intro (R0) ((R1)))
        refine wpAnyH_take (i := 0) (oi := { dst := some 94, op := Go.Op.move (Go.Operand.tmp 0), type := 26, pos := "law.go:84", after := #[], guard := none }) (v := ?v59f0f1) rfl (by kernel_rfl) (by kernel_rfl) (by kernel_rfl) (fun _ _ _ h => h) (Or.inl ⟨by rfl, ?hy59f0f1⟩) hHeld ?rest59f0f1
        case hy59f0f1 => (intro w hSw; (try dsimp only at hSw); obtain ⟨hS0, hS1, hS2⟩ := hSw; go_simp; (first | done | with_reducible rfl))
        try simp only [Act.put, List.setIfInBounds_toArray, List.set_cons_zero, List.set_cons_succ]
        refine wpAnyH_take (i := 1) (oi := { dst := some 95, op := Go.Op.move (Go.Operand.tmp 2), type := 3, pos := "law.go:84", after := #[], guard := none }) (v := ?v60f0f1) rfl (by kernel_rfl) (by kernel_rfl) (by kernel_rfl) (fun _ _ _ h => h) (Or.inl ⟨by rfl, ?hy60f0f1⟩) hHeld ?rest60f0f1
        case hy60f0f1 => (intro w hSw; (try dsimp only at hSw); obtain ⟨hS0, hS1, hS2⟩ := hSw; go_simp; (first | done | with_reducible rfl))
        try simp only [Act.put, List.setIfInBounds_toArray, List.set_cons_zero, List.set_cons_succ]
        refine wpAnyH_take (i := 2) (oi := { dst := some 96, op := Go.Op.indexAddr 26 (Go.Operand.tmp 94) (Go.Operand.tmp 95), type := 0, pos := "law.go:84", after := #[{ on := 0, ground := Go.Ground.data }, { on := 1, ground := Go.Ground.data }], guard := none }) (v := .pointer (some (al.add k))) rfl (by kernel_rfl) (by kernel_rfl) (by kernel_rfl) (fun _ _ _ h => h) (Or.inl ⟨by rfl, ?hy61f0f1⟩) hHeld ?rest61f0f1
        case hy61f0f1 => (intro w hSw; (try dsimp only at hSw); obtain ⟨hS0, hS1, hS2⟩ := hSw; go_simp; try (first | done | (intro hk3; exfalso; omega) | (rw [if_pos]; omega) | (simp; omega)); (first | done | with_reducible rfl))
        try simp only [Act.put, List.setIfInBounds_toArray, List.set_cons_zero, List.set_cons_succ]
        refine wpAnyH_take (i := 3) (oi := { dst := some 97, op := Go.Op.load 24 (Go.Operand.tmp 96), type := 24, pos := "law.go:84", after := #[{ on := 2, ground := Go.Ground.data }], guard := none }) (v := .pointer (some ⟨b, 0, none⟩)) rfl (by kernel_rfl) (by kernel_rfl) (by kernel_rfl) (fun _ _ _ h => h) (Or.inl ⟨by rfl, ?hy62f0f1⟩) hHeld ?rest62f0f1
        case hy62f0f1 => (intro w hSw; (try dsimp only at hSw); obtain ⟨hS0, hS1, hS2⟩ := hSw; go_simp; try (first | done | (simp [hS0]; done) | (simp [hS1]; done) | (simp [hS2]; done) | (simp; omega) | omega); (first | done | with_reducible rfl))
        try simp only [Act.put, List.setIfInBounds_toArray, List.set_cons_zero, List.set_cons_succ]
        refine wpAnyH_take (i := 5) (oi := { dst := some 99, op := Go.Op.move (Go.Operand.tmp 1), type := 27, pos := "law.go:84", after := #[], guard := none }) (v := ?v63f0f1) rfl (by kernel_rfl) (by kernel_rfl) (by kernel_rfl) (fun _ _ _ h => h) (Or.inl ⟨by rfl, ?hy63f0f1⟩) hHeld ?rest63f0f1
        case hy63f0f1 => (intro w hSw; (try dsimp only at hSw); obtain ⟨hS0, hS1, hS2⟩ := hSw; go_simp; (first | done | with_reducible rfl))
        try simp only [Act.put, List.setIfInBounds_toArray, List.set_cons_zero, List.set_cons_succ]
        refine wpAnyH_take (i := 6) (oi := { dst := some 100, op := Go.Op.move (Go.Operand.tmp 2), type := 3, pos := "law.go:84", after := #[], guard := none }) (v := ?v64f0f1) rfl (by kernel_rfl) (by kernel_rfl) (by kernel_rfl) (fun _ _ _ h => h) (Or.inl ⟨by rfl, ?hy64f0f1⟩) hHeld ?rest64f0f1
        case hy64f0f1 => (intro w hSw; (try dsimp only at hSw); obtain ⟨hS0, hS1, hS2⟩ := hSw; go_simp; (first | done | with_reducible rfl))
        try simp only [Act.put, List.setIfInBounds_toArray, List.set_cons_zero, List.set_cons_succ]
        refine wpAnyH_take (i := 7) (oi := { dst := some 101, op := Go.Op.indexAddr 27 (Go.Operand.tmp 99) (Go.Operand.tmp 100), type := 0, pos := "law.go:84", after := #[{ on := 5, ground := Go.Ground.data }, { on := 6, ground := Go.Ground.data }], guard := none }) (v := .pointer (some (ar.add (k * 2)))) rfl (by kernel_rfl) (by kernel_rfl) (by kernel_rfl) (fun _ _ _ h => h) (Or.inl ⟨by rfl, ?hy65f0f1⟩) hHeld ?rest65f0f1
        case hy65f0f1 => (intro w hSw; (try dsimp only at hSw); obtain ⟨hS0, hS1, hS2⟩ := hSw; go_simp; try (first | done | (intro hk3; exfalso; omega) | (rw [if_pos]; omega) | (simp; omega)); (first | done | with_reducible rfl))
        try simp only [Act.put, List.setIfInBounds_toArray, List.set_cons_zero, List.set_cons_succ]
        refine wpAnyH_take (i := 8) (oi := { dst := some 102, op := Go.Op.fieldAddr 33 (Go.Operand.tmp 101) 0, type := 0, pos := "law.go:84", after := #[{ on := 7, ground := Go.Ground.data }], guard := none }) (v := ?v66f0f1) rfl (by kernel_rfl) (by kernel_rfl) (by kernel_rfl) (fun _ _ _ h => h) (Or.inl ⟨by rfl, ?hy66f0f1⟩) hHeld ?rest66f0f1
        case hy66f0f1 => (intro w hSw; (try dsimp only at hSw); obtain ⟨hS0, hS1, hS2⟩ := hSw; go_simp; (first | done | with_reducible rfl))
        try simp only [Act.put, List.setIfInBounds_toArray, List.set_cons_zero, List.set_cons_succ]
        refine wpAnyH_take (i := 9) (oi := { dst := some 103, op := Go.Op.load 31 (Go.Operand.tmp 102), type := 31, pos := "law.go:84", after := #[{ on := 8, ground := Go.Ground.data }], guard := none }) (v := .slice A n c) rfl (by kernel_rfl) (by kernel_rfl) (by kernel_rfl) (fun _ _ _ h => h) (Or.inl ⟨by rfl, ?hy67f0f1⟩) hHeld ?rest67f0f1
        case hy67f0f1 => (intro w hSw; (try dsimp only at hSw); obtain ⟨hS0, hS1, hS2⟩ := hSw; go_simp; try (first | done | (simp [hS0]; done) | (simp [hS1]; done) | (simp [hS2]; done) | (simp; omega) | omega); (first | done | with_reducible rfl))
        try simp only [Act.put, List.setIfInBounds_toArray, List.set_cons_zero, List.set_cons_succ]
        refine wpAnyH_ready (rs := [4]) (by kernel_rfl) (by simp) ?_
        refine AllReadyH.cons (o := agr_7_4) rfl (fun K hK => ?_) (AllReadyH.nil)
        dsimp only [agr_7_4]
        go_simp
        refine (cN _ E).mono ?_
        rintro e w98 ⟨NA1, nc1, rfl, HQ1, x⟩
        have z68 := x.size
        replace E := E.trans x
        replace LB13 := LB13.ext x
        replace LB15 := LB15.ext x
        replace L0 := cell_ext (x) L0
        replace R0 := cell_ext (x) R0
        replace R1 := cell_ext (x) R1
        clear x
        clear hHeld
        have hHeld := And.intro (L0) (And.intro (R0) ((R1)))
        refine hK.out _ _ hHeld (fun _ => ?_)
        clear hK K
        try simp only [Act.put, List.setIfInBounds_toArray, List.set_cons_zero, List.set_cons_succ]
        refine wpAnyH_ready (rs := [10]) (by kernel_rfl) (by simp) ?_
        refine AllReadyH.cons (o := agr_7_10) rfl (fun K hK => ?_) (AllReadyH.nil)
        dsimp only [agr_7_10]
        go_simp
        refine (cM _ E).mono ?_
        rintro e w104 ⟨MA1, mc1, rfl, HQ2, x⟩
        have z69 := x.size
        replace E := E.trans x
        replace LB13 := LB13.ext x
        replace LB15 := LB15.ext x
        replace L0 := cell_ext (x) L0
        replace R0 := cell_ext (x) R0
        replace R1 := cell_ext (x) R1
        replace HQ1 := HQ1.ext x
        clear x
        clear hHeld
        have hHeld := And.intro (L0) (And.intro (R0) ((R1)))
        refine hK.out _ _ hHeld (fun _ => ?_)
        clear hK K
        try simp only [Act.put, List.setIfInBounds_toArray, List.set_cons_zero, List.set_cons_succ]
        refine wpAnyH_ready (rs := [11]) (by kernel_rfl) (by simp) ?_
        refine AllReadyH.cons (o := agr_7_11) rfl (fun K hK => ?_) (AllReadyH.nil)
        dsimp only [agr_7_11]
        go_simp
        refine (cT _ _ _ _ _ HQ1.is HQ2.is).mono ?_
        rintro e w105 ⟨rfl, x⟩
        have z70 := x.size
        replace E := E.trans x
        replace LB13 := LB13.ext x
        replace LB15 := LB15.ext x
        replace L0 := cell_ext (x) L0
        replace R0 := cell_ext (x) R0
        replace R1 := cell_ext (x) R1
        replace HQ1 := HQ1.ext x
        replace HQ2 := HQ2.ext x
        clear x
        clear hHeld
        have hHeld := And.intro (L0) (And.intro (R0) ((R1)))
        refine hK.out _ _ hHeld (fun _ => ?_)
        clear hK K
        try simp only [Act.put, List.setIfInBounds_toArray, List.set_cons_zero, List.set_cons_succ]
        refine wpAnyH_take (i := 12) (oi := { dst := some 106, op := Go.Op.move (Go.Operand.tmp 105), type := 4, pos := "law.go:84", after := #[{ on := 11, ground := Go.Ground.data }, { on := 11, ground := Go.Ground.chain }], guard := none }) (v := ?v71f0f1) rfl (by kernel_rfl) (by kernel_rfl) (by kernel_rfl) (fun _ _ _ h => h) (Or.inl ⟨by rfl, ?hy71f0f1⟩) hHeld ?rest71f0f1
        case hy71f0f1 => (intro w hSw; (try dsimp only at hSw); obtain ⟨hS0, hS1, hS2⟩ := hSw; go_simp; (first | done | with_reducible rfl))
        try simp only [Act.put, List.setIfInBounds_toArray, List.set_cons_zero, List.set_cons_succ]
        refine wpAnyH_take (i := 13) (oi := { dst := some 107, op := Go.Op.move (Go.Operand.tmp 0), type := 26, pos := "law.go:84", after := #[{ on := 12, ground := Go.Ground.guard }], guard := some (12, true) }) (v := ?v72f0f1) rfl (by kernel_rfl) (by kernel_rfl) (by kernel_rfl) (fun _ _ _ h => h) (Or.inl ⟨by rfl, ?hy72f0f1⟩) hHeld ?rest72f0f1
        case hy72f0f1 => (intro w hSw; (try dsimp only at hSw); obtain ⟨hS0, hS1, hS2⟩ := hSw; go_simp; (first | done | with_reducible rfl))
        try simp only [Act.put, List.setIfInBounds_toArray, List.set_cons_zero, List.set_cons_succ]
        refine wpAnyH_take (i := 14) (oi := { dst := some 108, op := Go.Op.move (Go.Operand.tmp 2), type := 3, pos := "law.go:84", after := #[{ on := 12, ground := Go.Ground.guard }], guard := some (12, true) }) (v := ?v73f0f1) rfl (by kernel_rfl) (by kernel_rfl) (by kernel_rfl) (fun _ _ _ h => h) (Or.inl ⟨by rfl, ?hy73f0f1⟩) hHeld ?rest73f0f1
        case hy73f0f1 => (intro w hSw; (try dsimp only at hSw); obtain ⟨hS0, hS1, hS2⟩ := hSw; go_simp; (first | done | with_reducible rfl))
        try simp only [Act.put, List.setIfInBounds_toArray, List.set_cons_zero, List.set_cons_succ]
        refine wpAnyH_take (i := 15) (oi := { dst := some 109, op := Go.Op.indexAddr 26 (Go.Operand.tmp 107) (Go.Operand.tmp 108), type := 0, pos := "law.go:84", after := #[{ on := 13, ground := Go.Ground.data }, { on := 14, ground := Go.Ground.data }, { on := 12, ground := Go.Ground.guard }], guard := some (12, true) }) (v := .pointer (some (al.add k))) rfl (by kernel_rfl) (by kernel_rfl) (by kernel_rfl) (fun _ _ _ h => h) (Or.inl ⟨by rfl, ?hy74f0f1⟩) hHeld ?rest74f0f1
        case hy74f0f1 => (intro w hSw; (try dsimp only at hSw); obtain ⟨hS0, hS1, hS2⟩ := hSw; go_simp; try (first | done | (intro hk3; exfalso; omega) | (rw [if_pos]; omega) | (simp; omega)); (first | done | with_reducible rfl))
        try simp only [Act.put, List.setIfInBounds_toArray, List.set_cons_zero, List.set_cons_succ]
        refine wpAnyH_take (i := 16) (oi := { dst := some 110, op := Go.Op.load 24 (Go.Operand.tmp 109), type := 24, pos := "law.go:84", after := #[{ on := 15, ground := Go.Ground.data }, { on := 12, ground := Go.Ground.guard }], guard := some (12, true) }) (v := .pointer (some ⟨b, 0, none⟩)) rfl (by kernel_rfl) (by kernel_rfl) (by kernel_rfl) (fun _ _ _ h => h) (Or.inl ⟨by rfl, ?hy75f0f1⟩) hHeld ?rest75f0f1
        case hy75f0f1 => (intro w hSw; (try dsimp only at hSw); obtain ⟨hS0, hS1, hS2⟩ := hSw; go_simp; try (first | done | (simp [hS0]; done) | (simp [hS1]; done) | (simp [hS2]; done) | (simp; omega) | omega); (first | done | with_reducible rfl))
        try simp only [Act.put, List.setIfInBounds_toArray, List.set_cons_zero, List.set_cons_succ]
        refine wpAnyH_take (i := 18) (oi := { dst := some 112, op := Go.Op.move (Go.Operand.tmp 1), type := 27, pos := "law.go:84", after := #[{ on := 12, ground := Go.Ground.guard }], guard := some (12, true) }) (v := ?v76f0f1) rfl (by kernel_rfl) (by kernel_rfl) (by kernel_rfl) (fun _ _ _ h => h) (Or.inl ⟨by rfl, ?hy76f0f1⟩) hHeld ?rest76f0f1
        case hy76f0f1 => (intro w hSw; (try dsimp only at hSw); obtain ⟨hS0, hS1, hS2⟩ := hSw; go_simp; (first | done | with_reducible rfl))
        try simp only [Act.put, List.setIfInBounds_toArray, List.set_cons_zero, List.set_cons_succ]
        refine wpAnyH_take (i := 19) (oi := { dst := some 113, op := Go.Op.move (Go.Operand.tmp 2), type := 3, pos := "law.go:84", after := #[{ on := 12, ground := Go.Ground.guard }], guard := some (12, true) }) (v := ?v77f0f1) rfl (by kernel_rfl) (by kernel_rfl) (by kernel_rfl) (fun _ _ _ h => h) (Or.inl ⟨by rfl, ?hy77f0f1⟩) hHeld ?rest77f0f1
        case hy77f0f1 => (intro w hSw; (try dsimp only at hSw); obtain ⟨hS0, hS1, hS2⟩ := hSw; go_simp; (first | done | with_reducible rfl))
        try simp only [Act.put, List.setIfInBounds_toArray, List.set_cons_zero, List.set_cons_succ]
        refine wpAnyH_take (i := 20) (oi := { dst := some 114, op := Go.Op.indexAddr 27 (Go.Operand.tmp 112) (Go.Operand.tmp 113), type := 0, pos := "law.go:84", after := #[{ on := 18, ground := Go.Ground.data }, { on := 19, ground := Go.Ground.data }, { on := 12, ground := Go.Ground.guard }], guard := some (12, true) }) (v := .pointer (some (ar.add (k * 2)))) rfl (by kernel_rfl) (by kernel_rfl) (by kernel_rfl) (fun _ _ _ h => h) (Or.inl ⟨by rfl, ?hy78f0f1⟩) hHeld ?rest78f0f1
        case hy78f0f1 => (intro w hSw; (try dsimp only at hSw); obtain ⟨hS0, hS1, hS2⟩ := hSw; go_simp; try (first | done | (intro hk3; exfalso; omega) | (rw [if_pos]; omega) | (simp; omega)); (first | done | with_reducible rfl))
        try simp only [Act.put, List.setIfInBounds_toArray, List.set_cons_zero, List.set_cons_succ]
        refine wpAnyH_take (i := 21) (oi := { dst := some 115, op := Go.Op.fieldAddr 33 (Go.Operand.tmp 114) 1, type := 0, pos := "law.go:84", after := #[{ on := 20, ground := Go.Ground.data }, { on := 12, ground := Go.Ground.guard }], guard := some (12, true) }) (v := ?v79f0f1) rfl (by kernel_rfl) (by kernel_rfl) (by kernel_rfl) (fun _ _ _ h => h) (Or.inl ⟨by rfl, ?hy79f0f1⟩) hHeld ?rest79f0f1
        case hy79f0f1 => (intro w hSw; (try dsimp only at hSw); obtain ⟨hS0, hS1, hS2⟩ := hSw; go_simp; (first | done | with_reducible rfl))
        try simp only [Act.put, List.setIfInBounds_toArray, List.set_cons_zero, List.set_cons_succ]
        refine wpAnyH_take (i := 22) (oi := { dst := some 116, op := Go.Op.load 31 (Go.Operand.tmp 115), type := 31, pos := "law.go:84", after := #[{ on := 21, ground := Go.Ground.data }, { on := 12, ground := Go.Ground.guard }], guard := some (12, true) }) (v := .slice A2 n2 c2) rfl (by kernel_rfl) (by kernel_rfl) (by kernel_rfl) (fun _ _ _ h => h) (Or.inl ⟨by rfl, ?hy80f0f1⟩) hHeld ?rest80f0f1
        case hy80f0f1 => (intro w hSw; (try dsimp only at hSw); obtain ⟨hS0, hS1, hS2⟩ := hSw; go_simp; try (first | done | (simp [hS0]; done) | (simp [hS1]; done) | (simp [hS2]; done) | (simp; omega) | omega); (first | done | with_reducible rfl))
        try simp only [Act.put, List.setIfInBounds_toArray, List.set_cons_zero, List.set_cons_succ]
        refine wpAnyH_ready (rs := [17]) (by kernel_rfl) (by simp) ?_
        refine AllReadyH.cons (o := agr_7_17) rfl (fun K hK => ?_) (AllReadyH.nil)
        dsimp only [agr_7_17]
        go_simp
        refine (cFs _ E).mono ?_
        rintro e w111 ⟨NA2, nc2, rfl, HQ3, x⟩
        have z81 := x.size
        replace E := E.trans x
        replace LB13 := LB13.ext x
        replace LB15 := LB15.ext x
        replace L0 := cell_ext (x) L0
        replace R0 := cell_ext (x) R0
        replace R1 := cell_ext (x) R1
        replace HQ1 := HQ1.ext x
        replace HQ2 := HQ2.ext x
        clear x
        clear hHeld
        have hHeld := And.intro (L0) (And.intro (R0) ((R1)))
        refine hK.out _ _ hHeld (fun _ => ?_)
        clear hK K
        try simp only [Act.put, List.setIfInBounds_toArray, List.set_cons_zero, List.set_cons_succ]
        refine wpAnyH_ready (rs := [23]) (by kernel_rfl) (by simp) ?_
        refine AllReadyH.cons (o := agr_7_23) rfl (fun K hK => ?_) (AllReadyH.nil)
        dsimp only [agr_7_23]
        go_simp
        refine (cM2 _ E).mono ?_
        rintro e w117 ⟨MA2, mc2, rfl, HQ4, x⟩
        have z82 := x.size
        replace E := E.trans x
        replace LB13 := LB13.ext x
        replace LB15 := LB15.ext x
        replace L0 := cell_ext (x) L0
        replace R0 := cell_ext (x) R0
        replace R1 := cell_ext (x) R1
        replace HQ1 := HQ1.ext x
        replace HQ2 := HQ2.ext x
        replace HQ3 := HQ3.ext x
        clear x
        clear hHeld
        have hHeld := And.intro (L0) (And.intro (R0) ((R1)))
        refine hK.out _ _ hHeld (fun _ => ?_)
        clear hK K
        try simp only [Act.put, List.setIfInBounds_toArray, List.set_cons_zero, List.set_cons_succ]
        refine wpAnyH_ready (rs := [24]) (by kernel_rfl) (by simp) ?_
        refine AllReadyH.cons (o := agr_7_24) rfl (fun K hK => ?_) (AllReadyH.nil)
        dsimp only [agr_7_24]
        go_simp
        refine (cT2 _ _ _ _ _ HQ3.is HQ4.is).mono ?_
        rintro e w118 ⟨rfl, x⟩
        have z83 := x.size
        replace E := E.trans x
        replace LB13 := LB13.ext x
        replace LB15 := LB15.ext x
        replace L0 := cell_ext (x) L0
        replace R0 := cell_ext (x) R0
        replace R1 := cell_ext (x) R1
        replace HQ1 := HQ1.ext x
        replace HQ2 := HQ2.ext x
        replace HQ3 := HQ3.ext x
        replace HQ4 := HQ4.ext x
        clear x
        clear hHeld
        have hHeld := And.intro (L0) (And.intro (R0) ((R1)))
        refine hK.out _ _ hHeld (fun _ => ?_)
        clear hK K
        try simp only [Act.put, List.setIfInBounds_toArray, List.set_cons_zero, List.set_cons_succ]
        refine wpAnyH_take (i := 25) (oi := { dst := some 119, op := Go.Op.pick (Go.Operand.tmp 106) (Go.Operand.tmp 118) (Go.Operand.const (Go.Value.bool false)), type := 4, pos := "law.go:84", after := #[{ on := 12, ground := Go.Ground.data }, { on := 24, ground := Go.Ground.data }], guard := none }) (v := ?v84f0f1) rfl (by kernel_rfl) (by kernel_rfl) (by kernel_rfl) (fun _ _ _ h => h) (Or.inl ⟨by rfl, ?hy84f0f1⟩) hHeld ?rest84f0f1
        case hy84f0f1 => (intro w hSw; (try dsimp only at hSw); obtain ⟨hS0, hS1, hS2⟩ := hSw; go_simp; (first | done | with_reducible rfl))
        try simp only [Act.put, List.setIfInBounds_toArray, List.set_cons_zero, List.set_cons_succ]
        refine wpAnyH_take (i := 26) (oi := { dst := some 8, op := Go.Op.assign (Go.Operand.tmp 119), type := 4, pos := "law.go:84", after := #[{ on := 25, ground := Go.Ground.data }, { on := 24, ground := Go.Ground.chain }, { on := 0, ground := Go.Ground.phase }, { on := 1, ground := Go.Ground.phase }, { on := 2, ground := Go.Ground.phase }, { on := 3, ground := Go.Ground.phase }, { on := 4, ground := Go.Ground.phase }, { on := 5, ground := Go.Ground.phase }, { on := 6, ground := Go.Ground.phase }, { on := 7, ground := Go.Ground.phase }, { on := 8, ground := Go.Ground.phase }, { on := 9, ground := Go.Ground.phase }, { on := 10, ground := Go.Ground.phase }, { on := 11, ground := Go.Ground.phase }, { on := 12, ground := Go.Ground.phase }, { on := 13, ground := Go.Ground.phase }, { on := 14, ground := Go.Ground.phase }, { on := 15, ground := Go.Ground.phase }, { on := 16, ground := Go.Ground.phase }, { on := 17, ground := Go.Ground.phase }, { on := 18, ground := Go.Ground.phase }, { on := 19, ground := Go.Ground.phase }, { on := 20, ground := Go.Ground.phase }, { on := 21, ground := Go.Ground.phase }, { on := 22, ground := Go.Ground.phase }, { on := 23, ground := Go.Ground.phase }, { on := 24, ground := Go.Ground.phase }, { on := 25, ground := Go.Ground.phase }], guard := none }) (v := ?v85f0f1) rfl (by kernel_rfl) (by kernel_rfl) (by kernel_rfl) (fun _ _ _ h => h) (Or.inl ⟨by rfl, ?hy85f0f1⟩) hHeld ?rest85f0f1
        case hy85f0f1 => (intro w hSw; (try dsimp only at hSw); obtain ⟨hS0, hS1, hS2⟩ := hSw; go_simp; (first | done | with_reducible rfl))
        try simp only [Act.put, List.setIfInBounds_toArray, List.set_cons_zero, List.set_cons_succ]
        refine wpAnyH_done (by kernel_rfl) ?_ _
        refine JD7_0 w118 NA1 nc1 MA1 mc1 NA2 nc2 MA2 mc2 ?_
        exact ⟨by omega, E, LB13, LB15⟩
      · intro wD7_0 NA1 nc1 MA1 mc1 NA2 nc2 MA2 mc2 hJ
        obtain ⟨z86, E, LB13, LB15⟩ := hJ
        try dsimp only
        go_wp2_with fail
        go_ret
        exact ⟨rfl, E⟩
    · obtain rfl := hmz2.symm
      obtain rfl := htz2.symm
      clear uf
      have Lj := cell_ext E (Li i hi)
      have hLj : (al.add i).block < w.heap.size := World.block_lt_of_cell? _ _ (Li i hi)
      clear Li
      generalize B i = bt at Lj ⊢
      dsimp only [cloV]
      have TB15 : True := trivial
      have TG9 : True := trivial
      go_wp2_with (first | (clear TB15; refine allocsC rfl rfl ?_; intro B15 w15 bB15 cB15 XB15 LB15 RB15; have z8 := XB15.size; replace E := E.trans XB15; replace L0 := cell_ext (XB15) L0; replace R0 := cell_ext (XB15) R0; replace R1 := cell_ext (XB15) R1; replace NA := NA.ext XB15; replace LB13 := LB13.ext XB15; replace Lj := cell_ext (XB15) Lj; have cB15_5 := lay_cell LB15 (j := 5) rfl; have cB15_7 := lay_cell LB15 (j := 7) rfl) | (clear TG9; have hRl := (RB15).lt (Nat.zero_lt_succ _); refine storesC (B := B15) rfl rfl rfl (v := (.agg #[.int .i64 13, .int .i64 0, .slice none 0 0, .slice none 0 0, .string ByteArray.empty, .int .i32 z2, .slice none 0 0, .pointer (some ⟨bt, 0, none⟩)])) rfl RB15 (cloV_flat z2 bt) ?_; clear LB15; clear cB15_5; clear cB15_7; intro s9 G9 LB15 RQ; have z10 := G9.size; replace E := grown_ext E G9 (by omega); replace L0 := cell_grown (G9) L0 (by show (al.add k).block ≠ _; omega); replace R0 := cell_grown (G9) R0 (by show (ar.add (k * 2)).block ≠ _; omega); replace R1 := cell_grown (G9) R1 (by show (ar.add (k * 2)).block ≠ _; omega); replace NA := NA.grown G9 (by first | omega | (dsimp only [New]; omega)); replace LB13 := LB13.grown G9 (by omega); replace Lj := cell_grown (G9) Lj (by show (al.add i).block ≠ _; omega); clear RB15; have RB15 := RQ; clear RQ hRl; have cB15_5 := lay_cell LB15 (j := 5) rfl; have cB15_7 := lay_cell LB15 (j := 7) rfl; clear RB15))
      try simp only [Act.put, List.setIfInBounds_toArray, List.set_cons_zero, List.set_cons_succ]
      have hq11 : s9.heap.size ≤ s9.drew.heap.size := Nat.le_refl _
      have z12 := (Ext.refl s9).drew.size
      replace E := E.trans (Ext.refl s9).drew
      replace L0 := cell_ext ((Ext.refl s9).drew) L0
      replace R0 := cell_ext ((Ext.refl s9).drew) R0
      replace R1 := cell_ext ((Ext.refl s9).drew) R1
      replace NA := NA.ext (Ext.refl s9).drew
      replace LB13 := LB13.ext (Ext.refl s9).drew
      replace Lj := cell_ext ((Ext.refl s9).drew) Lj
      replace LB15 := LB15.ext (Ext.refl s9).drew
      replace cB15_5 := cell_ext ((Ext.refl s9).drew) cB15_5
      replace cB15_7 := cell_ext ((Ext.refl s9).drew) cB15_7
      refine wp_region_held_drew (S := (fun w' => Lay 9 w' B13 (.agg #[.slice none 0 0, .int .i64 (k1 : Nat), .slice A1 n1 k11, .int .i64 bn, .slice A3 n3 k3, .slice A4 n4 k4, .slice A5 n5 k5, .slice A6 n6 k6, .slice A7 n7 k7]) ∧ w'.cell? ⟨B15, 5, none⟩ = some (.int .i32 z2) ∧ w'.cell? ⟨B15, 7, none⟩ = some (.pointer (some ⟨bt, 0, none⟩)) ∧ w'.cell? (al.add i) = some (.pointer (some ⟨bt, 0, none⟩)))) (by kernel_rfl) ⟨(LB13), (cB15_5), (cB15_7), (Lj)⟩ (fun hHeld => ?_)
      refine wpAnyH_take (i := 0) (oi := { dst := some 53, op := Go.Op.move (Go.Operand.tmp 14), type := 4, pos := "law.go:81", after := #[], guard := none }) (v := ?v13f1f1) rfl (by kernel_rfl) (by kernel_rfl) (by kernel_rfl) (fun _ _ _ h => h) (Or.inl ⟨by rfl, ?hy13f1f1⟩) hHeld ?rest13f1f1
      case hy13f1f1 => (intro w hSw; (try dsimp only at hSw); obtain ⟨hS0, hS1, hS2, hS3⟩ := hSw; go_simp; (first | done | with_reducible rfl))
      try simp only [Act.put, List.setIfInBounds_toArray, List.set_cons_zero, List.set_cons_succ]
      refine wpAnyH_take (i := 1) (oi := { dst := some 54, op := Go.Op.move (Go.Operand.tmp 9), type := 3, pos := "law.go:81", after := #[], guard := none }) (v := ?v14f1f1) rfl (by kernel_rfl) (by kernel_rfl) (by kernel_rfl) (fun _ _ _ h => h) (Or.inl ⟨by rfl, ?hy14f1f1⟩) hHeld ?rest14f1f1
      case hy14f1f1 => (intro w hSw; (try dsimp only at hSw); obtain ⟨hS0, hS1, hS2, hS3⟩ := hSw; go_simp; (first | done | with_reducible rfl))
      try simp only [Act.put, List.setIfInBounds_toArray, List.set_cons_zero, List.set_cons_succ]
      refine wpAnyH_take (i := 2) (oi := { dst := some 55, op := Go.Op.binOp Go.BinOp.geq 3 (Go.Operand.tmp 54) (Go.Operand.const (Go.Value.int Go.IntKind.i64 0)) 3, type := 4, pos := "law.go:81", after := #[{ on := 1, ground := Go.Ground.data }], guard := none }) (v := .bool true) rfl (by kernel_rfl) (by kernel_rfl) (by kernel_rfl) (fun _ _ _ h => h) (Or.inl ⟨by rfl, ?hy15f1f1⟩) hHeld ?rest15f1f1
      case hy15f1f1 => (intro w hSw; (try dsimp only at hSw); obtain ⟨hS0, hS1, hS2, hS3⟩ := hSw; go_simp; try (first | done | (simp [hS1]; done) | (simp [hS2]; done) | (simp [hS3]; done) | (simp; omega) | omega); (first | done | with_reducible rfl))
      try simp only [Act.put, List.setIfInBounds_toArray, List.set_cons_zero, List.set_cons_succ]
      refine wpAnyH_take (i := 3) (oi := { dst := some 56, op := Go.Op.binOp Go.BinOp.neq 4 (Go.Operand.tmp 53) (Go.Operand.tmp 55) 4, type := 4, pos := "law.go:81", after := #[{ on := 0, ground := Go.Ground.data }, { on := 2, ground := Go.Ground.data }], guard := none }) (v := ?v16f1f1) rfl (by kernel_rfl) (by kernel_rfl) (by kernel_rfl) (fun _ _ _ h => h) (Or.inl ⟨by rfl, ?hy16f1f1⟩) hHeld ?rest16f1f1
      case hy16f1f1 => (intro w hSw; (try dsimp only at hSw); obtain ⟨hS0, hS1, hS2, hS3⟩ := hSw; go_simp; (first | done | with_reducible rfl))
      try simp only [Act.put, List.setIfInBounds_toArray, List.set_cons_zero, List.set_cons_succ]
      refine wpAnyH_take (i := 4) (oi := { dst := some 57, op := Go.Op.move (Go.Operand.tmp 56), type := 4, pos := "law.go:81", after := #[{ on := 3, ground := Go.Ground.data }], guard := none }) (v := ?v17f1f1) rfl (by kernel_rfl) (by kernel_rfl) (by kernel_rfl) (fun _ _ _ h => h) (Or.inl ⟨by rfl, ?hy17f1f1⟩) hHeld ?rest17f1f1
      case hy17f1f1 => (intro w hSw; (try dsimp only at hSw); obtain ⟨hS0, hS1, hS2, hS3⟩ := hSw; go_simp; (first | done | with_reducible rfl))
      try simp only [Act.put, List.setIfInBounds_toArray, List.set_cons_zero, List.set_cons_succ]
      refine wpAnyH_take (i := 5) (oi := { dst := some 58, op := Go.Op.move (Go.Operand.tmp 16), type := 4, pos := "law.go:81", after := #[{ on := 4, ground := Go.Ground.guard }], guard := some (4, false) }) (v := ?v18f1f1) rfl (by kernel_rfl) (by kernel_rfl) (by kernel_rfl) (fun _ _ _ h => h) (Or.inl ⟨by rfl, ?hy18f1f1⟩) hHeld ?rest18f1f1
      case hy18f1f1 => (intro w hSw; (try dsimp only at hSw); obtain ⟨hS0, hS1, hS2, hS3⟩ := hSw; go_simp; (first | done | with_reducible rfl))
      try simp only [Act.put, List.setIfInBounds_toArray, List.set_cons_zero, List.set_cons_succ]
      refine wpAnyH_take (i := 6) (oi := { dst := some 59, op := Go.Op.move (Go.Operand.tmp 11), type := 3, pos := "law.go:81", after := #[{ on := 4, ground := Go.Ground.guard }], guard := some (4, false) }) (v := ?v19f1f1) rfl (by kernel_rfl) (by kernel_rfl) (by kernel_rfl) (fun _ _ _ h => h) (Or.inl ⟨by rfl, ?hy19f1f1⟩) hHeld ?rest19f1f1
      case hy19f1f1 => (intro w hSw; (try dsimp only at hSw); obtain ⟨hS0, hS1, hS2, hS3⟩ := hSw; go_simp; (first | done | with_reducible rfl))
      try simp only [Act.put, List.setIfInBounds_toArray, List.set_cons_zero, List.set_cons_succ]
      refine wpAnyH_take (i := 7) (oi := { dst := some 60, op := Go.Op.binOp Go.BinOp.geq 3 (Go.Operand.tmp 59) (Go.Operand.const (Go.Value.int Go.IntKind.i64 0)) 3, type := 4, pos := "law.go:81", after := #[{ on := 6, ground := Go.Ground.data }, { on := 4, ground := Go.Ground.guard }], guard := some (4, false) }) (v := .bool true) rfl (by kernel_rfl) (by kernel_rfl) (by kernel_rfl) (fun _ _ _ h => h) (Or.inl ⟨by rfl, ?hy20f1f1⟩) hHeld ?rest20f1f1
      case hy20f1f1 => (intro w hSw; (try dsimp only at hSw); obtain ⟨hS0, hS1, hS2, hS3⟩ := hSw; go_simp; try (first | done | (simp [hS1]; done) | (simp [hS2]; done) | (simp [hS3]; done) | (simp; omega) | omega); (first | done | with_reducible rfl))
      try simp only [Act.put, List.setIfInBounds_toArray, List.set_cons_zero, List.set_cons_succ]
      refine wpAnyH_take (i := 8) (oi := { dst := some 61, op := Go.Op.binOp Go.BinOp.neq 4 (Go.Operand.tmp 58) (Go.Operand.tmp 60) 4, type := 4, pos := "law.go:81", after := #[{ on := 5, ground := Go.Ground.data }, { on := 7, ground := Go.Ground.data }, { on := 4, ground := Go.Ground.guard }], guard := some (4, false) }) (v := ?v21f1f1) rfl (by kernel_rfl) (by kernel_rfl) (by kernel_rfl) (fun _ _ _ h => h) (Or.inl ⟨by rfl, ?hy21f1f1⟩) hHeld ?rest21f1f1
      case hy21f1f1 => (intro w hSw; (try dsimp only at hSw); obtain ⟨hS0, hS1, hS2, hS3⟩ := hSw; go_simp; (first | done | with_reducible rfl))
      try simp only [Act.put, List.setIfInBounds_toArray, List.set_cons_zero, List.set_cons_succ]
      refine wpAnyH_take (i := 9) (oi := { dst := some 62, op := Go.Op.pick (Go.Operand.tmp 57) (Go.Operand.const (Go.Value.bool true)) (Go.Operand.tmp 61), type := 4, pos := "law.go:81", after := #[{ on := 4, ground := Go.Ground.data }, { on := 8, ground := Go.Ground.data }], guard := none }) (v := ?v22f1f1) rfl (by kernel_rfl) (by kernel_rfl) (by kernel_rfl) (fun _ _ _ h => h) (Or.inl ⟨by rfl, ?hy22f1f1⟩) hHeld ?rest22f1f1
      case hy22f1f1 => (intro w hSw; (try dsimp only at hSw); obtain ⟨hS0, hS1, hS2, hS3⟩ := hSw; go_simp; (first | done | with_reducible rfl))
      try simp only [Act.put, List.setIfInBounds_toArray, List.set_cons_zero, List.set_cons_succ]
      refine wpAnyH_take (i := 10) (oi := { dst := some 63, op := Go.Op.move (Go.Operand.tmp 62), type := 4, pos := "law.go:81", after := #[{ on := 9, ground := Go.Ground.data }, { on := 4, ground := Go.Ground.chain }], guard := none }) (v := ?v23f1f1) rfl (by kernel_rfl) (by kernel_rfl) (by kernel_rfl) (fun _ _ _ h => h) (Or.inl ⟨by rfl, ?hy23f1f1⟩) hHeld ?rest23f1f1
      case hy23f1f1 => (intro w hSw; (try dsimp only at hSw); obtain ⟨hS0, hS1, hS2, hS3⟩ := hSw; go_simp; (first | done | with_reducible rfl))
      try simp only [Act.put, List.setIfInBounds_toArray, List.set_cons_zero, List.set_cons_succ]
      refine wpAnyH_take (i := 11) (oi := { dst := some 64, op := Go.Op.move (Go.Operand.tmp 14), type := 4, pos := "law.go:81", after := #[{ on := 10, ground := Go.Ground.guard }], guard := some (10, false) }) (v := ?v24f1f1) rfl (by kernel_rfl) (by kernel_rfl) (by kernel_rfl) (fun _ _ _ h => h) (Or.inl ⟨by rfl, ?hy24f1f1⟩) hHeld ?rest24f1f1
      case hy24f1f1 => (intro w hSw; (try dsimp only at hSw); obtain ⟨hS0, hS1, hS2, hS3⟩ := hSw; go_simp; (first | done | with_reducible rfl))
      try simp only [Act.put, List.setIfInBounds_toArray, List.set_cons_zero, List.set_cons_succ]
      refine wpAnyH_take (i := 12) (oi := { dst := some 65, op := Go.Op.move (Go.Operand.tmp 64), type := 4, pos := "law.go:81", after := #[{ on := 11, ground := Go.Ground.data }, { on := 10, ground := Go.Ground.chain }, { on := 10, ground := Go.Ground.guard }], guard := some (10, false) }) (v := ?v25f1f1) rfl (by kernel_rfl) (by kernel_rfl) (by kernel_rfl) (fun _ _ _ h => h) (Or.inl ⟨by rfl, ?hy25f1f1⟩) hHeld ?rest25f1f1
      case hy25f1f1 => (intro w hSw; (try dsimp only at hSw); obtain ⟨hS0, hS1, hS2, hS3⟩ := hSw; go_simp; (first | done | with_reducible rfl))
      try simp only [Act.put, List.setIfInBounds_toArray, List.set_cons_zero, List.set_cons_succ]
      refine wpAnyH_take (i := 13) (oi := { dst := some 66, op := Go.Op.fieldAddr 49 (Go.Operand.tmp 13) 1, type := 0, pos := "law.go:81", after := #[{ on := 12, ground := Go.Ground.guard }], guard := some (12, true) }) (v := ?v26f1f1) rfl (by kernel_rfl) (by kernel_rfl) (by kernel_rfl) (fun _ _ _ h => h) (Or.inl ⟨by rfl, ?hy26f1f1⟩) hHeld ?rest26f1f1
      case hy26f1f1 => (intro w hSw; (try dsimp only at hSw); obtain ⟨hS0, hS1, hS2, hS3⟩ := hSw; go_simp; (first | done | with_reducible rfl))
      try simp only [Act.put, List.setIfInBounds_toArray, List.set_cons_zero, List.set_cons_succ]
      refine wpAnyH_take (i := 14) (oi := { dst := some 67, op := Go.Op.load 47 (Go.Operand.tmp 66), type := 47, pos := "law.go:81", after := #[{ on := 13, ground := Go.Ground.data }, { on := 12, ground := Go.Ground.guard }], guard := some (12, true) }) (v := (.agg #[.int .i64 (k1 : Nat), .slice A1 n1 k11, .int .i64 bn, .slice A3 n3 k3, .slice A4 n4 k4, .slice A5 n5 k5, .slice A6 n6 k6, .slice A7 n7 k7])) rfl (by kernel_rfl) (by kernel_rfl) (by kernel_rfl) (fun _ _ _ h => h) (yields_vecin (by rfl) rfl rfl fun w' hx => hx.1) hHeld ?_
      try simp only [Act.put, List.setIfInBounds_toArray, List.set_cons_zero, List.set_cons_succ]
      refine wpAnyH_take (i := 16) (oi := { dst := some 69, op := Go.Op.move (Go.Operand.tmp 9), type := 3, pos := "law.go:81", after := #[{ on := 12, ground := Go.Ground.guard }], guard := some (12, true) }) (v := ?v28f1f1) rfl (by kernel_rfl) (by kernel_rfl) (by kernel_rfl) (fun _ _ _ h => h) (Or.inl ⟨by rfl, ?hy28f1f1⟩) hHeld ?rest28f1f1
      case hy28f1f1 => (intro w hSw; (try dsimp only at hSw); obtain ⟨hS0, hS1, hS2, hS3⟩ := hSw; go_simp; (first | done | with_reducible rfl))
      try simp only [Act.put, List.setIfInBounds_toArray, List.set_cons_zero, List.set_cons_succ]
      refine wpAnyH_take (i := 17) (oi := { dst := some 70, op := Go.Op.convert 3 75 (Go.Operand.tmp 69), type := 75, pos := "law.go:81", after := #[{ on := 16, ground := Go.Ground.data }, { on := 12, ground := Go.Ground.guard }], guard := some (12, true) }) (v := .float .f64 y) rfl (by kernel_rfl) (by kernel_rfl) (by kernel_rfl) (fun _ _ _ h => h) (Or.inl ⟨by rfl, ?hy29f1f1⟩) hHeld ?rest29f1f1
      case hy29f1f1 => (intro w hSw; (try dsimp only at hSw); obtain ⟨hS0, hS1, hS2, hS3⟩ := hSw; go_simp; try (first | done | (simp [hfc]; done) | (rw [hfc]; done)); (first | done | with_reducible rfl))
      try simp only [Act.put, List.setIfInBounds_toArray, List.set_cons_zero, List.set_cons_succ]
      refine wpAnyH_ready (rs := [15]) (by kernel_rfl) (by simp) ?_
      refine AllReadyH.cons (o := agr_5_15) rfl (fun K hK => ?_) (AllReadyH.nil)
      dsimp only [agr_5_15]
      go_simp
      refine (cU (.agg #[.int .i64 (k1 : Nat), .slice A1 n1 k11, .int .i64 bn, .slice A3 n3 k3, .slice A4 n4 k4, .slice A5 n5 k5, .slice A6 n6 k6, .slice A7 n7 k7]) _ _ NA.is).mono ?_
      rintro e w68 ⟨rfl, x⟩
      have z30 := x.size
      replace E := E.trans x
      replace L0 := cell_ext (x) L0
      replace R0 := cell_ext (x) R0
      replace R1 := cell_ext (x) R1
      replace NA := NA.ext x
      replace LB13 := LB13.ext x
      replace Lj := cell_ext (x) Lj
      replace LB15 := LB15.ext x
      replace cB15_5 := cell_ext (x) cB15_5
      replace cB15_7 := cell_ext (x) cB15_7
      clear x
      clear hHeld
      have hHeld := And.intro (LB13) (And.intro (cB15_5) (And.intro (cB15_7) ((Lj))))
      refine hK.out _ _ hHeld (fun _ => ?_)
      clear hK K
      try simp only [Act.put, List.setIfInBounds_toArray, List.set_cons_zero, List.set_cons_succ]
      refine wpAnyH_take (i := 18) (oi := { dst := some 71, op := Go.Op.binOp Go.BinOp.neq 75 (Go.Operand.tmp 68) (Go.Operand.tmp 70) 75, type := 4, pos := "law.go:81", after := #[{ on := 15, ground := Go.Ground.data }, { on := 17, ground := Go.Ground.data }, { on := 12, ground := Go.Ground.guard }], guard := some (12, true) }) (v := .bool false) rfl (by kernel_rfl) (by kernel_rfl) (by kernel_rfl) (fun _ _ _ h => h) (Or.inl ⟨by rfl, ?hy31f1f1⟩) hHeld ?rest31f1f1
      case hy31f1f1 => (intro w hSw; (try dsimp only at hSw); obtain ⟨hS0, hS1, hS2, hS3⟩ := hSw; go_simp; try (first | done | (simp [he]; done) | simp_all); (first | done | with_reducible rfl))
      try simp only [Act.put, List.setIfInBounds_toArray, List.set_cons_zero, List.set_cons_succ]
      refine wpAnyH_take (i := 19) (oi := { dst := some 72, op := Go.Op.pick (Go.Operand.tmp 65) (Go.Operand.tmp 71) (Go.Operand.const (Go.Value.bool false)), type := 4, pos := "law.go:81", after := #[{ on := 12, ground := Go.Ground.data }, { on := 18, ground := Go.Ground.data }, { on := 10, ground := Go.Ground.guard }], guard := some (10, false) }) (v := ?v32f1f1) rfl (by kernel_rfl) (by kernel_rfl) (by kernel_rfl) (fun _ _ _ h => h) (Or.inl ⟨by rfl, ?hy32f1f1⟩) hHeld ?rest32f1f1
      case hy32f1f1 => (intro w hSw; (try dsimp only at hSw); obtain ⟨hS0, hS1, hS2, hS3⟩ := hSw; go_simp; (first | done | with_reducible rfl))
      try simp only [Act.put, List.setIfInBounds_toArray, List.set_cons_zero, List.set_cons_succ]
      refine wpAnyH_take (i := 20) (oi := { dst := some 73, op := Go.Op.pick (Go.Operand.tmp 63) (Go.Operand.const (Go.Value.bool true)) (Go.Operand.tmp 72), type := 4, pos := "law.go:81", after := #[{ on := 10, ground := Go.Ground.data }, { on := 19, ground := Go.Ground.data }], guard := none }) (v := ?v33f1f1) rfl (by kernel_rfl) (by kernel_rfl) (by kernel_rfl) (fun _ _ _ h => h) (Or.inl ⟨by rfl, ?hy33f1f1⟩) hHeld ?rest33f1f1
      case hy33f1f1 => (intro w hSw; (try dsimp only at hSw); obtain ⟨hS0, hS1, hS2, hS3⟩ := hSw; go_simp; (first | done | with_reducible rfl))
      try simp only [Act.put, List.setIfInBounds_toArray, List.set_cons_zero, List.set_cons_succ]
      refine wpAnyH_take (i := 21) (oi := { dst := some 74, op := Go.Op.move (Go.Operand.tmp 73), type := 4, pos := "law.go:81", after := #[{ on := 20, ground := Go.Ground.data }, { on := 15, ground := Go.Ground.chain }], guard := none }) (v := ?v34f1f1) rfl (by kernel_rfl) (by kernel_rfl) (by kernel_rfl) (fun _ _ _ h => h) (Or.inl ⟨by rfl, ?hy34f1f1⟩) hHeld ?rest34f1f1
      case hy34f1f1 => (intro w hSw; (try dsimp only at hSw); obtain ⟨hS0, hS1, hS2, hS3⟩ := hSw; go_simp; (first | done | with_reducible rfl))
      try simp only [Act.put, List.setIfInBounds_toArray, List.set_cons_zero, List.set_cons_succ]
      refine wpAnyH_take (i := 22) (oi := { dst := some 75, op := Go.Op.move (Go.Operand.tmp 16), type := 4, pos := "law.go:81", after := #[{ on := 21, ground := Go.Ground.guard }], guard := some (21, false) }) (v := ?v35f1f1) rfl (by kernel_rfl) (by kernel_rfl) (by kernel_rfl) (fun _ _ _ h => h) (Or.inl ⟨by rfl, ?hy35f1f1⟩) hHeld ?rest35f1f1
      case hy35f1f1 => (intro w hSw; (try dsimp only at hSw); obtain ⟨hS0, hS1, hS2, hS3⟩ := hSw; go_simp; (first | done | with_reducible rfl))
      try simp only [Act.put, List.setIfInBounds_toArray, List.set_cons_zero, List.set_cons_succ]
      refine wpAnyH_take (i := 23) (oi := { dst := some 76, op := Go.Op.move (Go.Operand.tmp 75), type := 4, pos := "law.go:81", after := #[{ on := 22, ground := Go.Ground.data }, { on := 21, ground := Go.Ground.chain }, { on := 21, ground := Go.Ground.guard }], guard := some (21, false) }) (v := ?v36f1f1) rfl (by kernel_rfl) (by kernel_rfl) (by kernel_rfl) (fun _ _ _ h => h) (Or.inl ⟨by rfl, ?hy36f1f1⟩) hHeld ?rest36f1f1
      case hy36f1f1 => (intro w hSw; (try dsimp only at hSw); obtain ⟨hS0, hS1, hS2, hS3⟩ := hSw; go_simp; (first | done | with_reducible rfl))
      try simp only [Act.put, List.setIfInBounds_toArray, List.set_cons_zero, List.set_cons_succ]
      refine wpAnyH_take (i := 24) (oi := { dst := some 77, op := Go.Op.fieldAddr 66 (Go.Operand.tmp 15) 0, type := 0, pos := "law.go:81", after := #[{ on := 23, ground := Go.Ground.guard }], guard := some (23, true) }) (v := ?v37f1f1) rfl (by kernel_rfl) (by kernel_rfl) (by kernel_rfl) (fun _ _ _ h => h) (Or.inl ⟨by rfl, ?hy37f1f1⟩) hHeld ?rest37f1f1
      case hy37f1f1 => (intro w hSw; (try dsimp only at hSw); obtain ⟨hS0, hS1, hS2, hS3⟩ := hSw; go_simp; (first | done | with_reducible rfl))
      try simp only [Act.put, List.setIfInBounds_toArray, List.set_cons_zero, List.set_cons_succ]
      refine wpAnyH_take (i := 25) (oi := { dst := some 78, op := Go.Op.fieldAddr 54 (Go.Operand.tmp 77) 5, type := 0, pos := "law.go:81", after := #[{ on := 24, ground := Go.Ground.data }, { on := 23, ground := Go.Ground.guard }], guard := some (23, true) }) (v := ?v38f1f1) rfl (by kernel_rfl) (by kernel_rfl) (by kernel_rfl) (fun _ _ _ h => h) (Or.inl ⟨by rfl, ?hy38f1f1⟩) hHeld ?rest38f1f1
      case hy38f1f1 => (intro w hSw; (try dsimp only at hSw); obtain ⟨hS0, hS1, hS2, hS3⟩ := hSw; go_simp; (first | done | with_reducible rfl))
      try simp only [Act.put, List.setIfInBounds_toArray, List.set_cons_zero, List.set_cons_succ]
      refine wpAnyH_take (i := 26) (oi := { dst := some 79, op := Go.Op.load 21 (Go.Operand.tmp 78), type := 21, pos := "law.go:81", after := #[{ on := 25, ground := Go.Ground.data }, { on := 23, ground := Go.Ground.guard }], guard := some (23, true) }) (v := .int .i32 z2) rfl (by kernel_rfl) (by kernel_rfl) (by kernel_rfl) (fun _ _ _ h => h) (Or.inl ⟨by rfl, ?hy39f1f1⟩) hHeld ?rest39f1f1
      case hy39f1f1 => (intro w hSw; (try dsimp only at hSw); obtain ⟨hS0, hS1, hS2, hS3⟩ := hSw; go_simp; try (first | done | (simp [hS1]; done) | (simp [hS2]; done) | (simp [hS3]; done) | (simp; omega) | omega); (first | done | with_reducible rfl))
      try simp only [Act.put, List.setIfInBounds_toArray, List.set_cons_zero, List.set_cons_succ]
      refine wpAnyH_take (i := 27) (oi := { dst := some 80, op := Go.Op.convert 21 3 (Go.Operand.tmp 79), type := 3, pos := "law.go:81", after := #[{ on := 26, ground := Go.Ground.data }, { on := 23, ground := Go.Ground.guard }], guard := some (23, true) }) (v := .int .i64 z2) rfl (by kernel_rfl) (by kernel_rfl) (by kernel_rfl) (fun _ _ _ h => h) (Or.inl ⟨by rfl, ?hy40f1f1⟩) hHeld ?rest40f1f1
      case hy40f1f1 => (intro w hSw; (try dsimp only at hSw); obtain ⟨hS0, hS1, hS2, hS3⟩ := hSw; go_simp; try (first | done | exact wrap_small (by omega) (by omega) | (rw [wrap_small (by omega) (by omega)]; done)); (first | done | with_reducible rfl))
      try simp only [Act.put, List.setIfInBounds_toArray, List.set_cons_zero, List.set_cons_succ]
      refine wpAnyH_take (i := 28) (oi := { dst := some 81, op := Go.Op.move (Go.Operand.tmp 11), type := 3, pos := "law.go:81", after := #[{ on := 23, ground := Go.Ground.guard }], guard := some (23, true) }) (v := ?v41f1f1) rfl (by kernel_rfl) (by kernel_rfl) (by kernel_rfl) (fun _ _ _ h => h) (Or.inl ⟨by rfl, ?hy41f1f1⟩) hHeld ?rest41f1f1
      case hy41f1f1 => (intro w hSw; (try dsimp only at hSw); obtain ⟨hS0, hS1, hS2, hS3⟩ := hSw; go_simp; (first | done | with_reducible rfl))
      try simp only [Act.put, List.setIfInBounds_toArray, List.set_cons_zero, List.set_cons_succ]
      refine wpAnyH_take (i := 29) (oi := { dst := some 82, op := Go.Op.binOp Go.BinOp.neq 3 (Go.Operand.tmp 80) (Go.Operand.tmp 81) 3, type := 4, pos := "law.go:81", after := #[{ on := 27, ground := Go.Ground.data }, { on := 28, ground := Go.Ground.data }, { on := 23, ground := Go.Ground.guard }], guard := some (23, true) }) (v := .bool false) rfl (by kernel_rfl) (by kernel_rfl) (by kernel_rfl) (fun _ _ _ h => h) (Or.inl ⟨by rfl, ?hy42f1f1⟩) hHeld ?rest42f1f1
      case hy42f1f1 => (intro w hSw; (try dsimp only at hSw); obtain ⟨hS0, hS1, hS2, hS3⟩ := hSw; go_simp; try (first | done | (simp [hS1]; done) | (simp [hS2]; done) | (simp [hS3]; done) | (simp; omega) | omega); (first | done | with_reducible rfl))
      try simp only [Act.put, List.setIfInBounds_toArray, List.set_cons_zero, List.set_cons_succ]
      refine wpAnyH_take (i := 30) (oi := { dst := some 83, op := Go.Op.move (Go.Operand.tmp 82), type := 4, pos := "law.go:81", after := #[{ on := 29, ground := Go.Ground.data }, { on := 23, ground := Go.Ground.chain }, { on := 23, ground := Go.Ground.guard }], guard := some (23, true) }) (v := ?v43f1f1) rfl (by kernel_rfl) (by kernel_rfl) (by kernel_rfl) (fun _ _ _ h => h) (Or.inl ⟨by rfl, ?hy43f1f1⟩) hHeld ?rest43f1f1
      case hy43f1f1 => (intro w hSw; (try dsimp only at hSw); obtain ⟨hS0, hS1, hS2, hS3⟩ := hSw; go_simp; (first | done | with_reducible rfl))
      try simp only [Act.put, List.setIfInBounds_toArray, List.set_cons_zero, List.set_cons_succ]
      refine wpAnyH_take (i := 31) (oi := { dst := some 84, op := Go.Op.fieldAddr 66 (Go.Operand.tmp 15) 1, type := 0, pos := "law.go:81", after := #[{ on := 30, ground := Go.Ground.guard }], guard := some (30, false) }) (v := ?v44f1f1) rfl (by kernel_rfl) (by kernel_rfl) (by kernel_rfl) (fun _ _ _ h => h) (Or.inl ⟨by rfl, ?hy44f1f1⟩) hHeld ?rest44f1f1
      case hy44f1f1 => (intro w hSw; (try dsimp only at hSw); obtain ⟨hS0, hS1, hS2, hS3⟩ := hSw; go_simp; (first | done | with_reducible rfl))
      try simp only [Act.put, List.setIfInBounds_toArray, List.set_cons_zero, List.set_cons_succ]
      refine wpAnyH_take (i := 32) (oi := { dst := some 85, op := Go.Op.load 24 (Go.Operand.tmp 84), type := 24, pos := "law.go:81", after := #[{ on := 31, ground := Go.Ground.data }, { on := 30, ground := Go.Ground.guard }], guard := some (30, false) }) (v := .pointer (some ⟨bt, 0, none⟩)) rfl (by kernel_rfl) (by kernel_rfl) (by kernel_rfl) (fun _ _ _ h => h) (Or.inl ⟨by rfl, ?hy45f1f1⟩) hHeld ?rest45f1f1
      case hy45f1f1 => (intro w hSw; (try dsimp only at hSw); obtain ⟨hS0, hS1, hS2, hS3⟩ := hSw; go_simp; try (first | done | (simp [hS1]; done) | (simp [hS2]; done) | (simp [hS3]; done) | (simp; omega) | omega); (first | done | with_reducible rfl))
      try simp only [Act.put, List.setIfInBounds_toArray, List.set_cons_zero, List.set_cons_succ]
      refine wpAnyH_take (i := 33) (oi := { dst := some 86, op := Go.Op.move (Go.Operand.tmp 0), type := 26, pos := "law.go:81", after := #[{ on := 30, ground := Go.Ground.guard }], guard := some (30, false) }) (v := ?v46f1f1) rfl (by kernel_rfl) (by kernel_rfl) (by kernel_rfl) (fun _ _ _ h => h) (Or.inl ⟨by rfl, ?hy46f1f1⟩) hHeld ?rest46f1f1
      case hy46f1f1 => (intro w hSw; (try dsimp only at hSw); obtain ⟨hS0, hS1, hS2, hS3⟩ := hSw; go_simp; (first | done | with_reducible rfl))
      try simp only [Act.put, List.setIfInBounds_toArray, List.set_cons_zero, List.set_cons_succ]
      refine wpAnyH_take (i := 34) (oi := { dst := some 87, op := Go.Op.move (Go.Operand.tmp 12), type := 3, pos := "law.go:81", after := #[{ on := 30, ground := Go.Ground.guard }], guard := some (30, false) }) (v := ?v47f1f1) rfl (by kernel_rfl) (by kernel_rfl) (by kernel_rfl) (fun _ _ _ h => h) (Or.inl ⟨by rfl, ?hy47f1f1⟩) hHeld ?rest47f1f1
      case hy47f1f1 => (intro w hSw; (try dsimp only at hSw); obtain ⟨hS0, hS1, hS2, hS3⟩ := hSw; go_simp; (first | done | with_reducible rfl))
      try simp only [Act.put, List.setIfInBounds_toArray, List.set_cons_zero, List.set_cons_succ]
      refine wpAnyH_take (i := 35) (oi := { dst := some 88, op := Go.Op.indexAddr 26 (Go.Operand.tmp 86) (Go.Operand.tmp 87), type := 0, pos := "law.go:81", after := #[{ on := 33, ground := Go.Ground.data }, { on := 34, ground := Go.Ground.data }, { on := 30, ground := Go.Ground.guard }], guard := some (30, false) }) (v := .pointer (some (al.add i))) rfl (by kernel_rfl) (by kernel_rfl) (by kernel_rfl) (fun _ _ _ h => h) (Or.inl ⟨by rfl, ?hy48f1f1⟩) hHeld ?rest48f1f1
      case hy48f1f1 => (intro w hSw; (try dsimp only at hSw); obtain ⟨hS0, hS1, hS2, hS3⟩ := hSw; go_simp; try (first | done | (intro hk3; exfalso; omega) | (rw [if_pos]; omega) | (simp; omega)); (first | done | with_reducible rfl))
      try simp only [Act.put, List.setIfInBounds_toArray, List.set_cons_zero, List.set_cons_succ]
      refine wpAnyH_take (i := 36) (oi := { dst := some 89, op := Go.Op.load 24 (Go.Operand.tmp 88), type := 24, pos := "law.go:81", after := #[{ on := 35, ground := Go.Ground.data }, { on := 30, ground := Go.Ground.guard }], guard := some (30, false) }) (v := .pointer (some ⟨bt, 0, none⟩)) rfl (by kernel_rfl) (by kernel_rfl) (by kernel_rfl) (fun _ _ _ h => h) (Or.inl ⟨by rfl, ?hy49f1f1⟩) hHeld ?rest49f1f1
      case hy49f1f1 => (intro w hSw; (try dsimp only at hSw); obtain ⟨hS0, hS1, hS2, hS3⟩ := hSw; go_simp; try (first | done | (simp [hS1]; done) | (simp [hS2]; done) | (simp [hS3]; done) | (simp; omega) | omega); (first | done | with_reducible rfl))
      try simp only [Act.put, List.setIfInBounds_toArray, List.set_cons_zero, List.set_cons_succ]
      refine wpAnyH_take (i := 37) (oi := { dst := some 90, op := Go.Op.binOp Go.BinOp.neq 24 (Go.Operand.tmp 85) (Go.Operand.tmp 89) 24, type := 4, pos := "law.go:81", after := #[{ on := 32, ground := Go.Ground.data }, { on := 36, ground := Go.Ground.data }, { on := 30, ground := Go.Ground.guard }], guard := some (30, false) }) (v := .bool false) rfl (by kernel_rfl) (by kernel_rfl) (by kernel_rfl) (fun _ _ _ h => h) (Or.inl ⟨by rfl, ?hy50f1f1⟩) hHeld ?rest50f1f1
      case hy50f1f1 => (intro w hSw; (try dsimp only at hSw); obtain ⟨hS0, hS1, hS2, hS3⟩ := hSw; go_simp; try (first | done | (simp [neq_env]; done) | (rw [neq_env]; rfl)); (first | done | with_reducible rfl))
      try simp only [Act.put, List.setIfInBounds_toArray, List.set_cons_zero, List.set_cons_succ]
      refine wpAnyH_take (i := 38) (oi := { dst := some 91, op := Go.Op.pick (Go.Operand.tmp 83) (Go.Operand.const (Go.Value.bool true)) (Go.Operand.tmp 90), type := 4, pos := "law.go:81", after := #[{ on := 30, ground := Go.Ground.data }, { on := 37, ground := Go.Ground.data }, { on := 23, ground := Go.Ground.guard }], guard := some (23, true) }) (v := ?v51f1f1) rfl (by kernel_rfl) (by kernel_rfl) (by kernel_rfl) (fun _ _ _ h => h) (Or.inl ⟨by rfl, ?hy51f1f1⟩) hHeld ?rest51f1f1
      case hy51f1f1 => (intro w hSw; (try dsimp only at hSw); obtain ⟨hS0, hS1, hS2, hS3⟩ := hSw; go_simp; (first | done | with_reducible rfl))
      try simp only [Act.put, List.setIfInBounds_toArray, List.set_cons_zero, List.set_cons_succ]
      refine wpAnyH_take (i := 39) (oi := { dst := some 92, op := Go.Op.pick (Go.Operand.tmp 76) (Go.Operand.tmp 91) (Go.Operand.const (Go.Value.bool false)), type := 4, pos := "law.go:81", after := #[{ on := 23, ground := Go.Ground.data }, { on := 38, ground := Go.Ground.data }, { on := 21, ground := Go.Ground.guard }], guard := some (21, false) }) (v := ?v52f1f1) rfl (by kernel_rfl) (by kernel_rfl) (by kernel_rfl) (fun _ _ _ h => h) (Or.inl ⟨by rfl, ?hy52f1f1⟩) hHeld ?rest52f1f1
      case hy52f1f1 => (intro w hSw; (try dsimp only at hSw); obtain ⟨hS0, hS1, hS2, hS3⟩ := hSw; go_simp; (first | done | with_reducible rfl))
      try simp only [Act.put, List.setIfInBounds_toArray, List.set_cons_zero, List.set_cons_succ]
      refine wpAnyH_take (i := 40) (oi := { dst := some 93, op := Go.Op.pick (Go.Operand.tmp 74) (Go.Operand.const (Go.Value.bool true)) (Go.Operand.tmp 92), type := 4, pos := "law.go:81", after := #[{ on := 21, ground := Go.Ground.data }, { on := 39, ground := Go.Ground.data }], guard := none }) (v := ?v53f1f1) rfl (by kernel_rfl) (by kernel_rfl) (by kernel_rfl) (fun _ _ _ h => h) (Or.inl ⟨by rfl, ?hy53f1f1⟩) hHeld ?rest53f1f1
      case hy53f1f1 => (intro w hSw; (try dsimp only at hSw); obtain ⟨hS0, hS1, hS2, hS3⟩ := hSw; go_simp; (first | done | with_reducible rfl))
      try simp only [Act.put, List.setIfInBounds_toArray, List.set_cons_zero, List.set_cons_succ]
      refine wpAnyH_done (by kernel_rfl) ?_ _
      go_wp2_with fail
      try simp only [Act.put, List.setIfInBounds_toArray, List.set_cons_zero, List.set_cons_succ]
      apply joinK0 (F := fun (wS7 : World) => w68.heap.size ≤ wS7.heap.size ∧ Ext w wS7 ∧ Lay 9 wS7 B13 (.agg #[.slice none 0 0, .int .i64 (k1 : Nat), .slice A1 n1 k11, .int .i64 bn, .slice A3 n3 k3, .slice A4 n4 k4, .slice A5 n5 k5, .slice A6 n6 k6, .slice A7 n7 k7]) ∧ Lay 8 wS7 B15 (.agg #[.int .i64 13, .int .i64 0, .slice none 0 0, .slice none 0 0, .string ByteArray.empty, .int .i32 z2, .slice none 0 0, .pointer (some ⟨bt, 0, none⟩)]) ∧ wS7.cell? (al.add k) = some (.pointer (some ⟨b, 0, none⟩)) ∧ wS7.cell? (ar.add (k * 2)) = some (.slice A n c) ∧ wS7.cell? ⟨(ar.add (k * 2)).block, (ar.add (k * 2)).off + 1, none⟩ = some (.slice A2 n2 c2))
      · intro J
        refine J w68 ?_
        exact ⟨Nat.le_refl _, E, LB13, LB15, L0, R0, R1⟩
      intro wS7 hJS
      clear E L0 R0 R1 NA LB13 Lj LB15 cB15_5 cB15_7
      refine wp_region_held_drew (S := (fun w' => w'.cell? (al.add k) = some (.pointer (some ⟨b, 0, none⟩)) ∧ w'.cell? (ar.add (k * 2)) = some (.slice A n c) ∧ w'.cell? ⟨(ar.add (k * 2)).block, (ar.add (k * 2)).off + 1, none⟩ = some (.slice A2 n2 c2))) (by kernel_rfl) (by obtain ⟨z56, E, LB13, LB15, L0, R0, R1⟩ := hJS; exact ⟨(L0), (R0), (R1)⟩) (fun hH0 => ?_)
      apply joinK8 (F := fun (wD7_0 : World) (NA1 : Option Addr) (nc1 : Nat) (MA1 : Option Addr) (mc1 : Nat) (NA2 : Option Addr) (nc2 : Nat) (MA2 : Option Addr) (mc2 : Nat) => wS7.heap.size ≤ wD7_0.heap.size ∧ Ext w wD7_0 ∧ Lay 9 wD7_0 B13 (.agg #[.slice none 0 0, .int .i64 (k1 : Nat), .slice A1 n1 k11, .int .i64 bn, .slice A3 n3 k3, .slice A4 n4 k4, .slice A5 n5 k5, .slice A6 n6 k6, .slice A7 n7 k7]) ∧ Lay 8 wD7_0 B15 (.agg #[.int .i64 13, .int .i64 0, .slice none 0 0, .slice none 0 0, .string ByteArray.empty, .int .i32 z2, .slice none 0 0, .pointer (some ⟨bt, 0, none⟩)]))
      intro JD7_0
      · have hJQ := hJS
        obtain ⟨z56, E, LB13, LB15, L0, R0, R1⟩ := hJQ
        have hq57 : wS7.heap.size ≤ wS7.drew.heap.size := Nat.le_refl _
        have z58 := (Ext.refl wS7).drew.size
        replace E := E.trans (Ext.refl wS7).drew
        replace LB13 := LB13.ext (Ext.refl wS7).drew
        replace LB15 := LB15.ext (Ext.refl wS7).drew
        replace L0 := cell_ext ((Ext.refl wS7).drew) L0
        replace R0 := cell_ext ((Ext.refl wS7).drew) R0
        replace R1 := cell_ext ((Ext.refl wS7).drew) R1
        have hHeld := And.intro (L0) (And.intro (R0) ((R1)))
        refine wpAnyH_take (i := 0) (oi := { dst := some 94, op := Go.Op.move (Go.Operand.tmp 0), type := 26, pos := "law.go:84", after := #[], guard := none }) (v := ?v59f1f1) rfl (by kernel_rfl) (by kernel_rfl) (by kernel_rfl) (fun _ _ _ h => h) (Or.inl ⟨by rfl, ?hy59f1f1⟩) hHeld ?rest59f1f1
        case hy59f1f1 => (intro w hSw; (try dsimp only at hSw); obtain ⟨hS0, hS1, hS2⟩ := hSw; go_simp; (first | done | with_reducible rfl))
        try simp only [Act.put, List.setIfInBounds_toArray, List.set_cons_zero, List.set_cons_succ]
        refine wpAnyH_take (i := 1) (oi := { dst := some 95, op := Go.Op.move (Go.Operand.tmp 2), type := 3, pos := "law.go:84", after := #[], guard := none }) (v := ?v60f1f1) rfl (by kernel_rfl) (by kernel_rfl) (by kernel_rfl) (fun _ _ _ h => h) (Or.inl ⟨by rfl, ?hy60f1f1⟩) hHeld ?rest60f1f1
        case hy60f1f1 => (intro w hSw; (try dsimp only at hSw); obtain ⟨hS0, hS1, hS2⟩ := hSw; go_simp; (first | done | with_reducible rfl))
        try simp only [Act.put, List.setIfInBounds_toArray, List.set_cons_zero, List.set_cons_succ]
        refine wpAnyH_take (i := 2) (oi := { dst := some 96, op := Go.Op.indexAddr 26 (Go.Operand.tmp 94) (Go.Operand.tmp 95), type := 0, pos := "law.go:84", after := #[{ on := 0, ground := Go.Ground.data }, { on := 1, ground := Go.Ground.data }], guard := none }) (v := .pointer (some (al.add k))) rfl (by kernel_rfl) (by kernel_rfl) (by kernel_rfl) (fun _ _ _ h => h) (Or.inl ⟨by rfl, ?hy61f1f1⟩) hHeld ?rest61f1f1
        case hy61f1f1 => (intro w hSw; (try dsimp only at hSw); obtain ⟨hS0, hS1, hS2⟩ := hSw; go_simp; try (first | done | (intro hk3; exfalso; omega) | (rw [if_pos]; omega) | (simp; omega)); (first | done | with_reducible rfl))
        try simp only [Act.put, List.setIfInBounds_toArray, List.set_cons_zero, List.set_cons_succ]
        refine wpAnyH_take (i := 3) (oi := { dst := some 97, op := Go.Op.load 24 (Go.Operand.tmp 96), type := 24, pos := "law.go:84", after := #[{ on := 2, ground := Go.Ground.data }], guard := none }) (v := .pointer (some ⟨b, 0, none⟩)) rfl (by kernel_rfl) (by kernel_rfl) (by kernel_rfl) (fun _ _ _ h => h) (Or.inl ⟨by rfl, ?hy62f1f1⟩) hHeld ?rest62f1f1
        case hy62f1f1 => (intro w hSw; (try dsimp only at hSw); obtain ⟨hS0, hS1, hS2⟩ := hSw; go_simp; try (first | done | (simp [hS0]; done) | (simp [hS1]; done) | (simp [hS2]; done) | (simp; omega) | omega); (first | done | with_reducible rfl))
        try simp only [Act.put, List.setIfInBounds_toArray, List.set_cons_zero, List.set_cons_succ]
        refine wpAnyH_take (i := 5) (oi := { dst := some 99, op := Go.Op.move (Go.Operand.tmp 1), type := 27, pos := "law.go:84", after := #[], guard := none }) (v := ?v63f1f1) rfl (by kernel_rfl) (by kernel_rfl) (by kernel_rfl) (fun _ _ _ h => h) (Or.inl ⟨by rfl, ?hy63f1f1⟩) hHeld ?rest63f1f1
        case hy63f1f1 => (intro w hSw; (try dsimp only at hSw); obtain ⟨hS0, hS1, hS2⟩ := hSw; go_simp; (first | done | with_reducible rfl))
        try simp only [Act.put, List.setIfInBounds_toArray, List.set_cons_zero, List.set_cons_succ]
        refine wpAnyH_take (i := 6) (oi := { dst := some 100, op := Go.Op.move (Go.Operand.tmp 2), type := 3, pos := "law.go:84", after := #[], guard := none }) (v := ?v64f1f1) rfl (by kernel_rfl) (by kernel_rfl) (by kernel_rfl) (fun _ _ _ h => h) (Or.inl ⟨by rfl, ?hy64f1f1⟩) hHeld ?rest64f1f1
        case hy64f1f1 => (intro w hSw; (try dsimp only at hSw); obtain ⟨hS0, hS1, hS2⟩ := hSw; go_simp; (first | done | with_reducible rfl))
        try simp only [Act.put, List.setIfInBounds_toArray, List.set_cons_zero, List.set_cons_succ]
        refine wpAnyH_take (i := 7) (oi := { dst := some 101, op := Go.Op.indexAddr 27 (Go.Operand.tmp 99) (Go.Operand.tmp 100), type := 0, pos := "law.go:84", after := #[{ on := 5, ground := Go.Ground.data }, { on := 6, ground := Go.Ground.data }], guard := none }) (v := .pointer (some (ar.add (k * 2)))) rfl (by kernel_rfl) (by kernel_rfl) (by kernel_rfl) (fun _ _ _ h => h) (Or.inl ⟨by rfl, ?hy65f1f1⟩) hHeld ?rest65f1f1
        case hy65f1f1 => (intro w hSw; (try dsimp only at hSw); obtain ⟨hS0, hS1, hS2⟩ := hSw; go_simp; try (first | done | (intro hk3; exfalso; omega) | (rw [if_pos]; omega) | (simp; omega)); (first | done | with_reducible rfl))
        try simp only [Act.put, List.setIfInBounds_toArray, List.set_cons_zero, List.set_cons_succ]
        refine wpAnyH_take (i := 8) (oi := { dst := some 102, op := Go.Op.fieldAddr 33 (Go.Operand.tmp 101) 0, type := 0, pos := "law.go:84", after := #[{ on := 7, ground := Go.Ground.data }], guard := none }) (v := ?v66f1f1) rfl (by kernel_rfl) (by kernel_rfl) (by kernel_rfl) (fun _ _ _ h => h) (Or.inl ⟨by rfl, ?hy66f1f1⟩) hHeld ?rest66f1f1
        case hy66f1f1 => (intro w hSw; (try dsimp only at hSw); obtain ⟨hS0, hS1, hS2⟩ := hSw; go_simp; (first | done | with_reducible rfl))
        try simp only [Act.put, List.setIfInBounds_toArray, List.set_cons_zero, List.set_cons_succ]
        refine wpAnyH_take (i := 9) (oi := { dst := some 103, op := Go.Op.load 31 (Go.Operand.tmp 102), type := 31, pos := "law.go:84", after := #[{ on := 8, ground := Go.Ground.data }], guard := none }) (v := .slice A n c) rfl (by kernel_rfl) (by kernel_rfl) (by kernel_rfl) (fun _ _ _ h => h) (Or.inl ⟨by rfl, ?hy67f1f1⟩) hHeld ?rest67f1f1
        case hy67f1f1 => (intro w hSw; (try dsimp only at hSw); obtain ⟨hS0, hS1, hS2⟩ := hSw; go_simp; try (first | done | (simp [hS0]; done) | (simp [hS1]; done) | (simp [hS2]; done) | (simp; omega) | omega); (first | done | with_reducible rfl))
        try simp only [Act.put, List.setIfInBounds_toArray, List.set_cons_zero, List.set_cons_succ]
        refine wpAnyH_ready (rs := [4]) (by kernel_rfl) (by simp) ?_
        refine AllReadyH.cons (o := agr_7_4) rfl (fun K hK => ?_) (AllReadyH.nil)
        dsimp only [agr_7_4]
        go_simp
        refine (cN _ E).mono ?_
        rintro e w98 ⟨NA1, nc1, rfl, HQ1, x⟩
        have z68 := x.size
        replace E := E.trans x
        replace LB13 := LB13.ext x
        replace LB15 := LB15.ext x
        replace L0 := cell_ext (x) L0
        replace R0 := cell_ext (x) R0
        replace R1 := cell_ext (x) R1
        clear x
        clear hHeld
        have hHeld := And.intro (L0) (And.intro (R0) ((R1)))
        refine hK.out _ _ hHeld (fun _ => ?_)
        clear hK K
        try simp only [Act.put, List.setIfInBounds_toArray, List.set_cons_zero, List.set_cons_succ]
        refine wpAnyH_ready (rs := [10]) (by kernel_rfl) (by simp) ?_
        refine AllReadyH.cons (o := agr_7_10) rfl (fun K hK => ?_) (AllReadyH.nil)
        dsimp only [agr_7_10]
        go_simp
        refine (cM _ E).mono ?_
        rintro e w104 ⟨MA1, mc1, rfl, HQ2, x⟩
        have z69 := x.size
        replace E := E.trans x
        replace LB13 := LB13.ext x
        replace LB15 := LB15.ext x
        replace L0 := cell_ext (x) L0
        replace R0 := cell_ext (x) R0
        replace R1 := cell_ext (x) R1
        replace HQ1 := HQ1.ext x
        clear x
        clear hHeld
        have hHeld := And.intro (L0) (And.intro (R0) ((R1)))
        refine hK.out _ _ hHeld (fun _ => ?_)
        clear hK K
        try simp only [Act.put, List.setIfInBounds_toArray, List.set_cons_zero, List.set_cons_succ]
        refine wpAnyH_ready (rs := [11]) (by kernel_rfl) (by simp) ?_
        refine AllReadyH.cons (o := agr_7_11) rfl (fun K hK => ?_) (AllReadyH.nil)
        dsimp only [agr_7_11]
        go_simp
        refine (cT _ _ _ _ _ HQ1.is HQ2.is).mono ?_
        rintro e w105 ⟨rfl, x⟩
        have z70 := x.size
        replace E := E.trans x
        replace LB13 := LB13.ext x
        replace LB15 := LB15.ext x
        replace L0 := cell_ext (x) L0
        replace R0 := cell_ext (x) R0
        replace R1 := cell_ext (x) R1
        replace HQ1 := HQ1.ext x
        replace HQ2 := HQ2.ext x
        clear x
        clear hHeld
        have hHeld := And.intro (L0) (And.intro (R0) ((R1)))
        refine hK.out _ _ hHeld (fun _ => ?_)
        clear hK K
        try simp only [Act.put, List.setIfInBounds_toArray, List.set_cons_zero, List.set_cons_succ]
        refine wpAnyH_take (i := 12) (oi := { dst := some 106, op := Go.Op.move (Go.Operand.tmp 105), type := 4, pos := "law.go:84", after := #[{ on := 11, ground := Go.Ground.data }, { on := 11, ground := Go.Ground.chain }], guard := none }) (v := ?v71f1f1) rfl (by kernel_rfl) (by kernel_rfl) (by kernel_rfl) (fun _ _ _ h => h) (Or.inl ⟨by rfl, ?hy71f1f1⟩) hHeld ?rest71f1f1
        case hy71f1f1 => (intro w hSw; (try dsimp only at hSw); obtain ⟨hS0, hS1, hS2⟩ := hSw; go_simp; (first | done | with_reducible rfl))
        try simp only [Act.put, List.setIfInBounds_toArray, List.set_cons_zero, List.set_cons_succ]
        refine wpAnyH_take (i := 13) (oi := { dst := some 107, op := Go.Op.move (Go.Operand.tmp 0), type := 26, pos := "law.go:84", after := #[{ on := 12, ground := Go.Ground.guard }], guard := some (12, true) }) (v := ?v72f1f1) rfl (by kernel_rfl) (by kernel_rfl) (by kernel_rfl) (fun _ _ _ h => h) (Or.inl ⟨by rfl, ?hy72f1f1⟩) hHeld ?rest72f1f1
        case hy72f1f1 => (intro w hSw; (try dsimp only at hSw); obtain ⟨hS0, hS1, hS2⟩ := hSw; go_simp; (first | done | with_reducible rfl))
        try simp only [Act.put, List.setIfInBounds_toArray, List.set_cons_zero, List.set_cons_succ]
        refine wpAnyH_take (i := 14) (oi := { dst := some 108, op := Go.Op.move (Go.Operand.tmp 2), type := 3, pos := "law.go:84", after := #[{ on := 12, ground := Go.Ground.guard }], guard := some (12, true) }) (v := ?v73f1f1) rfl (by kernel_rfl) (by kernel_rfl) (by kernel_rfl) (fun _ _ _ h => h) (Or.inl ⟨by rfl, ?hy73f1f1⟩) hHeld ?rest73f1f1
        case hy73f1f1 => (intro w hSw; (try dsimp only at hSw); obtain ⟨hS0, hS1, hS2⟩ := hSw; go_simp; (first | done | with_reducible rfl))
        try simp only [Act.put, List.setIfInBounds_toArray, List.set_cons_zero, List.set_cons_succ]
        refine wpAnyH_take (i := 15) (oi := { dst := some 109, op := Go.Op.indexAddr 26 (Go.Operand.tmp 107) (Go.Operand.tmp 108), type := 0, pos := "law.go:84", after := #[{ on := 13, ground := Go.Ground.data }, { on := 14, ground := Go.Ground.data }, { on := 12, ground := Go.Ground.guard }], guard := some (12, true) }) (v := .pointer (some (al.add k))) rfl (by kernel_rfl) (by kernel_rfl) (by kernel_rfl) (fun _ _ _ h => h) (Or.inl ⟨by rfl, ?hy74f1f1⟩) hHeld ?rest74f1f1
        case hy74f1f1 => (intro w hSw; (try dsimp only at hSw); obtain ⟨hS0, hS1, hS2⟩ := hSw; go_simp; try (first | done | (intro hk3; exfalso; omega) | (rw [if_pos]; omega) | (simp; omega)); (first | done | with_reducible rfl))
        try simp only [Act.put, List.setIfInBounds_toArray, List.set_cons_zero, List.set_cons_succ]
        refine wpAnyH_take (i := 16) (oi := { dst := some 110, op := Go.Op.load 24 (Go.Operand.tmp 109), type := 24, pos := "law.go:84", after := #[{ on := 15, ground := Go.Ground.data }, { on := 12, ground := Go.Ground.guard }], guard := some (12, true) }) (v := .pointer (some ⟨b, 0, none⟩)) rfl (by kernel_rfl) (by kernel_rfl) (by kernel_rfl) (fun _ _ _ h => h) (Or.inl ⟨by rfl, ?hy75f1f1⟩) hHeld ?rest75f1f1
        case hy75f1f1 => (intro w hSw; (try dsimp only at hSw); obtain ⟨hS0, hS1, hS2⟩ := hSw; go_simp; try (first | done | (simp [hS0]; done) | (simp [hS1]; done) | (simp [hS2]; done) | (simp; omega) | omega); (first | done | with_reducible rfl))
        try simp only [Act.put, List.setIfInBounds_toArray, List.set_cons_zero, List.set_cons_succ]
        refine wpAnyH_take (i := 18) (oi := { dst := some 112, op := Go.Op.move (Go.Operand.tmp 1), type := 27, pos := "law.go:84", after := #[{ on := 12, ground := Go.Ground.guard }], guard := some (12, true) }) (v := ?v76f1f1) rfl (by kernel_rfl) (by kernel_rfl) (by kernel_rfl) (fun _ _ _ h => h) (Or.inl ⟨by rfl, ?hy76f1f1⟩) hHeld ?rest76f1f1
        case hy76f1f1 => (intro w hSw; (try dsimp only at hSw); obtain ⟨hS0, hS1, hS2⟩ := hSw; go_simp; (first | done | with_reducible rfl))
        try simp only [Act.put, List.setIfInBounds_toArray, List.set_cons_zero, List.set_cons_succ]
        refine wpAnyH_take (i := 19) (oi := { dst := some 113, op := Go.Op.move (Go.Operand.tmp 2), type := 3, pos := "law.go:84", after := #[{ on := 12, ground := Go.Ground.guard }], guard := some (12, true) }) (v := ?v77f1f1) rfl (by kernel_rfl) (by kernel_rfl) (by kernel_rfl) (fun _ _ _ h => h) (Or.inl ⟨by rfl, ?hy77f1f1⟩) hHeld ?rest77f1f1
        case hy77f1f1 => (intro w hSw; (try dsimp only at hSw); obtain ⟨hS0, hS1, hS2⟩ := hSw; go_simp; (first | done | with_reducible rfl))
        try simp only [Act.put, List.setIfInBounds_toArray, List.set_cons_zero, List.set_cons_succ]
        refine wpAnyH_take (i := 20) (oi := { dst := some 114, op := Go.Op.indexAddr 27 (Go.Operand.tmp 112) (Go.Operand.tmp 113), type := 0, pos := "law.go:84", after := #[{ on := 18, ground := Go.Ground.data }, { on := 19, ground := Go.Ground.data }, { on := 12, ground := Go.Ground.guard }], guard := some (12, true) }) (v := .pointer (some (ar.add (k * 2)))) rfl (by kernel_rfl) (by kernel_rfl) (by kernel_rfl) (fun _ _ _ h => h) (Or.inl ⟨by rfl, ?hy78f1f1⟩) hHeld ?rest78f1f1
        case hy78f1f1 => (intro w hSw; (try dsimp only at hSw); obtain ⟨hS0, hS1, hS2⟩ := hSw; go_simp; try (first | done | (intro hk3; exfalso; omega) | (rw [if_pos]; omega) | (simp; omega)); (first | done | with_reducible rfl))
        try simp only [Act.put, List.setIfInBounds_toArray, List.set_cons_zero, List.set_cons_succ]
        refine wpAnyH_take (i := 21) (oi := { dst := some 115, op := Go.Op.fieldAddr 33 (Go.Operand.tmp 114) 1, type := 0, pos := "law.go:84", after := #[{ on := 20, ground := Go.Ground.data }, { on := 12, ground := Go.Ground.guard }], guard := some (12, true) }) (v := ?v79f1f1) rfl (by kernel_rfl) (by kernel_rfl) (by kernel_rfl) (fun _ _ _ h => h) (Or.inl ⟨by rfl, ?hy79f1f1⟩) hHeld ?rest79f1f1
        case hy79f1f1 => (intro w hSw; (try dsimp only at hSw); obtain ⟨hS0, hS1, hS2⟩ := hSw; go_simp; (first | done | with_reducible rfl))
        try simp only [Act.put, List.setIfInBounds_toArray, List.set_cons_zero, List.set_cons_succ]
        refine wpAnyH_take (i := 22) (oi := { dst := some 116, op := Go.Op.load 31 (Go.Operand.tmp 115), type := 31, pos := "law.go:84", after := #[{ on := 21, ground := Go.Ground.data }, { on := 12, ground := Go.Ground.guard }], guard := some (12, true) }) (v := .slice A2 n2 c2) rfl (by kernel_rfl) (by kernel_rfl) (by kernel_rfl) (fun _ _ _ h => h) (Or.inl ⟨by rfl, ?hy80f1f1⟩) hHeld ?rest80f1f1
        case hy80f1f1 => (intro w hSw; (try dsimp only at hSw); obtain ⟨hS0, hS1, hS2⟩ := hSw; go_simp; try (first | done | (simp [hS0]; done) | (simp [hS1]; done) | (simp [hS2]; done) | (simp; omega) | omega); (first | done | with_reducible rfl))
        try simp only [Act.put, List.setIfInBounds_toArray, List.set_cons_zero, List.set_cons_succ]
        refine wpAnyH_ready (rs := [17]) (by kernel_rfl) (by simp) ?_
        refine AllReadyH.cons (o := agr_7_17) rfl (fun K hK => ?_) (AllReadyH.nil)
        dsimp only [agr_7_17]
        go_simp
        refine (cFs _ E).mono ?_
        rintro e w111 ⟨NA2, nc2, rfl, HQ3, x⟩
        have z81 := x.size
        replace E := E.trans x
        replace LB13 := LB13.ext x
        replace LB15 := LB15.ext x
        replace L0 := cell_ext (x) L0
        replace R0 := cell_ext (x) R0
        replace R1 := cell_ext (x) R1
        replace HQ1 := HQ1.ext x
        replace HQ2 := HQ2.ext x
        clear x
        clear hHeld
        have hHeld := And.intro (L0) (And.intro (R0) ((R1)))
        refine hK.out _ _ hHeld (fun _ => ?_)
        clear hK K
        try simp only [Act.put, List.setIfInBounds_toArray, List.set_cons_zero, List.set_cons_succ]
        refine wpAnyH_ready (rs := [23]) (by kernel_rfl) (by simp) ?_
        refine AllReadyH.cons (o := agr_7_23) rfl (fun K hK => ?_) (AllReadyH.nil)
        dsimp only [agr_7_23]
        go_simp
        refine (cM2 _ E).mono ?_
        rintro e w117 ⟨MA2, mc2, rfl, HQ4, x⟩
        have z82 := x.size
        replace E := E.trans x
        replace LB13 := LB13.ext x
        replace LB15 := LB15.ext x
        replace L0 := cell_ext (x) L0
        replace R0 := cell_ext (x) R0
        replace R1 := cell_ext (x) R1
        replace HQ1 := HQ1.ext x
        replace HQ2 := HQ2.ext x
        replace HQ3 := HQ3.ext x
        clear x
        clear hHeld
        have hHeld := And.intro (L0) (And.intro (R0) ((R1)))
        refine hK.out _ _ hHeld (fun _ => ?_)
        clear hK K
        try simp only [Act.put, List.setIfInBounds_toArray, List.set_cons_zero, List.set_cons_succ]
        refine wpAnyH_ready (rs := [24]) (by kernel_rfl) (by simp) ?_
        refine AllReadyH.cons (o := agr_7_24) rfl (fun K hK => ?_) (AllReadyH.nil)
        dsimp only [agr_7_24]
        go_simp
        refine (cT2 _ _ _ _ _ HQ3.is HQ4.is).mono ?_
        rintro e w118 ⟨rfl, x⟩
        have z83 := x.size
        replace E := E.trans x
        replace LB13 := LB13.ext x
        replace LB15 := LB15.ext x
        replace L0 := cell_ext (x) L0
        replace R0 := cell_ext (x) R0
        replace R1 := cell_ext (x) R1
        replace HQ1 := HQ1.ext x
        replace HQ2 := HQ2.ext x
        replace HQ3 := HQ3.ext x
        replace HQ4 := HQ4.ext x
        clear x
        clear hHeld
        have hHeld := And.intro (L0) (And.intro (R0) ((R1)))
        refine hK.out _ _ hHeld (fun _ => ?_)
        clear hK K
        try simp only [Act.put, List.setIfInBounds_toArray, List.set_cons_zero, List.set_cons_succ]
        refine wpAnyH_take (i := 25) (oi := { dst := some 119, op := Go.Op.pick (Go.Operand.tmp 106) (Go.Operand.tmp 118) (Go.Operand.const (Go.Value.bool false)), type := 4, pos := "law.go:84", after := #[{ on := 12, ground := Go.Ground.data }, { on := 24, ground := Go.Ground.data }], guard := none }) (v := ?v84f1f1) rfl (by kernel_rfl) (by kernel_rfl) (by kernel_rfl) (fun _ _ _ h => h) (Or.inl ⟨by rfl, ?hy84f1f1⟩) hHeld ?rest84f1f1
        case hy84f1f1 => (intro w hSw; (try dsimp only at hSw); obtain ⟨hS0, hS1, hS2⟩ := hSw; go_simp; (first | done | with_reducible rfl))
        try simp only [Act.put, List.setIfInBounds_toArray, List.set_cons_zero, List.set_cons_succ]
        refine wpAnyH_take (i := 26) (oi := { dst := some 8, op := Go.Op.assign (Go.Operand.tmp 119), type := 4, pos := "law.go:84", after := #[{ on := 25, ground := Go.Ground.data }, { on := 24, ground := Go.Ground.chain }, { on := 0, ground := Go.Ground.phase }, { on := 1, ground := Go.Ground.phase }, { on := 2, ground := Go.Ground.phase }, { on := 3, ground := Go.Ground.phase }, { on := 4, ground := Go.Ground.phase }, { on := 5, ground := Go.Ground.phase }, { on := 6, ground := Go.Ground.phase }, { on := 7, ground := Go.Ground.phase }, { on := 8, ground := Go.Ground.phase }, { on := 9, ground := Go.Ground.phase }, { on := 10, ground := Go.Ground.phase }, { on := 11, ground := Go.Ground.phase }, { on := 12, ground := Go.Ground.phase }, { on := 13, ground := Go.Ground.phase }, { on := 14, ground := Go.Ground.phase }, { on := 15, ground := Go.Ground.phase }, { on := 16, ground := Go.Ground.phase }, { on := 17, ground := Go.Ground.phase }, { on := 18, ground := Go.Ground.phase }, { on := 19, ground := Go.Ground.phase }, { on := 20, ground := Go.Ground.phase }, { on := 21, ground := Go.Ground.phase }, { on := 22, ground := Go.Ground.phase }, { on := 23, ground := Go.Ground.phase }, { on := 24, ground := Go.Ground.phase }, { on := 25, ground := Go.Ground.phase }], guard := none }) (v := ?v85f1f1) rfl (by kernel_rfl) (by kernel_rfl) (by kernel_rfl) (fun _ _ _ h => h) (Or.inl ⟨by rfl, ?hy85f1f1⟩) hHeld ?rest85f1f1
        case hy85f1f1 => (intro w hSw; (try dsimp only at hSw); obtain ⟨hS0, hS1, hS2⟩ := hSw; go_simp; (first | done | with_reducible rfl))
        try simp only [Act.put, List.setIfInBounds_toArray, List.set_cons_zero, List.set_cons_succ]
        refine wpAnyH_done (by kernel_rfl) ?_ _
        refine JD7_0 w118 NA1 nc1 MA1 mc1 NA2 nc2 MA2 mc2 ?_
        exact ⟨by omega, E, LB13, LB15⟩
      · intro wD7_0 NA1 nc1 MA1 mc1 NA2 nc2 MA2 mc2 hJ
        obtain ⟨z86, E, LB13, LB15⟩ := hJ
        try dsimp only
        go_wp2_with fail
        go_ret
        exact ⟨rfl, E⟩
end Go.Proofs.Ytdkgiklbmbkdaaa
