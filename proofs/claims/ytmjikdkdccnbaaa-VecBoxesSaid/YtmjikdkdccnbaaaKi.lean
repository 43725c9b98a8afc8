/- VecBoxes: the walk. -/
import Derived.Test.YtmjikdkdccnbaaaKh
namespace Go.Proofs.Ytmjikdkdccnbaaa
open Go.ChangeShapes Go.WideShapes Go.RowKit Bv Fl
set_option maxHeartbeats 2000000
set_option maxRecDepth 100000
theorem field9 (c0 c1 c2 c3 c4 c5 c6 c7 c8 : Value) (w : World) : Sem.run Try.prog (Instr.field 37 (Value.agg #[c0, c1, c2, c3, c4, c5, c6, c7, c8]) 1) w = .ok (.agg #[c1, c2, c3, c4, c5, c6, c7, c8]) w := by rfl
theorem field0 (c0 c1 c2 c3 c4 c5 c6 c7 c8 : Value) (w : World) : Sem.run Try.prog (Instr.field 37 (Value.agg #[c0, c1, c2, c3, c4, c5, c6, c7, c8]) 0) w = .ok c0 w := by rfl
theorem arr_at {w : World} {g n k : Nat} {L : List Bx} {S : Nat → Prop} (h : SlS w 9 (some ⟨g, 0, none⟩) n (arrs L) S) (hL : L.length = n) (hk : k < n) : Kp (fun w' => w'.rangeAt g (k * 9 + 1) ((L.getD k default).cells.drop 1) ∧ w'.cell? ⟨g, k * 9, none⟩ = some (.slice (some ⟨(L.getD k default).gS, 0, none⟩) 1 1)) w := fun w' hx => by
  obtain ⟨a, e, _, hc⟩ := (h.ext hx).is.2 (by omega)
  cases e
  have hg : ∀ f, f < 9 → ∀ u, (L.getD k default).cells[f]? = some u → w'.cell? ⟨g, k * 9 + f, none⟩ = some u := fun f hf u hu => by
    have := hc (k * 9 + f) u (by rw [arrs_get L (by omega) hf]; exact hu)
    rwa [show (Addr.add ⟨g, 0, none⟩ (k * 9 + f)) = ⟨g, k * 9 + f, none⟩ by unfold Addr.add; split <;> simp_all] at this
  refine ⟨fun j u hu => ?_, hg 0 (by omega) _ rfl⟩
  have hj : j < 8 := by
    rcases Nat.lt_or_ge j 8 with h | h
    · exact h
    · rw [List.getElem?_eq_none (by simpa [Bx.cells] using h)] at hu; cases hu
  have := hg (j + 1) (by omega) u (by rw [List.getElem?_drop, Nat.add_comm] at hu; exact hu)
  rw [show k * 9 + 1 + j = k * 9 + (j + 1) by omega]
  exact this
theorem chars_is {w : World} {cA : Option Addr} {m cc : Nat} {l : List Int} {S : Nat → Prop} (h : SlS w 1 cA m (i32s l) S) (hm : m = l.length) (hl : m ≤ 1048576) : VecS w (.agg #[.int .i64 5, .slice none 0 0, .int .i64 0, .slice none 0 0, .slice none 0 0, .slice none 0 0, .slice cA m cc, .slice none 0 0]) (VD.chars l) S := fun w2 hs hk => by
  have := h w2 hs hk
  subst hm
  exact .inr (.inr (.inr (.inr (.inr (.inl ⟨l, cA, cc, rfl, hl, rfl, this⟩)))))
/-- new since then, but not of now -/
abbrev NewOld (w : World) (i : Nat) : Prop := w.heap.size ≤ i
theorem joinK0 {F KA : World → Prop} {G : Prop} (h : (∀ w, F w → KA w) → G) (t : ∀ w, F w → KA w) : G := h t
theorem joinK3 {A0 A1 A2 : Type} {F KA : World → A0 → A1 → A2 → Prop} {G : Prop} (h : (∀ w a0 a1 a2, F w a0 a1 a2 → KA w a0 a1 a2) → G) (t : ∀ w a0 a1 a2, F w a0 a1 a2 → KA w a0 a1 a2) : G := h t
theorem joinK4 {A0 A1 A2 A3 : Type} {F KA : World → A0 → A1 → A2 → A3 → Prop} {G : Prop} (h : (∀ w a0 a1 a2 a3, F w a0 a1 a2 a3 → KA w a0 a1 a2 a3) → G) (t : ∀ w a0 a1 a2 a3, F w a0 a1 a2 a3 → KA w a0 a1 a2 a3) : G := h t
theorem joinK6 {A0 A1 A2 A3 A4 A5 : Type} {F KA : World → A0 → A1 → A2 → A3 → A4 → A5 → Prop} {G : Prop} (h : (∀ w a0 a1 a2 a3 a4 a5, F w a0 a1 a2 a3 a4 a5 → KA w a0 a1 a2 a3 a4 a5) → G) (t : ∀ w a0 a1 a2 a3 a4 a5, F w a0 a1 a2 a3 a4 a5 → KA w a0 a1 a2 a3 a4 a5) : G := h t
abbrev vbx_17_17 : Go.Oper := { dst := some 98, op := Go.Op.call { callee := Go.Callee.value (Go.Operand.func 18), args := #[Go.Operand.tmp 97], argTypes := #[34] }, type := 25, pos := "law.go:114", after := #[{ on := 16, ground := Go.Ground.data }, { on := 11, ground := Go.Ground.chain }, { on := 11, ground := Go.Ground.guard }], guard := some (11, false) }
abbrev vbx_17_2 : Go.Oper := { dst := some 83, op := Go.Op.call { callee := Go.Callee.value (Go.Operand.func 17), args := #[Go.Operand.tmp 81, Go.Operand.tmp 82], argTypes := #[34, 3] }, type := 37, pos := "law.go:114", after := #[{ on := 0, ground := Go.Ground.data }, { on := 1, ground := Go.Ground.data }], guard := none }
abbrev vbx_17_22 : Go.Oper := { dst := some 103, op := Go.Op.call { callee := Go.Callee.value (Go.Operand.func 16), args := #[Go.Operand.tmp 98, Go.Operand.tmp 102], argTypes := #[25, 25] }, type := 4, pos := "law.go:114", after := #[{ on := 17, ground := Go.Ground.data }, { on := 21, ground := Go.Ground.data }, { on := 17, ground := Go.Ground.chain }, { on := 11, ground := Go.Ground.guard }], guard := some (11, false) }
abbrev vbx_17_4 : Go.Oper := { dst := some 85, op := Go.Op.call { callee := Go.Callee.value (Go.Operand.func 18), args := #[Go.Operand.tmp 84], argTypes := #[34] }, type := 25, pos := "law.go:114", after := #[{ on := 3, ground := Go.Ground.data }, { on := 2, ground := Go.Ground.chain }], guard := none }
abbrev vbx_17_9 : Go.Oper := { dst := some 90, op := Go.Op.call { callee := Go.Callee.value (Go.Operand.func 16), args := #[Go.Operand.tmp 85, Go.Operand.tmp 89], argTypes := #[25, 25] }, type := 4, pos := "law.go:114", after := #[{ on := 4, ground := Go.Ground.data }, { on := 8, ground := Go.Ground.data }, { on := 4, ground := Go.Ground.chain }], guard := none }
abbrev vbx_9_11 : Go.Oper := { dst := some 38, op := Go.Op.call { callee := Go.Callee.value (Go.Operand.func 9), args := #[Go.Operand.tmp 37], argTypes := #[25] }, type := 34, pos := "law.go:106", after := #[{ on := 10, ground := Go.Ground.data }], guard := none }
abbrev vbx_9_13 : Go.Oper := { dst := some 40, op := Go.Op.buildSlice 24 1 #[(0, Go.Operand.tmp 39)], type := 24, pos := "law.go:106", after := #[{ on := 12, ground := Go.Ground.data }], guard := none }
abbrev vbx_9_14 : Go.Oper := { dst := some 41, op := Go.Op.call { callee := Go.Callee.builtin Go.Builtin.append, args := #[Go.Operand.tmp 27, Go.Operand.tmp 40], argTypes := #[24, 24] }, type := 24, pos := "law.go:106", after := #[{ on := 0, ground := Go.Ground.data }, { on := 13, ground := Go.Ground.data }, { on := 11, ground := Go.Ground.chain }], guard := none }
abbrev vbx_9_6 : Go.Oper := { dst := some 33, op := Go.Op.buildSlice 26 1 #[(0, Go.Operand.tmp 32)], type := 26, pos := "law.go:106", after := #[{ on := 5, ground := Go.Ground.data }], guard := none }
theorem vboxes_main (A : Option Addr) (n c : Nat) (XA : Nat → Option Addr) (X : Nat → List Int) (XC : Nat → Nat) (i : Int) (w : World) (hn : n ≤ 60)
    (HL : Hid (∀ w', Ext w w' → ∀ k, k < n → ∃ a, A = some a ∧ w'.cell? (a.add k) = some (.slice (XA k) (X k).length (XC k)) ∧ Sl w' 1 (XA k) (X k).length (i32s (X k))))
    (cC : ∀ k B b w', (X k).length ≤ 60 → Sl w' 1 B (X k).length (i32s (X k)) → Calls Try.prog 9 #[.slice B (X k).length b] w' fun e w2 => ∃ cA cc, e = .returned (.agg #[.int .i64 5, .slice none 0 0, .int .i64 0, .slice none 0 0, .slice none 0 0, .slice none 0 0, .slice cA (X k).length cc, .slice none 0 0]) ∧ SlS w2 1 cA (X k).length (i32s (X k)) (New w'.heap.size) ∧ Ext w' w2)
    (cB : ∀ oA oc (L : List Bx) w' S, Hid (L.length = n) → SlS w' 9 oA n (arrs L) S → Calls Try.prog 10 #[.slice oA n oc] w' fun e w2 => ∃ v, e = .returned v ∧ VecS w2 v (VD.boxes (arrs L)) (New w'.heap.size) ∧ Ext w' w2)
    (cK : ∀ v (L : List Bx) w', IsVec w' v (VD.boxes (arrs L)) → Calls Try.prog 11 #[v] w' fun e w2 => e = .returned (.int .i64 6) ∧ Ext w' w2)
    (cCl : ∀ v (L : List Bx) w', IsVec w' v (VD.boxes (arrs L)) → Calls Try.prog 12 #[v] w' fun e w2 => e = .returned (.int .i64 2) ∧ Ext w' w2)
    (cLn : ∀ v (L : List Bx) w', Hid (L.length = n) → IsVec w' v (VD.boxes (arrs L)) → Calls Try.prog 13 #[v] w' fun e w2 => e = .returned (.int .i64 (n : Int)) ∧ Ext w' w2)
    (cAr : ∀ v (L : List Bx) w', Hid (L.length = n) → IsVec w' v (VD.boxes (arrs L)) → Calls Try.prog 14 #[v] w' fun e w2 => ∃ B b g, e = .returned (.slice B n b) ∧ (0 < n → B = some ⟨g, 0, none⟩) ∧ SlS w2 9 B n (arrs L) (New w'.heap.size) ∧ Ext w' w2)
    (cNn : ∀ v (L : List Bx) w', IsVec w' v (VD.boxes (arrs L)) → Calls Try.prog 15 #[v] w' fun e w2 => e = .returned (.slice none 0 0) ∧ Ext w' w2)
    (cBx : ∀ v (L : List Bx) k w', Hid (L.length = n) → k < n → IsVec w' v (VD.boxes (arrs L)) → Calls Try.prog 17 #[v, .int .i64 (k : Int)] w' fun e w2 => e = .returned (.agg (L.getD k default).cells.toArray) ∧ Ext w' w2)
    (cBn : ∀ v (L : List Bx) w', Hid (L.length = n) → ¬ (0 ≤ i ∧ i < n) → IsVec w' v (VD.boxes (arrs L)) → Calls Try.prog 17 #[v, .int .i64 i] w' fun e w2 => e = .returned (.agg #[.slice none 0 0, .int .i64 0, .slice none 0 0, .int .i64 0, .slice none 0 0, .slice none 0 0, .slice none 0 0, .slice none 0 0, .slice none 0 0]) ∧ Ext w' w2)
    (cT : ∀ k v w', IsVec w' v (VD.chars (X k)) → Calls Try.prog 18 #[v] w' fun e w2 => ∃ B b, e = .returned (.slice B (X k).length b) ∧ SlS w2 1 B (X k).length (i32s (X k)) (New w'.heap.size) ∧ Ext w' w2)
    (cR : ∀ k B b B' b' w', (X k).length ≤ 1048576 → Sl w' 1 B (X k).length (i32s (X k)) → Sl w' 1 B' (X k).length (i32s (X k)) → Calls Try.prog 16 #[.slice B (X k).length b, .slice B' (X k).length b'] w' fun e w2 => e = .returned (.bool true) ∧ Ext w' w2)
    (cZ : ∀ w', Calls Try.prog 11 #[(.agg #[.int .i64 0, .slice none 0 0, .int .i64 0, .slice none 0 0, .slice none 0 0, .slice none 0 0, .slice none 0 0, .slice none 0 0])] w' fun e w2 => e = .returned (.int .i64 0) ∧ Ext w' w2)
    (aw : ∀ w', Calls Try.prog 8 #[] w' fun e w2 => e = .returned (.bool true) ∧ Ext w' w2) : Calls Try.prog 3 #[.slice A n c, .int .i64 i] w fun e w' => e = .returned (.bool true) ∧ Ext w w' := by
  have E := Ext.refl w
  go_enter Try.func3, Try.ntmps3
  go_wp2_with fail
  go_loopw [5, 6] (fun o i wr => ∃ (k : Nat) (oA : Option Addr) (oc : Nat) (L : List Bx), k ≤ n ∧ o = .slice oA k oc ∧ i = .int .i64 k ∧ L.length = k ∧ Hid (∀ j, j < k → (X j).length ≤ 60) ∧ Ext w wr ∧ RowA wr w.heap.size (.slice oA k oc) k (arrs L) ∧ BXs wr X L (NotOwn wr (.slice oA k oc))) (fun _ i _ => n - (intOf i).toNat)
  case atStart => exact ⟨0, none, 0, [], Nat.zero_le _, rfl, rfl, rfl, fun j hj => absurd hj (by omega), E, World.ownsRow_nil _ _ _ _, fun j hj => absurd hj (by simp)⟩
  case round =>
    obtain ⟨k, oA, oc, L, hk, rfl, rfl, hLl, hAll, E', HO, HI⟩ := hrel
    clear E
    have E := E'
    clear E'
    have HLL := Lib.hid hLl
    clear hLl
    have z1 := E.size
    have hcs : (k < n ∧ 60 < (X k).length) ∨ (k < n ∧ (X k).length ≤ 60) ∨ ¬ k < n := by omega
    rcases hcs with ⟨hlt, h60⟩ | ⟨hlt, h60⟩ | hlt
    · obtain ⟨a, ea, D0, hSx⟩ := HL.out _ E k hlt
      subst ea
      clear hSx
      generalize (X k).length = xm at D0 h60
      generalize XA k = xA at D0
      generalize XC k = xc at D0
      go_wp2_with fail
      refine (aw _).mono ?_
      rintro e w26 ⟨rfl, x⟩
      have z2 := x.size
      replace E := E.trans x
      clear x
      go_wp2_with fail
      go_ret
      exact ⟨rfl, E⟩
    · obtain ⟨a, ea, D0, hSx⟩ := HL.out _ E k hlt
      subst ea
      have hab : a.block < w.heap.size := by obtain ⟨a2, e2, h2, _⟩ := HL.out w (Ext.refl w) k hlt; cases e2; have := World.block_lt_of_cell? _ _ h2; rwa [addr_block] at this
      have HSX0 : Kp (fun w' => Sl w' 1 (XA k) (X k).length (i32s (X k))) wr := fun w' hx => by obtain ⟨_, _, _, h⟩ := HL.out w' (E.trans hx) k hlt; exact h
      clear hSx
      have hcc := fun B b w' h => cC k B b w' h60 h
      have hAll2 : Hid (∀ j, j < k + 1 → (X j).length ≤ 60) := fun j hj => (Nat.lt_succ_iff_lt_or_eq.1 hj).elim (hAll.out j) (fun e => e ▸ h60)
      clear hAll
      have HXL : Hid (X L.length = X k) := by show _ = _; rw [HLL.out]
      obtain ⟨xl, hxl⟩ : ∃ xl, X k = xl := ⟨_, rfl⟩
      rw [hxl] at D0 HSX0 hcc h60
      have HXL : Hid (X L.length = xl) := by show _ = _; rw [HXL.out, hxl]
      clear hxl
      obtain ⟨xm, hxm⟩ : ∃ xm, xl.length = xm := ⟨_, rfl⟩
      rw [hxm] at D0 HSX0 hcc h60
      have HXM := Lib.hid hxm
      clear hxm
      generalize XA k = xA at D0 HSX0
      generalize XC k = xc at D0
      have HSX := HSX0
      clear HSX0
      have howl : ∀ g, (Value.slice oA k oc).ownBlock = some g → g < wr.heap.size := fun g hg => (World.ownsRow.lt HO g hg).2
      go_wp2_with fail
      try simp only [Act.put, List.setIfInBounds_toArray, List.set_cons_zero, List.set_cons_succ]
      apply joinK0 (F := fun (wS9 : World) => wr.heap.size ≤ wS9.heap.size ∧ Ext w wS9 ∧ RowA wS9 w.heap.size (.slice oA k oc) k (arrs L) ∧ BXs wS9 X L (NotOwn wr (.slice oA k oc)) ∧ wS9.cell? (a.add k) = some (.slice xA xm xc) ∧ Kp (fun w' => Sl w' 1 xA xm (i32s xl)) wS9)
      · intro J
        refine J wr ?_
        exact ⟨Nat.le_refl _, E, HO, HI, D0, HSX⟩
      intro wS9 hJS
      clear E HO HI D0 HSX
      refine wp_region_held_drew (S := (fun w' => w'.cell? (a.add k) = some (.slice xA xm xc))) (by kernel_rfl) (by obtain ⟨z5, E, HO, HI, D0, HSX⟩ := hJS; exact (D0)) (fun hH0 => ?_)
      apply joinK6 (F := fun (wD9_0 : World) (BL33 : Nat) (cA : Option Addr) (cc : Nat) (BL40 : Nat) (A41 : Option Addr) (c41 : Nat) => wS9.heap.size ≤ wD9_0.heap.size ∧ Ext w wD9_0 ∧ RowA wD9_0 w.heap.size (.slice A41 (k + 1) c41) (k + 1) (arrs (L ++ [⟨BL33, cA, xm, cc⟩])) ∧ BXs wD9_0 X (L ++ [⟨BL33, cA, xm, cc⟩]) (NotOwn wD9_0 (.slice A41 (k + 1) c41)))
      intro JD9_0
      apply joinK3 (F := fun (wD9_1 : World) (BL33 : Nat) (cA : Option Addr) (cc : Nat) => wS9.heap.size ≤ wD9_1.heap.size ∧ Ext w wD9_1 ∧ RowA wD9_1 w.heap.size (.slice oA k oc) k (arrs L) ∧ BXs wD9_1 X L (NotOwn wr (.slice oA k oc)) ∧ wD9_1.cell? (a.add k) = some (.slice xA xm xc) ∧ Kp (fun w' => Sl w' 1 xA xm (i32s xl)) wD9_1 ∧ SlS wD9_1 1 cA xm (i32s xl) (NewOld wr))
      intro JD9_1
      · have hJQ := hJS
        obtain ⟨z5, E, HO, HI, D0, HSX⟩ := hJQ
        have hq6 : wS9.heap.size ≤ wS9.drew.heap.size := Nat.le_refl _
        have z7 := (Ext.refl wS9).drew.size
        replace E := E.trans (Ext.refl wS9).drew
        replace HO := HO.ext (Ext.refl wS9).drew
        replace HI := HI.ext (Ext.refl wS9).drew
        replace D0 := cell_ext ((Ext.refl wS9).drew) D0
        replace HSX := HSX.ext (Ext.refl wS9).drew
        have hHeld := (D0)
        refine wpAnyH_take (i := 0) (oi := { dst := some 27, op := Go.Op.move (Go.Operand.tmp 5), type := 24, pos := "law.go:106", after := #[], guard := none }) (v := ?v8) rfl (by kernel_rfl) (by kernel_rfl) (by kernel_rfl) (fun _ _ _ h => h) (Or.inl ⟨by rfl, ?hy8⟩) hHeld ?rest8
        case hy8 => (intro w hSw; (try dsimp only at hSw); go_simp; (first | done | with_reducible rfl))
        try simp only [Act.put, List.setIfInBounds_toArray, List.set_cons_zero, List.set_cons_succ]
        refine wpAnyH_take (i := 1) (oi := { dst := some 28, op := Go.Op.move (Go.Operand.tmp 0), type := 22, pos := "law.go:106", after := #[], guard := none }) (v := ?v9) rfl (by kernel_rfl) (by kernel_rfl) (by kernel_rfl) (fun _ _ _ h => h) (Or.inl ⟨by rfl, ?hy9⟩) hHeld ?rest9
        case hy9 => (intro w hSw; (try dsimp only at hSw); go_simp; (first | done | with_reducible rfl))
        try simp only [Act.put, List.setIfInBounds_toArray, List.set_cons_zero, List.set_cons_succ]
        refine wpAnyH_take (i := 2) (oi := { dst := some 29, op := Go.Op.move (Go.Operand.tmp 6), type := 3, pos := "law.go:106", after := #[], guard := none }) (v := ?v10) rfl (by kernel_rfl) (by kernel_rfl) (by kernel_rfl) (fun _ _ _ h => h) (Or.inl ⟨by rfl, ?hy10⟩) hHeld ?rest10
        case hy10 => (intro w hSw; (try dsimp only at hSw); go_simp; (first | done | with_reducible rfl))
        try simp only [Act.put, List.setIfInBounds_toArray, List.set_cons_zero, List.set_cons_succ]
        refine wpAnyH_take (i := 3) (oi := { dst := some 30, op := Go.Op.indexAddr 22 (Go.Operand.tmp 28) (Go.Operand.tmp 29), type := 0, pos := "law.go:106", after := #[{ on := 1, ground := Go.Ground.data }, { on := 2, ground := Go.Ground.data }], guard := none }) (v := .pointer (some (a.add k))) rfl (by kernel_rfl) (by kernel_rfl) (by kernel_rfl) (fun _ _ _ h => h) (Or.inl ⟨by rfl, ?hy11⟩) hHeld ?rest11
        case hy11 => (intro w hSw; (try dsimp only at hSw); go_simp; try rw [if_pos (by omega)]; try rw [Int.toNat_natCast]; (first | done | with_reducible rfl))
        try simp only [Act.put, List.setIfInBounds_toArray, List.set_cons_zero, List.set_cons_succ]
        refine wpAnyH_take (i := 4) (oi := { dst := some 31, op := Go.Op.load 25 (Go.Operand.tmp 30), type := 25, pos := "law.go:106", after := #[{ on := 3, ground := Go.Ground.data }], guard := none }) (v := .slice xA xm xc) rfl (by kernel_rfl) (by kernel_rfl) (by kernel_rfl) (fun _ _ _ h => h) (Or.inl ⟨by rfl, ?hy12⟩) hHeld ?rest12
        case hy12 => (intro w hSw; (try dsimp only at hSw); go_simp; (first | done | with_reducible rfl))
        try simp only [Act.put, List.setIfInBounds_toArray, List.set_cons_zero, List.set_cons_succ]
        refine wpAnyH_take (i := 5) (oi := { dst := some 32, op := Go.Op.call { callee := Go.Callee.builtin Go.Builtin.len, args := #[Go.Operand.tmp 31], argTypes := #[25] }, type := 3, pos := "law.go:106", after := #[{ on := 4, ground := Go.Ground.data }], guard := none }) (v := ?v13) rfl (by kernel_rfl) (by kernel_rfl) (by kernel_rfl) (fun _ _ _ h => h) (Or.inl ⟨by rfl, ?hy13⟩) hHeld ?rest13
        case hy13 => (intro w hSw; (try dsimp only at hSw); go_simp; (first | done | with_reducible rfl))
        try simp only [Act.put, List.setIfInBounds_toArray, List.set_cons_zero, List.set_cons_succ]
        refine wpAnyH_take (i := 7) (oi := { dst := some 34, op := Go.Op.move (Go.Operand.tmp 0), type := 22, pos := "law.go:106", after := #[], guard := none }) (v := ?v14) rfl (by kernel_rfl) (by kernel_rfl) (by kernel_rfl) (fun _ _ _ h => h) (Or.inl ⟨by rfl, ?hy14⟩) hHeld ?rest14
        case hy14 => (intro w hSw; (try dsimp only at hSw); go_simp; (first | done | with_reducible rfl))
        try simp only [Act.put, List.setIfInBounds_toArray, List.set_cons_zero, List.set_cons_succ]
        refine wpAnyH_take (i := 8) (oi := { dst := some 35, op := Go.Op.move (Go.Operand.tmp 6), type := 3, pos := "law.go:106", after := #[], guard := none }) (v := ?v15) rfl (by kernel_rfl) (by kernel_rfl) (by kernel_rfl) (fun _ _ _ h => h) (Or.inl ⟨by rfl, ?hy15⟩) hHeld ?rest15
        case hy15 => (intro w hSw; (try dsimp only at hSw); go_simp; (first | done | with_reducible rfl))
        try simp only [Act.put, List.setIfInBounds_toArray, List.set_cons_zero, List.set_cons_succ]
        refine wpAnyH_take (i := 9) (oi := { dst := some 36, op := Go.Op.indexAddr 22 (Go.Operand.tmp 34) (Go.Operand.tmp 35), type := 0, pos := "law.go:106", after := #[{ on := 7, ground := Go.Ground.data }, { on := 8, ground := Go.Ground.data }], guard := none }) (v := .pointer (some (a.add k))) rfl (by kernel_rfl) (by kernel_rfl) (by kernel_rfl) (fun _ _ _ h => h) (Or.inl ⟨by rfl, ?hy16⟩) hHeld ?rest16
        case hy16 => (intro w hSw; (try dsimp only at hSw); go_simp; try rw [if_pos (by omega)]; try rw [Int.toNat_natCast]; (first | done | with_reducible rfl))
        try simp only [Act.put, List.setIfInBounds_toArray, List.set_cons_zero, List.set_cons_succ]
        refine wpAnyH_take (i := 10) (oi := { dst := some 37, op := Go.Op.load 25 (Go.Operand.tmp 36), type := 25, pos := "law.go:106", after := #[{ on := 9, ground := Go.Ground.data }], guard := none }) (v := .slice xA xm xc) rfl (by kernel_rfl) (by kernel_rfl) (by kernel_rfl) (fun _ _ _ h => h) (Or.inl ⟨by rfl, ?hy17⟩) hHeld ?rest17
        case hy17 => (intro w hSw; (try dsimp only at hSw); go_simp; (first | done | with_reducible rfl))
        try simp only [Act.put, List.setIfInBounds_toArray, List.set_cons_zero, List.set_cons_succ]
        refine wpAnyH_ready (rs := [6, 11]) (by kernel_rfl) (by simp) ?_
        refine AllReadyH.cons (o := vbx_9_6) rfl (fun K hK => ?_) (AllReadyH.cons (o := vbx_9_11) rfl (fun K hK => ?_) (AllReadyH.nil))
        · dsimp only [vbx_9_6]
          rw [if_pos (by rfl)]
          refine lit_int (by rfl) (by rfl) ?_
          intro BL33 w33 bL33 cL33 XL33 _
          have z18 := XL33.size
          replace E := E.trans XL33
          replace HO := HO.ext XL33
          replace HI := HI.ext XL33
          replace D0 := cell_ext (XL33) D0
          replace HSX := HSX.ext XL33
          clear XL33
          clear hHeld
          have hHeld := (D0)
          refine hK.out _ _ hHeld (fun _ => ?_)
          clear hK K
          try simp only [Act.put, List.setIfInBounds_toArray, List.set_cons_zero, List.set_cons_succ]
          refine wpAnyH_ready (rs := [11]) (by kernel_rfl) (by simp) ?_
          refine AllReadyH.cons (o := vbx_9_11) rfl (fun K hK => ?_) (AllReadyH.nil)
          dsimp only [vbx_9_11]
          go_simp
          refine (hcc xA xc _ HSX.is).mono ?_
          rintro e w38 ⟨cA, cc, rfl, hq, x⟩
          have HC : SlS w38 1 cA xm (i32s xl) (NewOld wr) := hq.now.mono (fun i hi h => by dsimp only [New, NewOld] at *; omega)
          clear hq
          have z19 := x.size
          replace E := E.trans x
          replace HO := HO.ext x
          replace HI := HI.ext x
          replace D0 := cell_ext (x) D0
          replace HSX := HSX.ext x
          clear x
          clear hHeld
          have hHeld := (D0)
          refine hK.out _ _ hHeld (fun _ => ?_)
          clear hK K
          try simp only [Act.put, List.setIfInBounds_toArray, List.set_cons_zero, List.set_cons_succ]
          refine wpAnyH_take (i := 12) (oi := { dst := some 39, op := Go.Op.build 37 #[(0, Go.Operand.tmp 33), (1, Go.Operand.tmp 38)], type := 37, pos := "law.go:106", after := #[{ on := 6, ground := Go.Ground.data }, { on := 11, ground := Go.Ground.data }], guard := none }) (v := (.agg #[.slice (some ⟨BL33, 0, none⟩) 1 1, .int .i64 5, .slice none 0 0, .int .i64 0, .slice none 0 0, .slice none 0 0, .slice none 0 0, .slice cA xm cc, .slice none 0 0])) rfl (by kernel_rfl) (by kernel_rfl) (by kernel_rfl) (fun _ _ _ h => h) (Or.inl ⟨by rfl, ?hy20⟩) hHeld ?rest20
          case hy20 => (intro w hSw; (try dsimp only at hSw); go_simp; try (first | rfl | (simp [Sem.run]; done)); (first | done | with_reducible rfl))
          try simp only [Act.put, List.setIfInBounds_toArray, List.set_cons_zero, List.set_cons_succ]
          refine JD9_1 w38 BL33 cA cc ?_
          exact ⟨by omega, E, HO, HI, D0, HSX, HC⟩
        · dsimp only [vbx_9_11]
          go_simp
          refine (hcc xA xc _ HSX.is).mono ?_
          rintro e w38 ⟨cA, cc, rfl, hq, x⟩
          have HC : SlS w38 1 cA xm (i32s xl) (NewOld wr) := hq.now.mono (fun i hi h => by dsimp only [New, NewOld] at *; omega)
          clear hq
          have z21 := x.size
          replace E := E.trans x
          replace HO := HO.ext x
          replace HI := HI.ext x
          replace D0 := cell_ext (x) D0
          replace HSX := HSX.ext x
          clear x
          clear hHeld
          have hHeld := (D0)
          refine hK.out _ _ hHeld (fun _ => ?_)
          clear hK K
          try simp only [Act.put, List.setIfInBounds_toArray, List.set_cons_zero, List.set_cons_succ]
          refine wpAnyH_ready (rs := [6]) (by kernel_rfl) (by simp) ?_
          refine AllReadyH.cons (o := vbx_9_6) rfl (fun K hK => ?_) (AllReadyH.nil)
          dsimp only [vbx_9_6]
          rw [if_pos (by rfl)]
          refine lit_int (by rfl) (by rfl) ?_
          intro BL33 w33 bL33 cL33 XL33 _
          have z22 := XL33.size
          replace E := E.trans XL33
          replace HO := HO.ext XL33
          replace HI := HI.ext XL33
          replace D0 := cell_ext (XL33) D0
          replace HSX := HSX.ext XL33
          replace HC := HC.ext XL33
          clear XL33
          clear hHeld
          have hHeld := (D0)
          refine hK.out _ _ hHeld (fun _ => ?_)
          clear hK K
          try simp only [Act.put, List.setIfInBounds_toArray, List.set_cons_zero, List.set_cons_succ]
          refine wpAnyH_take (i := 12) (oi := { dst := some 39, op := Go.Op.build 37 #[(0, Go.Operand.tmp 33), (1, Go.Operand.tmp 38)], type := 37, pos := "law.go:106", after := #[{ on := 6, ground := Go.Ground.data }, { on := 11, ground := Go.Ground.data }], guard := none }) (v := (.agg #[.slice (some ⟨BL33, 0, none⟩) 1 1, .int .i64 5, .slice none 0 0, .int .i64 0, .slice none 0 0, .slice none 0 0, .slice none 0 0, .slice cA xm cc, .slice none 0 0])) rfl (by kernel_rfl) (by kernel_rfl) (by kernel_rfl) (fun _ _ _ h => h) (Or.inl ⟨by rfl, ?hy23⟩) hHeld ?rest23
          case hy23 => (intro w hSw; (try dsimp only at hSw); go_simp; try (first | rfl | (simp [Sem.run]; done)); (first | done | with_reducible rfl))
          try simp only [Act.put, List.setIfInBounds_toArray, List.set_cons_zero, List.set_cons_succ]
          refine JD9_1 w33 BL33 cA cc ?_
          exact ⟨by omega, E, HO, HI, D0, HSX, HC⟩
      · intro wD9_1 BL33 cA cc hJ
        obtain ⟨z24, E, HO, HI, D0, HSX, HC⟩ := hJ
        try dsimp only
        have hHeld := (D0)
        refine wpAnyH_ready (rs := [13]) (by kernel_rfl) (by simp) ?_
        refine AllReadyH.cons (o := vbx_9_13) rfl (fun K hK => ?_) (AllReadyH.nil)
        dsimp only [vbx_9_13]
        rw [if_pos (by rfl)]
        refine lit_arr (b := ⟨BL33, cA, xm, cc⟩) (by rfl) (by rfl) ?_
        intro BL40 w40 bL40 cL40 XL40 HQ
        have z25 := XL40.size
        replace E := E.trans XL40
        replace HO := HO.ext XL40
        replace HI := HI.ext XL40
        replace D0 := cell_ext (XL40) D0
        replace HSX := HSX.ext XL40
        replace HC := HC.ext XL40
        clear XL40
        clear hHeld
        have hHeld := (D0)
        refine hK.out _ _ hHeld (fun _ => ?_)
        clear hK K
        try simp only [Act.put, List.setIfInBounds_toArray, List.set_cons_zero, List.set_cons_succ]
        refine wpAnyH_ready (rs := [14]) (by kernel_rfl) (by simp) ?_
        refine AllReadyH.cons (o := vbx_9_14) rfl (fun K hK => ?_) (AllReadyH.nil)
        dsimp only [vbx_9_14]
        rw [if_pos (by rfl)]
        refine app_bx (b := ⟨BL33, cA, xm, cc⟩) (by rfl) (by rfl) HO (by rfl) HQ (by omega) (by omega) ?_
        intro A41 c41 w41 HO2 HG hat hsz
        have hBl := (Below.refl w.heap.size _).grown HG (by omega) (fun g hg => (World.ownsRow.lt HO g hg).1)
        replace D0 := (Below.cell hBl (by rw [addr_block]; exact hab)).trans D0
        clear hBl
        replace E := E.grown HG (by omega) (fun g hg => (World.ownsRow.lt HO g hg).1)
        have HI2 := HI.app (fun i hi h => h.2) HG hat (b := ⟨BL33, cA, xm, cc⟩) (by show xm = _; rw [HXL.out, HXM.out]) (by rw [HXL.out]; exact HC) (fun i hi h e => by have := howl i e; dsimp only [NewOld] at h; omega)
        rw [← arrs_app] at HO2
        clear HO HI HQ HC HG hat HSX
        clear hHeld
        have hHeld := (D0)
        refine hK.out _ _ hHeld (fun _ => ?_)
        clear hK K
        try simp only [Act.put, List.setIfInBounds_toArray, List.set_cons_zero, List.set_cons_succ]
        refine wpAnyH_take (i := 15) (oi := { dst := some 5, op := Go.Op.assign (Go.Operand.tmp 41), type := 24, pos := "law.go:106", after := #[{ on := 14, ground := Go.Ground.data }, { on := 14, ground := Go.Ground.chain }, { on := 0, ground := Go.Ground.phase }, { on := 1, ground := Go.Ground.phase }, { on := 2, ground := Go.Ground.phase }, { on := 3, ground := Go.Ground.phase }, { on := 4, ground := Go.Ground.phase }, { on := 5, ground := Go.Ground.phase }, { on := 6, ground := Go.Ground.phase }, { on := 7, ground := Go.Ground.phase }, { on := 8, ground := Go.Ground.phase }, { on := 9, ground := Go.Ground.phase }, { on := 10, ground := Go.Ground.phase }, { on := 11, ground := Go.Ground.phase }, { on := 12, ground := Go.Ground.phase }, { on := 13, ground := Go.Ground.phase }, { on := 14, ground := Go.Ground.phase }], guard := none }) (v := ?v26) rfl (by kernel_rfl) (by kernel_rfl) (by kernel_rfl) (fun _ _ _ h => h) (Or.inl ⟨by rfl, ?hy26⟩) hHeld ?rest26
        case hy26 => (intro w hSw; (try dsimp only at hSw); go_simp; (first | done | with_reducible rfl))
        try simp only [Act.put, List.setIfInBounds_toArray, List.set_cons_zero, List.set_cons_succ]
        refine wpAnyH_done (by kernel_rfl) ?_ _
        refine JD9_0 w41 BL33 cA cc BL40 A41 c41 ?_
        exact ⟨by omega, E, HO2, HI2⟩
      · intro wD9_0 BL33 cA cc BL40 A41 c41 hJ
        obtain ⟨z27, E, HO2, HI2⟩ := hJ
        try dsimp only
        go_wp2_with fail
        exact ⟨⟨k + 1, _, _, _, by omega, rfl, by go_num, by simp [HLL.out], hAll2, E, HO2, HI2⟩, by simp [intOf]; omega⟩
    · have hkm : k = n := by omega
      rw [hkm] at HO HLL hAll ⊢
      have SO := SlS.all (Sl.own HO)
      have HT := HI.mono (S' := fun i => i < wr.heap.size) (fun i hi _ => hi)
      clear HO HI hkm
      go_wp2_with fail
      refine (cB oA oc L _ _ HLL SO).mono ?_
      rintro e w43 ⟨v, rfl, hq, x⟩
      have HV := hq.now
      clear hq
      have z28 := x.size
      replace E := E.trans x
      replace SO := SO.ext x
      replace HT := HT.ext x
      clear x
      clear SO
      have TB7 : True := trivial
      have TG30 : True := trivial
      go_wp2_with (first | (clear TB7; refine allocsV rfl rfl ?_; intro B7 w7 bB7 cB7 XB7 LB7 RB7; have z29 := XB7.size; replace E := E.trans XB7; replace HT := HT.ext XB7; replace HV := HV.ext XB7) | (clear TG30; have hRl := (RB7).lt (Nat.zero_lt_succ _); refine storesV (B := B7) rfl rfl rfl (v := v) rfl RB7 HV.is.flat ?_; clear LB7; intro s30 G30 LB7 RQ; have z31 := G30.size; replace E := grown_ext E G30 (by omega); replace HT := HT.grown G30 (by first | omega | (dsimp only [New]; omega)); replace HV := HV.grown G30 (by first | omega | (dsimp only [New]; omega)); clear RB7; have RB7 := RQ; clear RQ hRl) | (refine loadsV (B := B7) (by rfl) rfl rfl LB7 ?_))
      refine (cK v L _ HV.is).mono ?_
      rintro e w45 ⟨rfl, x⟩
      have z32 := x.size
      replace E := E.trans x
      replace HT := HT.ext x
      replace HV := HV.ext x
      replace LB7 := LB7.ext x
      replace RB7 := RB7.ext x
      clear x
      go_wp2_with (refine loadgV (B := B7) (by rfl) rfl rfl LB7 ?_)
      refine (cCl v L _ HV.is).mono ?_
      rintro e w49 ⟨rfl, x⟩
      have z33 := x.size
      replace E := E.trans x
      replace HT := HT.ext x
      replace HV := HV.ext x
      replace LB7 := LB7.ext x
      replace RB7 := RB7.ext x
      clear x
      go_wp2_with (refine loadgV (B := B7) (by rfl) rfl rfl LB7 ?_)
      refine (cLn v L _ HLL HV.is).mono ?_
      rintro e w54 ⟨rfl, x⟩
      have z34 := x.size
      replace E := E.trans x
      replace HT := HT.ext x
      replace HV := HV.ext x
      replace LB7 := LB7.ext x
      replace RB7 := RB7.ext x
      clear x
      go_wp2_with (refine loadgV (B := B7) (by rfl) rfl rfl LB7 ?_)
      refine (cAr v L _ HLL HV.is).mono ?_
      rintro e w61 ⟨B1, b1, g1, rfl, hb1, hq, x⟩
      clear hb1 hq
      have z35 := x.size
      replace E := E.trans x
      replace HT := HT.ext x
      replace HV := HV.ext x
      replace LB7 := LB7.ext x
      replace RB7 := RB7.ext x
      clear x
      go_wp2_with (refine loadgV (B := B7) (by rfl) rfl rfl LB7 ?_)
      refine (cNn v L _ HV.is).mono ?_
      rintro e w69 ⟨rfl, x⟩
      have z36 := x.size
      replace E := E.trans x
      replace HT := HT.ext x
      replace HV := HV.ext x
      replace LB7 := LB7.ext x
      replace RB7 := RB7.ext x
      clear x
      go_wp2_with (refine loadsV (B := B7) (by rfl) rfl rfl LB7 ?_)
      refine (cAr v L _ HLL HV.is).mono ?_
      rintro e w74 ⟨bA, bb, bg, rfl, hbA, hq, x⟩
      have SB := hq.now
      clear hq
      have z37 := x.size
      replace E := E.trans x
      replace HT := HT.ext x
      replace HV := HV.ext x
      replace LB7 := LB7.ext x
      replace RB7 := RB7.ext x
      clear x
      go_wp2_with fail
      generalize w74 = WL at *
      go_loopw [9] (fun i wr => ∃ k : Nat, k ≤ n ∧ i = .int .i64 k ∧ Ext WL wr) (fun i _ => n - (intOf i).toNat)
      case atStart => exact ⟨0, Nat.zero_le _, rfl, Ext.refl _⟩
      case round =>
        obtain ⟨k, hk, rfl, HX⟩ := hrel
        have z38 := HX.size
        replace E := E.trans HX
        replace HT := HT.ext HX
        replace HV := HV.ext HX
        replace LB7 := LB7.ext HX
        replace RB7 := RB7.ext HX
        replace SB := SB.ext HX
        by_cases hlt : k < n
        · have hLk : k < L.length := by have := HLL.out; omega
          obtain ⟨a, ea, D0, hSx⟩ := HL.out _ E k hlt
          subst ea
          have HSX0 : Kp (fun w' => Sl w' 1 (XA k) (X k).length (i32s (X k))) wr := fun w' hx => by obtain ⟨_, _, _, h⟩ := HL.out w' (E.trans hx) k hlt; exact h
          have HD0 : Kp (fun w' => w'.cell? (a.add k) = some (.slice (XA k) (X k).length (XC k))) wr := fun w' hx => cell_ext hx D0
          clear hSx D0
          have hbe := hbA (by omega)
          subst hbe
          have H9 := arr_at SB HLL.out hlt
          obtain ⟨hbm, hTk⟩ := HT k hLk
          have hbox := fun w' h => cBx v L k w' HLL hlt h
          have htx := fun v w' h => cT k v w' h
          have hru := fun B b B' b' w' h h' => cR k B b B' b' w' (Nat.le_trans (hAll.out k hlt) (by omega)) h h'
          have h6 : (X k).length ≤ 1048576 := Nat.le_trans (hAll.out k hlt) (by omega)
          clear HT SB hLk
          generalize L.getD k default = b at H9 hbm hTk hbox
          obtain ⟨gS, cA, m, cc⟩ := b
          dsimp only at hbm hTk H9
          simp only [Bx.cells, List.drop_succ_cons, List.drop_zero] at H9 hbox
          generalize X k = xl at HSX0 HD0 hbm hTk htx hru h6
          obtain ⟨xm, hxm⟩ : ∃ xm, xl.length = xm := ⟨_, rfl⟩
          rw [hxm] at HSX0 HD0 hbm htx hru h6
          obtain rfl : xm = m := hbm.symm
          have HTX := chars_is (cc := cc) hTk hxm.symm h6
          clear hTk hxm
          generalize XA k = xA at HSX0 HD0
          generalize XC k = xc at HD0
          have HSX := HSX0
          clear HSX0
          have HK9 : Kp (fun w' => w'.cell? (a.add k) = some (.slice xA xm xc) ∧ w'.rangeAt bg (k * 9 + 1) [.int .i64 5, .slice none 0 0, .int .i64 0, .slice none 0 0, .slice none 0 0, .slice none 0 0, .slice cA xm cc, .slice none 0 0] ∧ w'.cell? ⟨bg, k * 9, none⟩ = some (.slice (some ⟨gS, 0, none⟩) 1 1)) wr := fun w' hx => ⟨HD0 w' hx, (H9 w' hx).1, (H9 w' hx).2⟩
          clear HD0 H9
          go_wp2_with fail
          try simp only [Act.put, List.setIfInBounds_toArray, List.set_cons_zero, List.set_cons_succ]
          apply joinK0 (F := fun (wS17 : World) => wr.heap.size ≤ wS17.heap.size ∧ Ext w wS17 ∧ Lay 8 wS17 B7 v ∧ Room 8 wS17 B7 ∧ Ext WL wS17 ∧ VecS wS17 v (VD.boxes (arrs L)) (fun i => i < wS17.heap.size) ∧ VecS wS17 (.agg #[.int .i64 5, .slice none 0 0, .int .i64 0, .slice none 0 0, .slice none 0 0, .slice none 0 0, .slice cA xm cc, .slice none 0 0]) (VD.chars xl) (fun i => i < wS17.heap.size) ∧ Kp (fun w' => Sl w' 1 xA xm (i32s xl)) wS17 ∧ Kp (fun w' => w'.cell? (a.add k) = some (.slice xA xm xc) ∧ w'.rangeAt bg (k * 9 + 1) [.int .i64 5, .slice none 0 0, .int .i64 0, .slice none 0 0, .slice none 0 0, .slice none 0 0, .slice cA xm cc, .slice none 0 0] ∧ w'.cell? ⟨bg, k * 9, none⟩ = some (.slice (some ⟨gS, 0, none⟩) 1 1)) wS17)
          · intro J
            refine J wr ?_
            exact ⟨Nat.le_refl _, E, LB7, RB7, HX, (HV.mono (fun i hi h => by ((try dsimp only [New] at h); omega))), (HTX.mono (fun i hi h => by ((try dsimp only [New] at h); omega))), HSX, HK9⟩
          intro wS17 hJS
          clear E HV LB7 RB7 HX HTX HSX HK9
          refine wp_region_held_drew (S := (fun w' => Lay 8 w' B7 v ∧ w'.cell? (a.add k) = some (.slice xA xm xc) ∧ w'.rangeAt bg (k * 9 + 1) [.int .i64 5, .slice none 0 0, .int .i64 0, .slice none 0 0, .slice none 0 0, .slice none 0 0, .slice cA xm cc, .slice none 0 0] ∧ w'.cell? ⟨bg, k * 9, none⟩ = some (.slice (some ⟨gS, 0, none⟩) 1 1))) (by kernel_rfl) (by obtain ⟨z41, E, LB7, RB7, HX, HV, HTX, HSX, HK9⟩ := hJS; exact ⟨LB7, ((HK9.ext (Ext.refl _).drew).is.1), ((HK9.ext (Ext.refl _).drew).is.2.1), ((HK9.ext (Ext.refl _).drew).is.2.2)⟩) (fun hH0 => ?_)
          apply joinK4 (F := fun (wD17_0 : World) (TA : Option Addr) (tb : Nat) (UA : Option Addr) (ub : Nat) => wS17.heap.size ≤ wD17_0.heap.size ∧ Ext w wD17_0 ∧ Lay 8 wD17_0 B7 v ∧ Room 8 wD17_0 B7 ∧ Ext WL wD17_0)
          intro JD17_0
          · have hJQ := hJS
            obtain ⟨z41, E, LB7, RB7, HX, HV, HTX, HSX, HK9⟩ := hJQ
            have hq42 : wS17.heap.size ≤ wS17.drew.heap.size := Nat.le_refl _
            have z43 := (Ext.refl wS17).drew.size
            replace E := E.trans (Ext.refl wS17).drew
            replace LB7 := LB7.ext (Ext.refl wS17).drew
            replace RB7 := RB7.ext (Ext.refl wS17).drew
            replace HX := HX.trans (Ext.refl wS17).drew
            replace HV := HV.ext (Ext.refl wS17).drew
            replace HTX := HTX.ext (Ext.refl wS17).drew
            replace HSX := HSX.ext (Ext.refl wS17).drew
            replace HK9 := HK9.ext (Ext.refl wS17).drew
            have hHeld := And.intro LB7 (And.intro (HK9.is.1) (And.intro (HK9.is.2.1) ((HK9.is.2.2))))
            refine wpAnyH_take (i := 0) (oi := { dst := some 81, op := Go.Op.load 34 (Go.Operand.tmp 7), type := 34, pos := "law.go:114", after := #[], guard := none }) (v := v) rfl (by kernel_rfl) (by kernel_rfl) (by kernel_rfl) (fun _ _ _ h => h) (yieldV (by rfl) rfl rfl fun w' hx => hx.1) hHeld ?_
            try simp only [Act.put, List.setIfInBounds_toArray, List.set_cons_zero, List.set_cons_succ]
            refine wpAnyH_take (i := 1) (oi := { dst := some 82, op := Go.Op.move (Go.Operand.tmp 9), type := 3, pos := "law.go:114", after := #[], guard := none }) (v := ?v45) rfl (by kernel_rfl) (by kernel_rfl) (by kernel_rfl) (fun _ _ _ h => h) (Or.inl ⟨by rfl, ?hy45⟩) hHeld ?rest45
            case hy45 => (intro w hSw; (try dsimp only at hSw); obtain ⟨hS0, hS1, hS2, hS3⟩ := hSw; go_simp; (first | done | with_reducible rfl))
            try simp only [Act.put, List.setIfInBounds_toArray, List.set_cons_zero, List.set_cons_succ]
            refine wpAnyH_take (i := 5) (oi := { dst := some 86, op := Go.Op.move (Go.Operand.tmp 0), type := 22, pos := "law.go:114", after := #[], guard := none }) (v := ?v46) rfl (by kernel_rfl) (by kernel_rfl) (by kernel_rfl) (fun _ _ _ h => h) (Or.inl ⟨by rfl, ?hy46⟩) hHeld ?rest46
            case hy46 => (intro w hSw; (try dsimp only at hSw); obtain ⟨hS0, hS1, hS2, hS3⟩ := hSw; go_simp; (first | done | with_reducible rfl))
            try simp only [Act.put, List.setIfInBounds_toArray, List.set_cons_zero, List.set_cons_succ]
            refine wpAnyH_take (i := 6) (oi := { dst := some 87, op := Go.Op.move (Go.Operand.tmp 9), type := 3, pos := "law.go:114", after := #[], guard := none }) (v := ?v47) rfl (by kernel_rfl) (by kernel_rfl) (by kernel_rfl) (fun _ _ _ h => h) (Or.inl ⟨by rfl, ?hy47⟩) hHeld ?rest47
            case hy47 => (intro w hSw; (try dsimp only at hSw); obtain ⟨hS0, hS1, hS2, hS3⟩ := hSw; go_simp; (first | done | with_reducible rfl))
            try simp only [Act.put, List.setIfInBounds_toArray, List.set_cons_zero, List.set_cons_succ]
            refine wpAnyH_take (i := 7) (oi := { dst := some 88, op := Go.Op.indexAddr 22 (Go.Operand.tmp 86) (Go.Operand.tmp 87), type := 0, pos := "law.go:114", after := #[{ on := 5, ground := Go.Ground.data }, { on := 6, ground := Go.Ground.data }], guard := none }) (v := .pointer (some (a.add k))) rfl (by kernel_rfl) (by kernel_rfl) (by kernel_rfl) (fun _ _ _ h => h) (Or.inl ⟨by rfl, ?hy48⟩) hHeld ?rest48
            case hy48 => (intro w hSw; (try dsimp only at hSw); obtain ⟨hS0, hS1, hS2, hS3⟩ := hSw; go_simp; try rw [if_pos (by omega)]; try rw [Int.toNat_natCast]; (first | done | with_reducible rfl))
            try simp only [Act.put, List.setIfInBounds_toArray, List.set_cons_zero, List.set_cons_succ]
            refine wpAnyH_take (i := 8) (oi := { dst := some 89, op := Go.Op.load 25 (Go.Operand.tmp 88), type := 25, pos := "law.go:114", after := #[{ on := 7, ground := Go.Ground.data }], guard := none }) (v := .slice xA xm xc) rfl (by kernel_rfl) (by kernel_rfl) (by kernel_rfl) (fun _ _ _ h => h) (Or.inl ⟨by rfl, ?hy49⟩) hHeld ?rest49
            case hy49 => (intro w hSw; (try dsimp only at hSw); obtain ⟨hS0, hS1, hS2, hS3⟩ := hSw; go_simp; (first | done | with_reducible rfl))
            try simp only [Act.put, List.setIfInBounds_toArray, List.set_cons_zero, List.set_cons_succ]
            refine wpAnyH_ready (rs := [2]) (by kernel_rfl) (by simp) ?_
            refine AllReadyH.cons (o := vbx_17_2) rfl (fun K hK => ?_) (AllReadyH.nil)
            dsimp only [vbx_17_2]
            go_simp
            refine (hbox _ HV.is).mono ?_
            rintro e w83 ⟨rfl, x⟩
            have z50 := x.size
            replace E := E.trans x
            replace LB7 := LB7.ext x
            replace RB7 := RB7.ext x
            replace HX := HX.trans x
            replace HV := HV.ext x
            replace HTX := HTX.ext x
            replace HSX := HSX.ext x
            replace HK9 := HK9.ext x
            clear x
            clear hHeld
            have hHeld := And.intro LB7 (And.intro (HK9.is.1) (And.intro (HK9.is.2.1) ((HK9.is.2.2))))
            refine hK.out _ _ hHeld (fun _ => ?_)
            clear hK K
            try simp only [Act.put, List.setIfInBounds_toArray, List.set_cons_zero, List.set_cons_succ]
            refine wpAnyH_take (i := 3) (oi := { dst := some 84, op := Go.Op.field 37 (Go.Operand.tmp 83) 1, type := 34, pos := "law.go:114", after := #[{ on := 2, ground := Go.Ground.data }], guard := none }) (v := (.agg #[.int .i64 5, .slice none 0 0, .int .i64 0, .slice none 0 0, .slice none 0 0, .slice none 0 0, .slice cA xm cc, .slice none 0 0])) rfl (by kernel_rfl) (by kernel_rfl) (by kernel_rfl) (fun _ _ _ h => h) (Or.inl ⟨by rfl, ?hy51⟩) hHeld ?rest51
            case hy51 => (intro w hSw; (try dsimp only at hSw); obtain ⟨hS0, hS1, hS2, hS3⟩ := hSw; go_simp; try (first | rfl | (simp [Sem.run]; done)); (first | done | with_reducible rfl))
            try simp only [Act.put, List.setIfInBounds_toArray, List.set_cons_zero, List.set_cons_succ]
            refine wpAnyH_ready (rs := [4]) (by kernel_rfl) (by simp) ?_
            refine AllReadyH.cons (o := vbx_17_4) rfl (fun K hK => ?_) (AllReadyH.nil)
            dsimp only [vbx_17_4]
            go_simp
            refine (htx _ _ HTX.is).mono ?_
            rintro e w85 ⟨TA, tb, rfl, hq, x⟩
            have HQ1 := hq.now
            clear hq
            have z52 := x.size
            replace E := E.trans x
            replace LB7 := LB7.ext x
            replace RB7 := RB7.ext x
            replace HX := HX.trans x
            replace HV := HV.ext x
            replace HTX := HTX.ext x
            replace HSX := HSX.ext x
            replace HK9 := HK9.ext x
            clear x
            clear hHeld
            have hHeld := And.intro LB7 (And.intro (HK9.is.1) (And.intro (HK9.is.2.1) ((HK9.is.2.2))))
            refine hK.out _ _ hHeld (fun _ => ?_)
            clear hK K
            try simp only [Act.put, List.setIfInBounds_toArray, List.set_cons_zero, List.set_cons_succ]
            refine wpAnyH_ready (rs := [9]) (by kernel_rfl) (by simp) ?_
            refine AllReadyH.cons (o := vbx_17_9) rfl (fun K hK => ?_) (AllReadyH.nil)
            dsimp only [vbx_17_9]
            go_simp
            refine (hru TA tb xA xc _ HQ1.is HSX.is).mono ?_
            rintro e w90 ⟨rfl, x⟩
            have z53 := x.size
            replace E := E.trans x
            replace LB7 := LB7.ext x
            replace RB7 := RB7.ext x
            replace HX := HX.trans x
            replace HV := HV.ext x
            replace HTX := HTX.ext x
            replace HSX := HSX.ext x
            replace HK9 := HK9.ext x
            replace HQ1 := HQ1.ext x
            clear x
            clear hHeld
            have hHeld := And.intro LB7 (And.intro (HK9.is.1) (And.intro (HK9.is.2.1) ((HK9.is.2.2))))
            refine hK.out _ _ hHeld (fun _ => ?_)
            clear hK K
            try simp only [Act.put, List.setIfInBounds_toArray, List.set_cons_zero, List.set_cons_succ]
            refine wpAnyH_take (i := 10) (oi := { dst := some 91, op := Go.Op.unOp Go.UnOp.not 4 (Go.Operand.tmp 90), type := 4, pos := "law.go:114", after := #[{ on := 9, ground := Go.Ground.data }], guard := none }) (v := ?v54) rfl (by kernel_rfl) (by kernel_rfl) (by kernel_rfl) (fun _ _ _ h => h) (Or.inl ⟨by rfl, ?hy54⟩) hHeld ?rest54
            case hy54 => (intro w hSw; (try dsimp only at hSw); obtain ⟨hS0, hS1, hS2, hS3⟩ := hSw; go_simp; (first | done | with_reducible rfl))
            try simp only [Act.put, List.setIfInBounds_toArray, List.set_cons_zero, List.set_cons_succ]
            refine wpAnyH_take (i := 11) (oi := { dst := some 92, op := Go.Op.move (Go.Operand.tmp 91), type := 4, pos := "law.go:114", after := #[{ on := 10, ground := Go.Ground.data }, { on := 9, ground := Go.Ground.chain }], guard := none }) (v := ?v55) rfl (by kernel_rfl) (by kernel_rfl) (by kernel_rfl) (fun _ _ _ h => h) (Or.inl ⟨by rfl, ?hy55⟩) hHeld ?rest55
            case hy55 => (intro w hSw; (try dsimp only at hSw); obtain ⟨hS0, hS1, hS2, hS3⟩ := hSw; go_simp; (first | done | with_reducible rfl))
            try simp only [Act.put, List.setIfInBounds_toArray, List.set_cons_zero, List.set_cons_succ]
            refine wpAnyH_take (i := 12) (oi := { dst := some 93, op := Go.Op.move (Go.Operand.tmp 8), type := 24, pos := "law.go:114", after := #[{ on := 11, ground := Go.Ground.guard }], guard := some (11, false) }) (v := ?v56) rfl (by kernel_rfl) (by kernel_rfl) (by kernel_rfl) (fun _ _ _ h => h) (Or.inl ⟨by rfl, ?hy56⟩) hHeld ?rest56
            case hy56 => (intro w hSw; (try dsimp only at hSw); obtain ⟨hS0, hS1, hS2, hS3⟩ := hSw; go_simp; (first | done | with_reducible rfl))
            try simp only [Act.put, List.setIfInBounds_toArray, List.set_cons_zero, List.set_cons_succ]
            refine wpAnyH_take (i := 13) (oi := { dst := some 94, op := Go.Op.move (Go.Operand.tmp 9), type := 3, pos := "law.go:114", after := #[{ on := 11, ground := Go.Ground.guard }], guard := some (11, false) }) (v := ?v57) rfl (by kernel_rfl) (by kernel_rfl) (by kernel_rfl) (fun _ _ _ h => h) (Or.inl ⟨by rfl, ?hy57⟩) hHeld ?rest57
            case hy57 => (intro w hSw; (try dsimp only at hSw); obtain ⟨hS0, hS1, hS2, hS3⟩ := hSw; go_simp; (first | done | with_reducible rfl))
            try simp only [Act.put, List.setIfInBounds_toArray, List.set_cons_zero, List.set_cons_succ]
            refine wpAnyH_take (i := 14) (oi := { dst := some 95, op := Go.Op.indexAddr 24 (Go.Operand.tmp 93) (Go.Operand.tmp 94), type := 0, pos := "law.go:114", after := #[{ on := 12, ground := Go.Ground.data }, { on := 13, ground := Go.Ground.data }, { on := 11, ground := Go.Ground.guard }], guard := some (11, false) }) (v := .pointer (some ⟨bg, k * 9, none⟩)) rfl (by kernel_rfl) (by kernel_rfl) (by kernel_rfl) (fun _ _ _ h => h) (Or.inl ⟨by rfl, ?hy58⟩) hHeld ?rest58
            case hy58 => (intro w hSw; (try dsimp only at hSw); obtain ⟨hS0, hS1, hS2, hS3⟩ := hSw; go_simp; try rw [if_pos (by omega)]; try rw [Int.toNat_natCast]; (first | done | with_reducible rfl))
            try simp only [Act.put, List.setIfInBounds_toArray, List.set_cons_zero, List.set_cons_succ]
            refine wpAnyH_take (i := 15) (oi := { dst := some 96, op := Go.Op.fieldAddr 37 (Go.Operand.tmp 95) 1, type := 0, pos := "law.go:114", after := #[{ on := 14, ground := Go.Ground.data }, { on := 11, ground := Go.Ground.guard }], guard := some (11, false) }) (v := .pointer (some ⟨bg, k * 9 + 1, none⟩)) rfl (by kernel_rfl) (by kernel_rfl) (by kernel_rfl) (fun _ _ _ h => h) (Or.inl ⟨by rfl, ?hy59⟩) hHeld ?rest59
            case hy59 => (intro w hSw; (try dsimp only at hSw); obtain ⟨hS0, hS1, hS2, hS3⟩ := hSw; go_simp; try (first | done | (simp; done)); (first | done | with_reducible rfl))
            try simp only [Act.put, List.setIfInBounds_toArray, List.set_cons_zero, List.set_cons_succ]
            refine wpAnyH_take (i := 16) (oi := { dst := some 97, op := Go.Op.load 34 (Go.Operand.tmp 96), type := 34, pos := "law.go:114", after := #[{ on := 15, ground := Go.Ground.data }, { on := 11, ground := Go.Ground.guard }], guard := some (11, false) }) (v := (.agg #[.int .i64 5, .slice none 0 0, .int .i64 0, .slice none 0 0, .slice none 0 0, .slice none 0 0, .slice cA xm cc, .slice none 0 0])) rfl (by kernel_rfl) (by kernel_rfl) (by kernel_rfl) (fun _ _ _ h => h) (yields_vec (by rfl) rfl rfl fun w' hx => hx.2.2.1) hHeld ?_
            try simp only [Act.put, List.setIfInBounds_toArray, List.set_cons_zero, List.set_cons_succ]
            refine wpAnyH_take (i := 18) (oi := { dst := some 99, op := Go.Op.move (Go.Operand.tmp 0), type := 22, pos := "law.go:114", after := #[{ on := 11, ground := Go.Ground.guard }], guard := some (11, false) }) (v := ?v61) rfl (by kernel_rfl) (by kernel_rfl) (by kernel_rfl) (fun _ _ _ h => h) (Or.inl ⟨by rfl, ?hy61⟩) hHeld ?rest61
            case hy61 => (intro w hSw; (try dsimp only at hSw); obtain ⟨hS0, hS1, hS2, hS3⟩ := hSw; go_simp; (first | done | with_reducible rfl))
            try simp only [Act.put, List.setIfInBounds_toArray, List.set_cons_zero, List.set_cons_succ]
            refine wpAnyH_take (i := 19) (oi := { dst := some 100, op := Go.Op.move (Go.Operand.tmp 9), type := 3, pos := "law.go:114", after := #[{ on := 11, ground := Go.Ground.guard }], guard := some (11, false) }) (v := ?v62) rfl (by kernel_rfl) (by kernel_rfl) (by kernel_rfl) (fun _ _ _ h => h) (Or.inl ⟨by rfl, ?hy62⟩) hHeld ?rest62
            case hy62 => (intro w hSw; (try dsimp only at hSw); obtain ⟨hS0, hS1, hS2, hS3⟩ := hSw; go_simp; (first | done | with_reducible rfl))
            try simp only [Act.put, List.setIfInBounds_toArray, List.set_cons_zero, List.set_cons_succ]
            refine wpAnyH_take (i := 20) (oi := { dst := some 101, op := Go.Op.indexAddr 22 (Go.Operand.tmp 99) (Go.Operand.tmp 100), type := 0, pos := "law.go:114", after := #[{ on := 18, ground := Go.Ground.data }, { on := 19, ground := Go.Ground.data }, { on := 11, ground := Go.Ground.guard }], guard := some (11, false) }) (v := .pointer (some (a.add k))) rfl (by kernel_rfl) (by kernel_rfl) (by kernel_rfl) (fun _ _ _ h => h) (Or.inl ⟨by rfl, ?hy63⟩) hHeld ?rest63
            case hy63 => (intro w hSw; (try dsimp only at hSw); obtain ⟨hS0, hS1, hS2, hS3⟩ := hSw; go_simp; try rw [if_pos (by omega)]; try rw [Int.toNat_natCast]; (first | done | with_reducible rfl))
            try simp only [Act.put, List.setIfInBounds_toArray, List.set_cons_zero, List.set_cons_succ]
            refine wpAnyH_take (i := 21) (oi := { dst := some 102, op := Go.Op.load 25 (Go.Operand.tmp 101), type := 25, pos := "law.go:114", after := #[{ on := 20, ground := Go.Ground.data }, { on := 11, ground := Go.Ground.guard }], guard := some (11, false) }) (v := .slice xA xm xc) rfl (by kernel_rfl) (by kernel_rfl) (by kernel_rfl) (fun _ _ _ h => h) (Or.inl ⟨by rfl, ?hy64⟩) hHeld ?rest64
            case hy64 => (intro w hSw; (try dsimp only at hSw); obtain ⟨hS0, hS1, hS2, hS3⟩ := hSw; go_simp; (first | done | with_reducible rfl))
            try simp only [Act.put, List.setIfInBounds_toArray, List.set_cons_zero, List.set_cons_succ]
            refine wpAnyH_ready (rs := [17]) (by kernel_rfl) (by simp) ?_
            refine AllReadyH.cons (o := vbx_17_17) rfl (fun K hK => ?_) (AllReadyH.nil)
            dsimp only [vbx_17_17]
            go_simp
            refine (htx _ _ HTX.is).mono ?_
            rintro e w98 ⟨UA, ub, rfl, hq, x⟩
            have HQ2 := hq.now
            clear hq
            have z65 := x.size
            replace E := E.trans x
            replace LB7 := LB7.ext x
            replace RB7 := RB7.ext x
            replace HX := HX.trans x
            replace HV := HV.ext x
            replace HTX := HTX.ext x
            replace HSX := HSX.ext x
            replace HK9 := HK9.ext x
            replace HQ1 := HQ1.ext x
            clear x
            clear hHeld
            have hHeld := And.intro LB7 (And.intro (HK9.is.1) (And.intro (HK9.is.2.1) ((HK9.is.2.2))))
            refine hK.out _ _ hHeld (fun _ => ?_)
            clear hK K
            try simp only [Act.put, List.setIfInBounds_toArray, List.set_cons_zero, List.set_cons_succ]
            refine wpAnyH_ready (rs := [22]) (by kernel_rfl) (by simp) ?_
            refine AllReadyH.cons (o := vbx_17_22) rfl (fun K hK => ?_) (AllReadyH.nil)
            dsimp only [vbx_17_22]
            go_simp
            refine (hru UA ub xA xc _ HQ2.is HSX.is).mono ?_
            rintro e w103 ⟨rfl, x⟩
            have z66 := x.size
            replace E := E.trans x
            replace LB7 := LB7.ext x
            replace RB7 := RB7.ext x
            replace HX := HX.trans x
            replace HV := HV.ext x
            replace HTX := HTX.ext x
            replace HSX := HSX.ext x
            replace HK9 := HK9.ext x
            replace HQ1 := HQ1.ext x
            replace HQ2 := HQ2.ext x
            clear x
            clear hHeld
            have hHeld := And.intro LB7 (And.intro (HK9.is.1) (And.intro (HK9.is.2.1) ((HK9.is.2.2))))
            refine hK.out _ _ hHeld (fun _ => ?_)
            clear hK K
            try simp only [Act.put, List.setIfInBounds_toArray, List.set_cons_zero, List.set_cons_succ]
            refine wpAnyH_take (i := 23) (oi := { dst := some 104, op := Go.Op.unOp Go.UnOp.not 4 (Go.Operand.tmp 103), type := 4, pos := "law.go:114", after := #[{ on := 22, ground := Go.Ground.data }, { on := 11, ground := Go.Ground.guard }], guard := some (11, false) }) (v := ?v67) rfl (by kernel_rfl) (by kernel_rfl) (by kernel_rfl) (fun _ _ _ h => h) (Or.inl ⟨by rfl, ?hy67⟩) hHeld ?rest67
            case hy67 => (intro w hSw; (try dsimp only at hSw); obtain ⟨hS0, hS1, hS2, hS3⟩ := hSw; go_simp; (first | done | with_reducible rfl))
            try simp only [Act.put, List.setIfInBounds_toArray, List.set_cons_zero, List.set_cons_succ]
            refine wpAnyH_take (i := 24) (oi := { dst := some 105, op := Go.Op.pick (Go.Operand.tmp 92) (Go.Operand.const (Go.Value.bool true)) (Go.Operand.tmp 104), type := 4, pos := "law.go:114", after := #[{ on := 11, ground := Go.Ground.data }, { on := 23, ground := Go.Ground.data }], guard := none }) (v := ?v68) rfl (by kernel_rfl) (by kernel_rfl) (by kernel_rfl) (fun _ _ _ h => h) (Or.inl ⟨by rfl, ?hy68⟩) hHeld ?rest68
            case hy68 => (intro w hSw; (try dsimp only at hSw); obtain ⟨hS0, hS1, hS2, hS3⟩ := hSw; go_simp; (first | done | with_reducible rfl))
            try simp only [Act.put, List.setIfInBounds_toArray, List.set_cons_zero, List.set_cons_succ]
            refine wpAnyH_take (i := 25) (oi := { dst := some 106, op := Go.Op.move (Go.Operand.tmp 105), type := 4, pos := "law.go:114", after := #[{ on := 24, ground := Go.Ground.data }, { on := 22, ground := Go.Ground.chain }], guard := none }) (v := ?v69) rfl (by kernel_rfl) (by kernel_rfl) (by kernel_rfl) (fun _ _ _ h => h) (Or.inl ⟨by rfl, ?hy69⟩) hHeld ?rest69
            case hy69 => (intro w hSw; (try dsimp only at hSw); obtain ⟨hS0, hS1, hS2, hS3⟩ := hSw; go_simp; (first | done | with_reducible rfl))
            try simp only [Act.put, List.setIfInBounds_toArray, List.set_cons_zero, List.set_cons_succ]
            refine wpAnyH_take (i := 26) (oi := { dst := some 107, op := Go.Op.move (Go.Operand.tmp 8), type := 24, pos := "law.go:114", after := #[{ on := 25, ground := Go.Ground.guard }], guard := some (25, false) }) (v := ?v70) rfl (by kernel_rfl) (by kernel_rfl) (by kernel_rfl) (fun _ _ _ h => h) (Or.inl ⟨by rfl, ?hy70⟩) hHeld ?rest70
            case hy70 => (intro w hSw; (try dsimp only at hSw); obtain ⟨hS0, hS1, hS2, hS3⟩ := hSw; go_simp; (first | done | with_reducible rfl))
            try simp only [Act.put, List.setIfInBounds_toArray, List.set_cons_zero, List.set_cons_succ]
            refine wpAnyH_take (i := 27) (oi := { dst := some 108, op := Go.Op.move (Go.Operand.tmp 9), type := 3, pos := "law.go:114", after := #[{ on := 25, ground := Go.Ground.guard }], guard := some (25, false) }) (v := ?v71) rfl (by kernel_rfl) (by kernel_rfl) (by kernel_rfl) (fun _ _ _ h => h) (Or.inl ⟨by rfl, ?hy71⟩) hHeld ?rest71
            case hy71 => (intro w hSw; (try dsimp only at hSw); obtain ⟨hS0, hS1, hS2, hS3⟩ := hSw; go_simp; (first | done | with_reducible rfl))
            try simp only [Act.put, List.setIfInBounds_toArray, List.set_cons_zero, List.set_cons_succ]
            refine wpAnyH_take (i := 28) (oi := { dst := some 109, op := Go.Op.indexAddr 24 (Go.Operand.tmp 107) (Go.Operand.tmp 108), type := 0, pos := "law.go:114", after := #[{ on := 26, ground := Go.Ground.data }, { on := 27, ground := Go.Ground.data }, { on := 25, ground := Go.Ground.guard }], guard := some (25, false) }) (v := .pointer (some ⟨bg, k * 9, none⟩)) rfl (by kernel_rfl) (by kernel_rfl) (by kernel_rfl) (fun _ _ _ h => h) (Or.inl ⟨by rfl, ?hy72⟩) hHeld ?rest72
            case hy72 => (intro w hSw; (try dsimp only at hSw); obtain ⟨hS0, hS1, hS2, hS3⟩ := hSw; go_simp; try rw [if_pos (by omega)]; try rw [Int.toNat_natCast]; (first | done | with_reducible rfl))
            try simp only [Act.put, List.setIfInBounds_toArray, List.set_cons_zero, List.set_cons_succ]
            refine wpAnyH_take (i := 29) (oi := { dst := some 110, op := Go.Op.fieldAddr 37 (Go.Operand.tmp 109) 0, type := 0, pos := "law.go:114", after := #[{ on := 28, ground := Go.Ground.data }, { on := 25, ground := Go.Ground.guard }], guard := some (25, false) }) (v := .pointer (some ⟨bg, k * 9, none⟩)) rfl (by kernel_rfl) (by kernel_rfl) (by kernel_rfl) (fun _ _ _ h => h) (Or.inl ⟨by rfl, ?hy73⟩) hHeld ?rest73
            case hy73 => (intro w hSw; (try dsimp only at hSw); obtain ⟨hS0, hS1, hS2, hS3⟩ := hSw; go_simp; try (first | done | (simp; done)); (first | done | with_reducible rfl))
            try simp only [Act.put, List.setIfInBounds_toArray, List.set_cons_zero, List.set_cons_succ]
            refine wpAnyH_take (i := 30) (oi := { dst := some 111, op := Go.Op.load 26 (Go.Operand.tmp 110), type := 26, pos := "law.go:114", after := #[{ on := 29, ground := Go.Ground.data }, { on := 25, ground := Go.Ground.guard }], guard := some (25, false) }) (v := .slice (some ⟨gS, 0, none⟩) 1 1) rfl (by kernel_rfl) (by kernel_rfl) (by kernel_rfl) (fun _ _ _ h => h) (Or.inl ⟨by rfl, ?hy74⟩) hHeld ?rest74
            case hy74 => (intro w hSw; (try dsimp only at hSw); obtain ⟨hS0, hS1, hS2, hS3⟩ := hSw; go_simp; (first | done | with_reducible rfl))
            try simp only [Act.put, List.setIfInBounds_toArray, List.set_cons_zero, List.set_cons_succ]
            refine wpAnyH_take (i := 31) (oi := { dst := some 112, op := Go.Op.call { callee := Go.Callee.builtin Go.Builtin.len, args := #[Go.Operand.tmp 111], argTypes := #[26] }, type := 3, pos := "law.go:114", after := #[{ on := 30, ground := Go.Ground.data }, { on := 25, ground := Go.Ground.guard }], guard := some (25, false) }) (v := .int .i64 1) rfl (by kernel_rfl) (by kernel_rfl) (by kernel_rfl) (fun _ _ _ h => h) (Or.inl ⟨by rfl, ?hy75⟩) hHeld ?rest75
            case hy75 => (intro w hSw; (try dsimp only at hSw); obtain ⟨hS0, hS1, hS2, hS3⟩ := hSw; go_simp; (first | done | with_reducible rfl))
            try simp only [Act.put, List.setIfInBounds_toArray, List.set_cons_zero, List.set_cons_succ]
            refine wpAnyH_take (i := 32) (oi := { dst := some 113, op := Go.Op.binOp Go.BinOp.neq 3 (Go.Operand.tmp 112) (Go.Operand.const (Go.Value.int Go.IntKind.i64 1)) 3, type := 4, pos := "law.go:114", after := #[{ on := 31, ground := Go.Ground.data }, { on := 25, ground := Go.Ground.guard }], guard := some (25, false) }) (v := .bool false) rfl (by kernel_rfl) (by kernel_rfl) (by kernel_rfl) (fun _ _ _ h => h) (Or.inl ⟨by rfl, ?hy76⟩) hHeld ?rest76
            case hy76 => (intro w hSw; (try dsimp only at hSw); obtain ⟨hS0, hS1, hS2, hS3⟩ := hSw; go_simp; (first | done | with_reducible rfl))
            try simp only [Act.put, List.setIfInBounds_toArray, List.set_cons_zero, List.set_cons_succ]
            refine wpAnyH_take (i := 33) (oi := { dst := some 114, op := Go.Op.pick (Go.Operand.tmp 106) (Go.Operand.const (Go.Value.bool true)) (Go.Operand.tmp 113), type := 4, pos := "law.go:114", after := #[{ on := 25, ground := Go.Ground.data }, { on := 32, ground := Go.Ground.data }], guard := none }) (v := ?v77) rfl (by kernel_rfl) (by kernel_rfl) (by kernel_rfl) (fun _ _ _ h => h) (Or.inl ⟨by rfl, ?hy77⟩) hHeld ?rest77
            case hy77 => (intro w hSw; (try dsimp only at hSw); obtain ⟨hS0, hS1, hS2, hS3⟩ := hSw; go_simp; (first | done | with_reducible rfl))
            try simp only [Act.put, List.setIfInBounds_toArray, List.set_cons_zero, List.set_cons_succ]
            refine wpAnyH_done (by kernel_rfl) ?_ _
            refine JD17_0 w103 TA tb UA ub ?_
            exact ⟨by omega, E, LB7, RB7, HX⟩
          · intro wD17_0 TA tb UA ub hJ
            obtain ⟨z78, E, LB7, RB7, HX⟩ := hJ
            try dsimp only
            go_wp2_with fail
            exact ⟨⟨k + 1, by omega, by go_num, HX⟩, by simp [intOf]; omega⟩
        · clear HX
          have MARK2 : True := trivial
          have hi3 : (0 ≤ i ∧ i < n) ∨ i < 0 ∨ (0 ≤ i ∧ (n : Int) ≤ i) := by omega
          rcases hi3 with hi | hi0 | hi1
          · obtain ⟨hi1, hi2⟩ := hi
            go_wp2_with fail
            refine (aw _).mono ?_
            rintro e w123 ⟨rfl, x⟩
            have z79 := x.size
            replace E := E.trans x
            replace HT := HT.ext x
            replace HV := HV.ext x
            replace LB7 := LB7.ext x
            replace RB7 := RB7.ext x
            replace SB := SB.ext x
            clear x
            go_wp2_with fail
            go_ret
            exact ⟨rfl, E⟩
          · have hi : ¬ (0 ≤ i ∧ i < n) := by omega
            go_wp2_with (refine loadsV (B := B7) (by rfl) rfl rfl LB7 ?_)
            refine (cBn v L _ HLL hi HV.is).mono ?_
            rintro e w126 ⟨rfl, x⟩
            have z79 := x.size
            replace E := E.trans x
            replace HT := HT.ext x
            replace HV := HV.ext x
            replace LB7 := LB7.ext x
            replace RB7 := RB7.ext x
            replace SB := SB.ext x
            clear x
            have TF127 : True := trivial
            go_wp2_with (first | (clear TF127; rw [field0]; simp only [Result.andThen_ok, Oper.upon_value]) | (refine loadgV (B := B7) (by rfl) rfl rfl LB7 ?_))
            refine (cBn v L _ HLL hi HV.is).mono ?_
            rintro e w133 ⟨rfl, x⟩
            have z80 := x.size
            replace E := E.trans x
            replace HT := HT.ext x
            replace HV := HV.ext x
            replace LB7 := LB7.ext x
            replace RB7 := RB7.ext x
            replace SB := SB.ext x
            clear x
            have TF134 : True := trivial
            go_wp2_with (clear TF134; rw [field9]; simp only [Result.andThen_ok, Oper.upon_value])
            refine (cZ _).mono ?_
            rintro e w135 ⟨rfl, x⟩
            have z81 := x.size
            replace E := E.trans x
            replace HT := HT.ext x
            replace HV := HV.ext x
            replace LB7 := LB7.ext x
            replace RB7 := RB7.ext x
            replace SB := SB.ext x
            clear x
            go_wp2_with fail
            refine (aw _).mono ?_
            rintro e w139 ⟨rfl, x⟩
            have z82 := x.size
            replace E := E.trans x
            replace HT := HT.ext x
            replace HV := HV.ext x
            replace LB7 := LB7.ext x
            replace RB7 := RB7.ext x
            replace SB := SB.ext x
            clear x
            go_wp2_with fail
            go_ret
            exact ⟨rfl, E⟩
          · have hi : ¬ (0 ≤ i ∧ i < n) := by omega
            obtain ⟨hi2, hi3⟩ := hi1
            go_wp2_with (refine loadsV (B := B7) (by rfl) rfl rfl LB7 ?_)
            refine (cBn v L _ HLL hi HV.is).mono ?_
            rintro e w126 ⟨rfl, x⟩
            have z79 := x.size
            replace E := E.trans x
            replace HT := HT.ext x
            replace HV := HV.ext x
            replace LB7 := LB7.ext x
            replace RB7 := RB7.ext x
            replace SB := SB.ext x
            clear x
            have TF127 : True := trivial
            go_wp2_with (first | (clear TF127; rw [field0]; simp only [Result.andThen_ok, Oper.upon_value]) | (refine loadgV (B := B7) (by rfl) rfl rfl LB7 ?_))
            refine (cBn v L _ HLL hi HV.is).mono ?_
            rintro e w133 ⟨rfl, x⟩
            have z80 := x.size
            replace E := E.trans x
            replace HT := HT.ext x
            replace HV := HV.ext x
            replace LB7 := LB7.ext x
            replace RB7 := RB7.ext x
            replace SB := SB.ext x
            clear x
            have TF134 : True := trivial
            go_wp2_with (clear TF134; rw [field9]; simp only [Result.andThen_ok, Oper.upon_value])
            refine (cZ _).mono ?_
            rintro e w135 ⟨rfl, x⟩
            have z81 := x.size
            replace E := E.trans x
            replace HT := HT.ext x
            replace HV := HV.ext x
            replace LB7 := LB7.ext x
            replace RB7 := RB7.ext x
            replace SB := SB.ext x
            clear x
            go_wp2_with fail
            refine (aw _).mono ?_
            rintro e w139 ⟨rfl, x⟩
            have z82 := x.size
            replace E := E.trans x
            replace HT := HT.ext x
            replace HV := HV.ext x
            replace LB7 := LB7.ext x
            replace RB7 := RB7.ext x
            replace SB := SB.ext x
            clear x
            go_wp2_with fail
            go_ret
            exact ⟨rfl, E⟩
end Go.Proofs.Ytmjikdkdccnbaaa
