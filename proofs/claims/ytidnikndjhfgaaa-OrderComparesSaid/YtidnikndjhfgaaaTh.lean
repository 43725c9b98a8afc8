/- rebusref16.Cells, Less. -/
import Derived.Test.YtidnikndjhfgaaaTg
namespace Go.Proofs.Ytidnikndjhfgaaa
open Go.ChangeShapes Go.WideShapes Go.RowKit Bv Fl
set_option maxHeartbeats 2000000
set_option maxRecDepth 100000
def It.val (x : It) : Value := .agg #[.int .i64 x.kind, .float .f64 x.num, .int .i32 x.chr, .slice x.bA x.bn x.bc]
/-- items that have an order: those of X -/
structure OI (w : World) (A : Option Addr) (n : Nat) (IT : Nat → It) (X : List Int) : Prop where
  len : n = X.length
  lim : n ≤ 1048576
  it : ∀ w', Ext w w' → ∀ k, k < n → ∃ a, A = some a ∧ ItAt w' (a.add (k * 4)) (IT k)
  below : ∀ x y, x < n → y < n → ∀ w', Calls Try.prog 28 #[(IT x).val, (IT y).val] w' fun e w2 => e = .returned (.bool (decide (X.getD x 0 < X.getD y 0))) ∧ Ext w' w2
theorem cmpZ_lt {a b : Int} (h : a < b) : cmpZ a b = -1 := if_pos h
theorem cmpZ_gt {a b : Int} (h : ¬ a < b) (h2 : b < a) : cmpZ a b = 1 := by unfold cmpZ; rw [if_neg h, if_pos h2]
theorem cmpZ_eq {a b : Int} (h : ¬ a < b) (h2 : ¬ b < a) : cmpZ a b = 0 := by unfold cmpZ; rw [if_neg h, if_neg h2]
theorem split_cz (A : Prop) (x y : Int) : (A ∧ x < y) ∨ (A ∧ ¬ x < y ∧ y < x) ∨ (A ∧ ¬ x < y ∧ ¬ y < x) ∨ ¬A := by
  by_cases a : A
  · by_cases h : x < y
    · exact .inl ⟨a, h⟩
    · by_cases h2 : y < x
      · exact .inr (.inl ⟨a, h, h2⟩)
      · exact .inr (.inr (.inl ⟨a, h, h2⟩))
  · exact .inr (.inr (.inr a))
theorem rcells_any (A : Option Addr) (n c : Nat) (IT : Nat → It) (X : List Int) (size i k a b : Nat) (w : World) (ho : OI w A n IT X) (hs : size ≤ 1048576) (ha : i * size = a) (hb : k * size = b) (hi : a + size ≤ n) (hk : b + size ≤ n) :
    Calls Try.prog 18 #[.slice A n c, .int .i64 (size : Int), .int .i64 (i : Int), .int .i64 (k : Int)] w fun e w' => e = .returned (.int .i64 (cellZ X a b size)) ∧ Ext w w' := by
  have hL := ho.lim
  have e18 : IntKind.i64.wrap ((i : Int) * (size : Int)) = (a : Int) := by rw [show (i : Int) * (size : Int) = (a : Int) by rw [← ha]; exact (Int.natCast_mul i size).symm, IntKind.wrap_i64]; omega
  have e26 : IntKind.i64.wrap ((k : Int) * (size : Int)) = (b : Int) := by rw [show (k : Int) * (size : Int) = (b : Int) by rw [← hb]; exact (Int.natCast_mul k size).symm, IntKind.wrap_i64]; omega
  have e20 : ∀ j : Nat, j < size → IntKind.i64.wrap ((a : Int) + (j : Int)) = ((a + j : Nat) : Int) := fun j hj => by rw [IntKind.wrap_i64]; omega
  have e28 : ∀ j : Nat, j < size → IntKind.i64.wrap ((b : Int) + (j : Int)) = ((b + j : Nat) : Int) := fun j hj => by rw [IntKind.wrap_i64]; omega
  have E20 := Lib.hid e20
  have E28 := Lib.hid e28
  have HIT := Lib.hid ho.it
  have HB := Lib.hid ho.below
  have HZ : Hid (∀ j, cellZ X a b (j + 1) = if cellZ X a b j ≠ 0 then cellZ X a b j else cmpZ (X.getD (a + j) 0) (X.getD (b + j) 0)) := fun j => rfl
  have HS : Hid (∀ j, cellZ X a b j ≠ 0 → j ≤ size → cellZ X a b size = cellZ X a b j) := fun j h hj => cellZ_stay h hj
  have H0 : Hid (cellZ X a b 0 = 0) := rfl
  clear ho ha hb e20 e28
  obtain ⟨CZ, hCZ⟩ : ∃ CZ : Nat → Int, cellZ X a b = CZ := ⟨_, rfl⟩
  obtain ⟨XX, hXX⟩ : ∃ XX : Nat → Int, ∀ j, X.getD j 0 = XX j := ⟨_, fun _ => rfl⟩
  rw [hCZ] at HZ HS H0 ⊢
  simp only [hXX] at HZ HB
  clear hCZ hXX
  have E := Ext.refl w
  go_enter Try.func18, Try.ntmps18
  go_wp2_with fail
  go_loopw [9] (fun i wr => ∃ j : Nat, j ≤ size ∧ i = .int .i64 j ∧ CZ j = 0 ∧ Ext w wr) (fun i _ => size - (intOf i).toNat)
  case atStart => exact ⟨0, Nat.zero_le _, rfl, H0.out, Ext.refl _⟩
  case round =>
    obtain ⟨j, hj, rfl, hz, HX⟩ := hrel
    have HU := Lib.hid hz
    clear hz
    have z1 := HX.size
    replace E := E.trans HX
    rcases split_cz (j < size) (XX (a + j)) (XX (b + j)) with ⟨hlt, h1⟩ | ⟨hlt, h1, h2⟩ | ⟨hlt, h1, h2⟩ | hlt
    · have E20j := E20.out j hlt
      have E28j := E28.out j hlt
      obtain ⟨ad, ea, hI⟩ := HIT.out _ E (a + j) (by omega)
      subst ea
      have HA := Lib.hid (fun w' (hx : Ext w w') => by
          obtain ⟨ad', e, h⟩ := HIT.out w' hx (a + j) (by omega)
          cases e
          exact h : ∀ w', Ext w w' → ItAt w' (ad.add ((a + j) * 4)) (IT (a + j)))
      have HBB := Lib.hid (fun w' (hx : Ext w w') => by
          obtain ⟨ad', e, h⟩ := HIT.out w' hx (b + j) (by omega)
          cases e
          exact h : ∀ w', Ext w w' → ItAt w' (ad.add ((b + j) * 4)) (IT (b + j)))
      clear hI
      have cab := fun w' => HB.out (a + j) (b + j) (by omega) (by omega) w'
      have cba := fun w' => HB.out (b + j) (a + j) (by omega) (by omega) w'
      unfold It.val at cab cba
      have HCM := Lib.hid (cmpZ_lt h1)
      rw [decide_eq_true h1] at cab
      clear h1 cba
      go_wp2_with fail
      try simp only [Act.put, List.setIfInBounds_toArray, List.set_cons_zero, List.set_cons_succ]
      have hq2 : wr.heap.size ≤ wr.drew.heap.size := Nat.le_refl _
      have z3 := (Ext.refl wr).drew.size
      replace E := E.trans (Ext.refl wr).drew
      replace HX := HX.trans (Ext.refl wr).drew
      refine wp_region_held_drew (S := (fun w' => w'.cell? (ad.add ((a + j) * 4)) = some (.int .i64 (IT (a + j)).kind) ∧ w'.cell? ⟨(ad.add ((a + j) * 4)).block, (ad.add ((a + j) * 4)).off + 1, none⟩ = some (.float .f64 (IT (a + j)).num) ∧ w'.cell? ⟨(ad.add ((a + j) * 4)).block, (ad.add ((a + j) * 4)).off + 2, none⟩ = some (.int .i32 (IT (a + j)).chr) ∧ w'.cell? ⟨(ad.add ((a + j) * 4)).block, (ad.add ((a + j) * 4)).off + 3, none⟩ = some (.slice (IT (a + j)).bA (IT (a + j)).bn (IT (a + j)).bc) ∧ w'.cell? (ad.add ((b + j) * 4)) = some (.int .i64 (IT (b + j)).kind) ∧ w'.cell? ⟨(ad.add ((b + j) * 4)).block, (ad.add ((b + j) * 4)).off + 1, none⟩ = some (.float .f64 (IT (b + j)).num) ∧ w'.cell? ⟨(ad.add ((b + j) * 4)).block, (ad.add ((b + j) * 4)).off + 2, none⟩ = some (.int .i32 (IT (b + j)).chr) ∧ w'.cell? ⟨(ad.add ((b + j) * 4)).block, (ad.add ((b + j) * 4)).off + 3, none⟩ = some (.slice (IT (b + j)).bA (IT (b + j)).bn (IT (b + j)).bc))) (by kernel_rfl) ⟨((HA.out _ E).c0), ((HA.out _ E).c1), ((HA.out _ E).c2), ((HA.out _ E).c3), ((HBB.out _ E).c0), ((HBB.out _ E).c1), ((HBB.out _ E).c2), ((HBB.out _ E).c3)⟩ (fun hHeld => ?_)
      refine wpAnyH_take (i := 0) (oi := { dst := some 15, op := Go.Op.move (Go.Operand.tmp 0), type := 27, pos := "ref.go:17", after := #[], guard := none }) (v := ?v4) rfl (by kernel_rfl) (by kernel_rfl) (by kernel_rfl) (fun _ _ _ h => h) (Or.inl ⟨by rfl, ?hy4⟩) hHeld ?rest4
      case hy4 => (intro w hSw; (try dsimp only at hSw); obtain ⟨hS0, hS1, hS2, hS3, hS4, hS5, hS6, hS7⟩ := hSw; go_simp; (first | done | with_reducible rfl))
      try simp only [Act.put, List.setIfInBounds_toArray, List.set_cons_zero, List.set_cons_succ]
      refine wpAnyH_take (i := 1) (oi := { dst := some 16, op := Go.Op.move (Go.Operand.tmp 2), type := 3, pos := "ref.go:17", after := #[], guard := none }) (v := ?v5) rfl (by kernel_rfl) (by kernel_rfl) (by kernel_rfl) (fun _ _ _ h => h) (Or.inl ⟨by rfl, ?hy5⟩) hHeld ?rest5
      case hy5 => (intro w hSw; (try dsimp only at hSw); obtain ⟨hS0, hS1, hS2, hS3, hS4, hS5, hS6, hS7⟩ := hSw; go_simp; (first | done | with_reducible rfl))
      try simp only [Act.put, List.setIfInBounds_toArray, List.set_cons_zero, List.set_cons_succ]
      refine wpAnyH_take (i := 2) (oi := { dst := some 17, op := Go.Op.move (Go.Operand.tmp 1), type := 3, pos := "ref.go:17", after := #[], guard := none }) (v := ?v6) rfl (by kernel_rfl) (by kernel_rfl) (by kernel_rfl) (fun _ _ _ h => h) (Or.inl ⟨by rfl, ?hy6⟩) hHeld ?rest6
      case hy6 => (intro w hSw; (try dsimp only at hSw); obtain ⟨hS0, hS1, hS2, hS3, hS4, hS5, hS6, hS7⟩ := hSw; go_simp; (first | done | with_reducible rfl))
      try simp only [Act.put, List.setIfInBounds_toArray, List.set_cons_zero, List.set_cons_succ]
      refine wpAnyH_take (i := 3) (oi := { dst := some 18, op := Go.Op.binOp Go.BinOp.mul 3 (Go.Operand.tmp 16) (Go.Operand.tmp 17) 3, type := 3, pos := "ref.go:17", after := #[{ on := 1, ground := Go.Ground.data }, { on := 2, ground := Go.Ground.data }], guard := none }) (v := .int .i64 (a : Int)) rfl (by kernel_rfl) (by kernel_rfl) (by kernel_rfl) (fun _ _ _ h => h) (Or.inl ⟨by rfl, ?hy7⟩) hHeld ?rest7
      case hy7 => (intro w hSw; (try dsimp only at hSw); obtain ⟨hS0, hS1, hS2, hS3, hS4, hS5, hS6, hS7⟩ := hSw; go_simp; try rw [e18]; (first | done | with_reducible rfl))
      try simp only [Act.put, List.setIfInBounds_toArray, List.set_cons_zero, List.set_cons_succ]
      refine wpAnyH_take (i := 4) (oi := { dst := some 19, op := Go.Op.move (Go.Operand.tmp 9), type := 3, pos := "ref.go:17", after := #[], guard := none }) (v := ?v8) rfl (by kernel_rfl) (by kernel_rfl) (by kernel_rfl) (fun _ _ _ h => h) (Or.inl ⟨by rfl, ?hy8⟩) hHeld ?rest8
      case hy8 => (intro w hSw; (try dsimp only at hSw); obtain ⟨hS0, hS1, hS2, hS3, hS4, hS5, hS6, hS7⟩ := hSw; go_simp; (first | done | with_reducible rfl))
      try simp only [Act.put, List.setIfInBounds_toArray, List.set_cons_zero, List.set_cons_succ]
      refine wpAnyH_take (i := 5) (oi := { dst := some 20, op := Go.Op.binOp Go.BinOp.add 3 (Go.Operand.tmp 18) (Go.Operand.tmp 19) 3, type := 3, pos := "ref.go:17", after := #[{ on := 3, ground := Go.Ground.data }, { on := 4, ground := Go.Ground.data }], guard := none }) (v := .int .i64 ((a + j : Nat) : Int)) rfl (by kernel_rfl) (by kernel_rfl) (by kernel_rfl) (fun _ _ _ h => h) (Or.inl ⟨by rfl, ?hy9⟩) hHeld ?rest9
      case hy9 => (intro w hSw; (try dsimp only at hSw); obtain ⟨hS0, hS1, hS2, hS3, hS4, hS5, hS6, hS7⟩ := hSw; go_simp; try rw [E20j]; (first | done | with_reducible rfl))
      try simp only [Act.put, List.setIfInBounds_toArray, List.set_cons_zero, List.set_cons_succ]
      refine wpAnyH_take (i := 6) (oi := { dst := some 21, op := Go.Op.indexAddr 27 (Go.Operand.tmp 15) (Go.Operand.tmp 20), type := 0, pos := "ref.go:17", after := #[{ on := 0, ground := Go.Ground.data }, { on := 5, ground := Go.Ground.data }], guard := none }) (v := .pointer (some (ad.add ((a + j) * 4)))) rfl (by kernel_rfl) (by kernel_rfl) (by kernel_rfl) (fun _ _ _ h => h) (Or.inl ⟨by rfl, ?hy10⟩) hHeld ?rest10
      case hy10 => (intro w hSw; (try dsimp only at hSw); obtain ⟨hS0, hS1, hS2, hS3, hS4, hS5, hS6, hS7⟩ := hSw; go_simp; try rw [if_pos (by omega)]; try rw [show ((a : Int) + (j : Int)).toNat = a + j by omega]; (first | done | with_reducible rfl))
      try simp only [Act.put, List.setIfInBounds_toArray, List.set_cons_zero, List.set_cons_succ]
      refine wpAnyH_take (i := 7) (oi := { dst := some 22, op := Go.Op.load 59 (Go.Operand.tmp 21), type := 59, pos := "ref.go:17", after := #[{ on := 6, ground := Go.Ground.data }], guard := none }) (v := ?v11) rfl (by kernel_rfl) (by kernel_rfl) (by kernel_rfl) (fun _ _ _ h => h) (Or.inl ⟨by rfl, ?hy11⟩) hHeld ?rest11
      case hy11 => (intro w hSw; (try dsimp only at hSw); obtain ⟨hS0, hS1, hS2, hS3, hS4, hS5, hS6, hS7⟩ := hSw; go_simp; (first | done | with_reducible rfl))
      try simp only [Act.put, List.setIfInBounds_toArray, List.set_cons_zero, List.set_cons_succ]
      refine wpAnyH_take (i := 8) (oi := { dst := some 23, op := Go.Op.move (Go.Operand.tmp 0), type := 27, pos := "ref.go:17", after := #[], guard := none }) (v := ?v12) rfl (by kernel_rfl) (by kernel_rfl) (by kernel_rfl) (fun _ _ _ h => h) (Or.inl ⟨by rfl, ?hy12⟩) hHeld ?rest12
      case hy12 => (intro w hSw; (try dsimp only at hSw); obtain ⟨hS0, hS1, hS2, hS3, hS4, hS5, hS6, hS7⟩ := hSw; go_simp; (first | done | with_reducible rfl))
      try simp only [Act.put, List.setIfInBounds_toArray, List.set_cons_zero, List.set_cons_succ]
      refine wpAnyH_take (i := 9) (oi := { dst := some 24, op := Go.Op.move (Go.Operand.tmp 3), type := 3, pos := "ref.go:17", after := #[], guard := none }) (v := ?v13) rfl (by kernel_rfl) (by kernel_rfl) (by kernel_rfl) (fun _ _ _ h => h) (Or.inl ⟨by rfl, ?hy13⟩) hHeld ?rest13
      case hy13 => (intro w hSw; (try dsimp only at hSw); obtain ⟨hS0, hS1, hS2, hS3, hS4, hS5, hS6, hS7⟩ := hSw; go_simp; (first | done | with_reducible rfl))
      try simp only [Act.put, List.setIfInBounds_toArray, List.set_cons_zero, List.set_cons_succ]
      refine wpAnyH_take (i := 10) (oi := { dst := some 25, op := Go.Op.move (Go.Operand.tmp 1), type := 3, pos := "ref.go:17", after := #[], guard := none }) (v := ?v14) rfl (by kernel_rfl) (by kernel_rfl) (by kernel_rfl) (fun _ _ _ h => h) (Or.inl ⟨by rfl, ?hy14⟩) hHeld ?rest14
      case hy14 => (intro w hSw; (try dsimp only at hSw); obtain ⟨hS0, hS1, hS2, hS3, hS4, hS5, hS6, hS7⟩ := hSw; go_simp; (first | done | with_reducible rfl))
      try simp only [Act.put, List.setIfInBounds_toArray, List.set_cons_zero, List.set_cons_succ]
      refine wpAnyH_take (i := 11) (oi := { dst := some 26, op := Go.Op.binOp Go.BinOp.mul 3 (Go.Operand.tmp 24) (Go.Operand.tmp 25) 3, type := 3, pos := "ref.go:17", after := #[{ on := 9, ground := Go.Ground.data }, { on := 10, ground := Go.Ground.data }], guard := none }) (v := .int .i64 (b : Int)) rfl (by kernel_rfl) (by kernel_rfl) (by kernel_rfl) (fun _ _ _ h => h) (Or.inl ⟨by rfl, ?hy15⟩) hHeld ?rest15
      case hy15 => (intro w hSw; (try dsimp only at hSw); obtain ⟨hS0, hS1, hS2, hS3, hS4, hS5, hS6, hS7⟩ := hSw; go_simp; try rw [e26]; (first | done | with_reducible rfl))
      try simp only [Act.put, List.setIfInBounds_toArray, List.set_cons_zero, List.set_cons_succ]
      refine wpAnyH_take (i := 12) (oi := { dst := some 27, op := Go.Op.move (Go.Operand.tmp 9), type := 3, pos := "ref.go:17", after := #[], guard := none }) (v := ?v16) rfl (by kernel_rfl) (by kernel_rfl) (by kernel_rfl) (fun _ _ _ h => h) (Or.inl ⟨by rfl, ?hy16⟩) hHeld ?rest16
      case hy16 => (intro w hSw; (try dsimp only at hSw); obtain ⟨hS0, hS1, hS2, hS3, hS4, hS5, hS6, hS7⟩ := hSw; go_simp; (first | done | with_reducible rfl))
      try simp only [Act.put, List.setIfInBounds_toArray, List.set_cons_zero, List.set_cons_succ]
      refine wpAnyH_take (i := 13) (oi := { dst := some 28, op := Go.Op.binOp Go.BinOp.add 3 (Go.Operand.tmp 26) (Go.Operand.tmp 27) 3, type := 3, pos := "ref.go:17", after := #[{ on := 11, ground := Go.Ground.data }, { on := 12, ground := Go.Ground.data }], guard := none }) (v := .int .i64 ((b + j : Nat) : Int)) rfl (by kernel_rfl) (by kernel_rfl) (by kernel_rfl) (fun _ _ _ h => h) (Or.inl ⟨by rfl, ?hy17⟩) hHeld ?rest17
      case hy17 => (intro w hSw; (try dsimp only at hSw); obtain ⟨hS0, hS1, hS2, hS3, hS4, hS5, hS6, hS7⟩ := hSw; go_simp; try rw [E28j]; (first | done | with_reducible rfl))
      try simp only [Act.put, List.setIfInBounds_toArray, List.set_cons_zero, List.set_cons_succ]
      refine wpAnyH_take (i := 14) (oi := { dst := some 29, op := Go.Op.indexAddr 27 (Go.Operand.tmp 23) (Go.Operand.tmp 28), type := 0, pos := "ref.go:17", after := #[{ on := 8, ground := Go.Ground.data }, { on := 13, ground := Go.Ground.data }], guard := none }) (v := .pointer (some (ad.add ((b + j) * 4)))) rfl (by kernel_rfl) (by kernel_rfl) (by kernel_rfl) (fun _ _ _ h => h) (Or.inl ⟨by rfl, ?hy18⟩) hHeld ?rest18
      case hy18 => (intro w hSw; (try dsimp only at hSw); obtain ⟨hS0, hS1, hS2, hS3, hS4, hS5, hS6, hS7⟩ := hSw; go_simp; try rw [if_pos (by omega)]; try rw [show ((b : Int) + (j : Int)).toNat = b + j by omega]; (first | done | with_reducible rfl))
      try simp only [Act.put, List.setIfInBounds_toArray, List.set_cons_zero, List.set_cons_succ]
      refine wpAnyH_take (i := 15) (oi := { dst := some 30, op := Go.Op.load 59 (Go.Operand.tmp 29), type := 59, pos := "ref.go:17", after := #[{ on := 14, ground := Go.Ground.data }], guard := none }) (v := ?v19) rfl (by kernel_rfl) (by kernel_rfl) (by kernel_rfl) (fun _ _ _ h => h) (Or.inl ⟨by rfl, ?hy19⟩) hHeld ?rest19
      case hy19 => (intro w hSw; (try dsimp only at hSw); obtain ⟨hS0, hS1, hS2, hS3, hS4, hS5, hS6, hS7⟩ := hSw; go_simp; (first | done | with_reducible rfl))
      try simp only [Act.put, List.setIfInBounds_toArray, List.set_cons_zero, List.set_cons_succ]
      refine wpAnyH_ready (rs := [16]) (by kernel_rfl) (by simp) ?_
      refine AllReadyH.cons (o := { dst := some 31, op := Go.Op.call { callee := Go.Callee.value (Go.Operand.func 28), args := #[Go.Operand.tmp 22, Go.Operand.tmp 30], argTypes := #[59, 59] }, type := 4, pos := "ref.go:17", after := #[{ on := 7, ground := Go.Ground.data }, { on := 15, ground := Go.Ground.data }], guard := none }) rfl (fun K hK => ?_) (AllReadyH.nil)
      go_simp
      refine (cab _).mono ?_
      rintro e w31 ⟨rfl, x⟩
      have z20 := x.size
      replace E := E.trans x
      replace HX := HX.trans x
      clear x
      clear hHeld
      have hHeld := And.intro ((HA.out _ E).c0) (And.intro ((HA.out _ E).c1) (And.intro ((HA.out _ E).c2) (And.intro ((HA.out _ E).c3) (And.intro ((HBB.out _ E).c0) (And.intro ((HBB.out _ E).c1) (And.intro ((HBB.out _ E).c2) (((HBB.out _ E).c3))))))))
      refine hK.out _ _ hHeld (fun _ => ?_)
      clear hK K
      try simp only [Act.put, List.setIfInBounds_toArray, List.set_cons_zero, List.set_cons_succ]
      refine wpAnyH_done (by kernel_rfl) ?_ _
      go_wp2_with fail
      go_ret
      exact ⟨by rw [HS.out (j + 1) (by rw [HZ.out, if_neg (by rw [HU.out]; decide), HCM.out]; decide) (by omega), HZ.out, if_neg (by rw [HU.out]; decide), HCM.out]; rfl, E⟩
    · have E20j := E20.out j hlt
      have E28j := E28.out j hlt
      obtain ⟨ad, ea, hI⟩ := HIT.out _ E (a + j) (by omega)
      subst ea
      have HA := Lib.hid (fun w' (hx : Ext w w') => by
          obtain ⟨ad', e, h⟩ := HIT.out w' hx (a + j) (by omega)
          cases e
          exact h : ∀ w', Ext w w' → ItAt w' (ad.add ((a + j) * 4)) (IT (a + j)))
      have HBB := Lib.hid (fun w' (hx : Ext w w') => by
          obtain ⟨ad', e, h⟩ := HIT.out w' hx (b + j) (by omega)
          cases e
          exact h : ∀ w', Ext w w' → ItAt w' (ad.add ((b + j) * 4)) (IT (b + j)))
      clear hI
      have cab := fun w' => HB.out (a + j) (b + j) (by omega) (by omega) w'
      have cba := fun w' => HB.out (b + j) (a + j) (by omega) (by omega) w'
      unfold It.val at cab cba
      have HCM := Lib.hid (cmpZ_gt h1 h2)
      rw [decide_eq_false h1] at cab
      rw [decide_eq_true h2] at cba
      clear h1 h2
      go_wp2_with fail
      try simp only [Act.put, List.setIfInBounds_toArray, List.set_cons_zero, List.set_cons_succ]
      have hq21 : wr.heap.size ≤ wr.drew.heap.size := Nat.le_refl _
      have z22 := (Ext.refl wr).drew.size
      replace E := E.trans (Ext.refl wr).drew
      replace HX := HX.trans (Ext.refl wr).drew
      refine wp_region_held_drew (S := (fun w' => w'.cell? (ad.add ((a + j) * 4)) = some (.int .i64 (IT (a + j)).kind) ∧ w'.cell? ⟨(ad.add ((a + j) * 4)).block, (ad.add ((a + j) * 4)).off + 1, none⟩ = some (.float .f64 (IT (a + j)).num) ∧ w'.cell? ⟨(ad.add ((a + j) * 4)).block, (ad.add ((a + j) * 4)).off + 2, none⟩ = some (.int .i32 (IT (a + j)).chr) ∧ w'.cell? ⟨(ad.add ((a + j) * 4)).block, (ad.add ((a + j) * 4)).off + 3, none⟩ = some (.slice (IT (a + j)).bA (IT (a + j)).bn (IT (a + j)).bc) ∧ w'.cell? (ad.add ((b + j) * 4)) = some (.int .i64 (IT (b + j)).kind) ∧ w'.cell? ⟨(ad.add ((b + j) * 4)).block, (ad.add ((b + j) * 4)).off + 1, none⟩ = some (.float .f64 (IT (b + j)).num) ∧ w'.cell? ⟨(ad.add ((b + j) * 4)).block, (ad.add ((b + j) * 4)).off + 2, none⟩ = some (.int .i32 (IT (b + j)).chr) ∧ w'.cell? ⟨(ad.add ((b + j) * 4)).block, (ad.add ((b + j) * 4)).off + 3, none⟩ = some (.slice (IT (b + j)).bA (IT (b + j)).bn (IT (b + j)).bc))) (by kernel_rfl) ⟨((HA.out _ E).c0), ((HA.out _ E).c1), ((HA.out _ E).c2), ((HA.out _ E).c3), ((HBB.out _ E).c0), ((HBB.out _ E).c1), ((HBB.out _ E).c2), ((HBB.out _ E).c3)⟩ (fun hHeld => ?_)
      refine wpAnyH_take (i := 0) (oi := { dst := some 15, op := Go.Op.move (Go.Operand.tmp 0), type := 27, pos := "ref.go:17", after := #[], guard := none }) (v := ?v23) rfl (by kernel_rfl) (by kernel_rfl) (by kernel_rfl) (fun _ _ _ h => h) (Or.inl ⟨by rfl, ?hy23⟩) hHeld ?rest23
      case hy23 => (intro w hSw; (try dsimp only at hSw); obtain ⟨hS0, hS1, hS2, hS3, hS4, hS5, hS6, hS7⟩ := hSw; go_simp; (first | done | with_reducible rfl))
      try simp only [Act.put, List.setIfInBounds_toArray, List.set_cons_zero, List.set_cons_succ]
      refine wpAnyH_take (i := 1) (oi := { dst := some 16, op := Go.Op.move (Go.Operand.tmp 2), type := 3, pos := "ref.go:17", after := #[], guard := none }) (v := ?v24) rfl (by kernel_rfl) (by kernel_rfl) (by kernel_rfl) (fun _ _ _ h => h) (Or.inl ⟨by rfl, ?hy24⟩) hHeld ?rest24
      case hy24 => (intro w hSw; (try dsimp only at hSw); obtain ⟨hS0, hS1, hS2, hS3, hS4, hS5, hS6, hS7⟩ := hSw; go_simp; (first | done | with_reducible rfl))
      try simp only [Act.put, List.setIfInBounds_toArray, List.set_cons_zero, List.set_cons_succ]
      refine wpAnyH_take (i := 2) (oi := { dst := some 17, op := Go.Op.move (Go.Operand.tmp 1), type := 3, pos := "ref.go:17", after := #[], guard := none }) (v := ?v25) rfl (by kernel_rfl) (by kernel_rfl) (by kernel_rfl) (fun _ _ _ h => h) (Or.inl ⟨by rfl, ?hy25⟩) hHeld ?rest25
      case hy25 => (intro w hSw; (try dsimp only at hSw); obtain ⟨hS0, hS1, hS2, hS3, hS4, hS5, hS6, hS7⟩ := hSw; go_simp; (first | done | with_reducible rfl))
      try simp only [Act.put, List.setIfInBounds_toArray, List.set_cons_zero, List.set_cons_succ]
      refine wpAnyH_take (i := 3) (oi := { dst := some 18, op := Go.Op.binOp Go.BinOp.mul 3 (Go.Operand.tmp 16) (Go.Operand.tmp 17) 3, type := 3, pos := "ref.go:17", after := #[{ on := 1, ground := Go.Ground.data }, { on := 2, ground := Go.Ground.data }], guard := none }) (v := .int .i64 (a : Int)) rfl (by kernel_rfl) (by kernel_rfl) (by kernel_rfl) (fun _ _ _ h => h) (Or.inl ⟨by rfl, ?hy26⟩) hHeld ?rest26
      case hy26 => (intro w hSw; (try dsimp only at hSw); obtain ⟨hS0, hS1, hS2, hS3, hS4, hS5, hS6, hS7⟩ := hSw; go_simp; try rw [e18]; (first | done | with_reducible rfl))
      try simp only [Act.put, List.setIfInBounds_toArray, List.set_cons_zero, List.set_cons_succ]
      refine wpAnyH_take (i := 4) (oi := { dst := some 19, op := Go.Op.move (Go.Operand.tmp 9), type := 3, pos := "ref.go:17", after := #[], guard := none }) (v := ?v27) rfl (by kernel_rfl) (by kernel_rfl) (by kernel_rfl) (fun _ _ _ h => h) (Or.inl ⟨by rfl, ?hy27⟩) hHeld ?rest27
      case hy27 => (intro w hSw; (try dsimp only at hSw); obtain ⟨hS0, hS1, hS2, hS3, hS4, hS5, hS6, hS7⟩ := hSw; go_simp; (first | done | with_reducible rfl))
      try simp only [Act.put, List.setIfInBounds_toArray, List.set_cons_zero, List.set_cons_succ]
      refine wpAnyH_take (i := 5) (oi := { dst := some 20, op := Go.Op.binOp Go.BinOp.add 3 (Go.Operand.tmp 18) (Go.Operand.tmp 19) 3, type := 3, pos := "ref.go:17", after := #[{ on := 3, ground := Go.Ground.data }, { on := 4, ground := Go.Ground.data }], guard := none }) (v := .int .i64 ((a + j : Nat) : Int)) rfl (by kernel_rfl) (by kernel_rfl) (by kernel_rfl) (fun _ _ _ h => h) (Or.inl ⟨by rfl, ?hy28⟩) hHeld ?rest28
      case hy28 => (intro w hSw; (try dsimp only at hSw); obtain ⟨hS0, hS1, hS2, hS3, hS4, hS5, hS6, hS7⟩ := hSw; go_simp; try rw [E20j]; (first | done | with_reducible rfl))
      try simp only [Act.put, List.setIfInBounds_toArray, List.set_cons_zero, List.set_cons_succ]
      refine wpAnyH_take (i := 6) (oi := { dst := some 21, op := Go.Op.indexAddr 27 (Go.Operand.tmp 15) (Go.Operand.tmp 20), type := 0, pos := "ref.go:17", after := #[{ on := 0, ground := Go.Ground.data }, { on := 5, ground := Go.Ground.data }], guard := none }) (v := .pointer (some (ad.add ((a + j) * 4)))) rfl (by kernel_rfl) (by kernel_rfl) (by kernel_rfl) (fun _ _ _ h => h) (Or.inl ⟨by rfl, ?hy29⟩) hHeld ?rest29
      case hy29 => (intro w hSw; (try dsimp only at hSw); obtain ⟨hS0, hS1, hS2, hS3, hS4, hS5, hS6, hS7⟩ := hSw; go_simp; try rw [if_pos (by omega)]; try rw [show ((a : Int) + (j : Int)).toNat = a + j by omega]; (first | done | with_reducible rfl))
      try simp only [Act.put, List.setIfInBounds_toArray, List.set_cons_zero, List.set_cons_succ]
      refine wpAnyH_take (i := 7) (oi := { dst := some 22, op := Go.Op.load 59 (Go.Operand.tmp 21), type := 59, pos := "ref.go:17", after := #[{ on := 6, ground := Go.Ground.data }], guard := none }) (v := ?v30) rfl (by kernel_rfl) (by kernel_rfl) (by kernel_rfl) (fun _ _ _ h => h) (Or.inl ⟨by rfl, ?hy30⟩) hHeld ?rest30
      case hy30 => (intro w hSw; (try dsimp only at hSw); obtain ⟨hS0, hS1, hS2, hS3, hS4, hS5, hS6, hS7⟩ := hSw; go_simp; (first | done | with_reducible rfl))
      try simp only [Act.put, List.setIfInBounds_toArray, List.set_cons_zero, List.set_cons_succ]
      refine wpAnyH_take (i := 8) (oi := { dst := some 23, op := Go.Op.move (Go.Operand.tmp 0), type := 27, pos := "ref.go:17", after := #[], guard := none }) (v := ?v31) rfl (by kernel_rfl) (by kernel_rfl) (by kernel_rfl) (fun _ _ _ h => h) (Or.inl ⟨by rfl, ?hy31⟩) hHeld ?rest31
      case hy31 => (intro w hSw; (try dsimp only at hSw); obtain ⟨hS0, hS1, hS2, hS3, hS4, hS5, hS6, hS7⟩ := hSw; go_simp; (first | done | with_reducible rfl))
      try simp only [Act.put, List.setIfInBounds_toArray, List.set_cons_zero, List.set_cons_succ]
      refine wpAnyH_take (i := 9) (oi := { dst := some 24, op := Go.Op.move (Go.Operand.tmp 3), type := 3, pos := "ref.go:17", after := #[], guard := none }) (v := ?v32) rfl (by kernel_rfl) (by kernel_rfl) (by kernel_rfl) (fun _ _ _ h => h) (Or.inl ⟨by rfl, ?hy32⟩) hHeld ?rest32
      case hy32 => (intro w hSw; (try dsimp only at hSw); obtain ⟨hS0, hS1, hS2, hS3, hS4, hS5, hS6, hS7⟩ := hSw; go_simp; (first | done | with_reducible rfl))
      try simp only [Act.put, List.setIfInBounds_toArray, List.set_cons_zero, List.set_cons_succ]
      refine wpAnyH_take (i := 10) (oi := { dst := some 25, op := Go.Op.move (Go.Operand.tmp 1), type := 3, pos := "ref.go:17", after := #[], guard := none }) (v := ?v33) rfl (by kernel_rfl) (by kernel_rfl) (by kernel_rfl) (fun _ _ _ h => h) (Or.inl ⟨by rfl, ?hy33⟩) hHeld ?rest33
      case hy33 => (intro w hSw; (try dsimp only at hSw); obtain ⟨hS0, hS1, hS2, hS3, hS4, hS5, hS6, hS7⟩ := hSw; go_simp; (first | done | with_reducible rfl))
      try simp only [Act.put, List.setIfInBounds_toArray, List.set_cons_zero, List.set_cons_succ]
      refine wpAnyH_take (i := 11) (oi := { dst := some 26, op := Go.Op.binOp Go.BinOp.mul 3 (Go.Operand.tmp 24) (Go.Operand.tmp 25) 3, type := 3, pos := "ref.go:17", after := #[{ on := 9, ground := Go.Ground.data }, { on := 10, ground := Go.Ground.data }], guard := none }) (v := .int .i64 (b : Int)) rfl (by kernel_rfl) (by kernel_rfl) (by kernel_rfl) (fun _ _ _ h => h) (Or.inl ⟨by rfl, ?hy34⟩) hHeld ?rest34
      case hy34 => (intro w hSw; (try dsimp only at hSw); obtain ⟨hS0, hS1, hS2, hS3, hS4, hS5, hS6, hS7⟩ := hSw; go_simp; try rw [e26]; (first | done | with_reducible rfl))
      try simp only [Act.put, List.setIfInBounds_toArray, List.set_cons_zero, List.set_cons_succ]
      refine wpAnyH_take (i := 12) (oi := { dst := some 27, op := Go.Op.move (Go.Operand.tmp 9), type := 3, pos := "ref.go:17", after := #[], guard := none }) (v := ?v35) rfl (by kernel_rfl) (by kernel_rfl) (by kernel_rfl) (fun _ _ _ h => h) (Or.inl ⟨by rfl, ?hy35⟩) hHeld ?rest35
      case hy35 => (intro w hSw; (try dsimp only at hSw); obtain ⟨hS0, hS1, hS2, hS3, hS4, hS5, hS6, hS7⟩ := hSw; go_simp; (first | done | with_reducible rfl))
      try simp only [Act.put, List.setIfInBounds_toArray, List.set_cons_zero, List.set_cons_succ]
      refine wpAnyH_take (i := 13) (oi := { dst := some 28, op := Go.Op.binOp Go.BinOp.add 3 (Go.Operand.tmp 26) (Go.Operand.tmp 27) 3, type := 3, pos := "ref.go:17", after := #[{ on := 11, ground := Go.Ground.data }, { on := 12, ground := Go.Ground.data }], guard := none }) (v := .int .i64 ((b + j : Nat) : Int)) rfl (by kernel_rfl) (by kernel_rfl) (by kernel_rfl) (fun _ _ _ h => h) (Or.inl ⟨by rfl, ?hy36⟩) hHeld ?rest36
      case hy36 => (intro w hSw; (try dsimp only at hSw); obtain ⟨hS0, hS1, hS2, hS3, hS4, hS5, hS6, hS7⟩ := hSw; go_simp; try rw [E28j]; (first | done | with_reducible rfl))
      try simp only [Act.put, List.setIfInBounds_toArray, List.set_cons_zero, List.set_cons_succ]
      refine wpAnyH_take (i := 14) (oi := { dst := some 29, op := Go.Op.indexAddr 27 (Go.Operand.tmp 23) (Go.Operand.tmp 28), type := 0, pos := "ref.go:17", after := #[{ on := 8, ground := Go.Ground.data }, { on := 13, ground := Go.Ground.data }], guard := none }) (v := .pointer (some (ad.add ((b + j) * 4)))) rfl (by kernel_rfl) (by kernel_rfl) (by kernel_rfl) (fun _ _ _ h => h) (Or.inl ⟨by rfl, ?hy37⟩) hHeld ?rest37
      case hy37 => (intro w hSw; (try dsimp only at hSw); obtain ⟨hS0, hS1, hS2, hS3, hS4, hS5, hS6, hS7⟩ := hSw; go_simp; try rw [if_pos (by omega)]; try rw [show ((b : Int) + (j : Int)).toNat = b + j by omega]; (first | done | with_reducible rfl))
      try simp only [Act.put, List.setIfInBounds_toArray, List.set_cons_zero, List.set_cons_succ]
      refine wpAnyH_take (i := 15) (oi := { dst := some 30, op := Go.Op.load 59 (Go.Operand.tmp 29), type := 59, pos := "ref.go:17", after := #[{ on := 14, ground := Go.Ground.data }], guard := none }) (v := ?v38) rfl (by kernel_rfl) (by kernel_rfl) (by kernel_rfl) (fun _ _ _ h => h) (Or.inl ⟨by rfl, ?hy38⟩) hHeld ?rest38
      case hy38 => (intro w hSw; (try dsimp only at hSw); obtain ⟨hS0, hS1, hS2, hS3, hS4, hS5, hS6, hS7⟩ := hSw; go_simp; (first | done | with_reducible rfl))
      try simp only [Act.put, List.setIfInBounds_toArray, List.set_cons_zero, List.set_cons_succ]
      refine wpAnyH_ready (rs := [16]) (by kernel_rfl) (by simp) ?_
      refine AllReadyH.cons (o := { dst := some 31, op := Go.Op.call { callee := Go.Callee.value (Go.Operand.func 28), args := #[Go.Operand.tmp 22, Go.Operand.tmp 30], argTypes := #[59, 59] }, type := 4, pos := "ref.go:17", after := #[{ on := 7, ground := Go.Ground.data }, { on := 15, ground := Go.Ground.data }], guard := none }) rfl (fun K hK => ?_) (AllReadyH.nil)
      go_simp
      refine (cab _).mono ?_
      rintro e w31 ⟨rfl, x⟩
      have z39 := x.size
      replace E := E.trans x
      replace HX := HX.trans x
      clear x
      clear hHeld
      have hHeld := And.intro ((HA.out _ E).c0) (And.intro ((HA.out _ E).c1) (And.intro ((HA.out _ E).c2) (And.intro ((HA.out _ E).c3) (And.intro ((HBB.out _ E).c0) (And.intro ((HBB.out _ E).c1) (And.intro ((HBB.out _ E).c2) (((HBB.out _ E).c3))))))))
      refine hK.out _ _ hHeld (fun _ => ?_)
      clear hK K
      try simp only [Act.put, List.setIfInBounds_toArray, List.set_cons_zero, List.set_cons_succ]
      refine wpAnyH_done (by kernel_rfl) ?_ _
      go_wp2_with fail
      try simp only [Act.put, List.setIfInBounds_toArray, List.set_cons_zero, List.set_cons_succ]
      have hq40 : w31.heap.size ≤ w31.drew.heap.size := Nat.le_refl _
      have z41 := (Ext.refl w31).drew.size
      replace E := E.trans (Ext.refl w31).drew
      replace HX := HX.trans (Ext.refl w31).drew
      refine wp_region_held_drew (S := (fun w' => w'.cell? (ad.add ((a + j) * 4)) = some (.int .i64 (IT (a + j)).kind) ∧ w'.cell? ⟨(ad.add ((a + j) * 4)).block, (ad.add ((a + j) * 4)).off + 1, none⟩ = some (.float .f64 (IT (a + j)).num) ∧ w'.cell? ⟨(ad.add ((a + j) * 4)).block, (ad.add ((a + j) * 4)).off + 2, none⟩ = some (.int .i32 (IT (a + j)).chr) ∧ w'.cell? ⟨(ad.add ((a + j) * 4)).block, (ad.add ((a + j) * 4)).off + 3, none⟩ = some (.slice (IT (a + j)).bA (IT (a + j)).bn (IT (a + j)).bc) ∧ w'.cell? (ad.add ((b + j) * 4)) = some (.int .i64 (IT (b + j)).kind) ∧ w'.cell? ⟨(ad.add ((b + j) * 4)).block, (ad.add ((b + j) * 4)).off + 1, none⟩ = some (.float .f64 (IT (b + j)).num) ∧ w'.cell? ⟨(ad.add ((b + j) * 4)).block, (ad.add ((b + j) * 4)).off + 2, none⟩ = some (.int .i32 (IT (b + j)).chr) ∧ w'.cell? ⟨(ad.add ((b + j) * 4)).block, (ad.add ((b + j) * 4)).off + 3, none⟩ = some (.slice (IT (b + j)).bA (IT (b + j)).bn (IT (b + j)).bc))) (by kernel_rfl) ⟨((HA.out _ E).c0), ((HA.out _ E).c1), ((HA.out _ E).c2), ((HA.out _ E).c3), ((HBB.out _ E).c0), ((HBB.out _ E).c1), ((HBB.out _ E).c2), ((HBB.out _ E).c3)⟩ (fun hHeld => ?_)
      refine wpAnyH_take (i := 0) (oi := { dst := some 32, op := Go.Op.move (Go.Operand.tmp 0), type := 27, pos := "ref.go:20", after := #[], guard := none }) (v := ?v42) rfl (by kernel_rfl) (by kernel_rfl) (by kernel_rfl) (fun _ _ _ h => h) (Or.inl ⟨by rfl, ?hy42⟩) hHeld ?rest42
      case hy42 => (intro w hSw; (try dsimp only at hSw); obtain ⟨hS0, hS1, hS2, hS3, hS4, hS5, hS6, hS7⟩ := hSw; go_simp; (first | done | with_reducible rfl))
      try simp only [Act.put, List.setIfInBounds_toArray, List.set_cons_zero, List.set_cons_succ]
      refine wpAnyH_take (i := 1) (oi := { dst := some 33, op := Go.Op.move (Go.Operand.tmp 3), type := 3, pos := "ref.go:20", after := #[], guard := none }) (v := ?v43) rfl (by kernel_rfl) (by kernel_rfl) (by kernel_rfl) (fun _ _ _ h => h) (Or.inl ⟨by rfl, ?hy43⟩) hHeld ?rest43
      case hy43 => (intro w hSw; (try dsimp only at hSw); obtain ⟨hS0, hS1, hS2, hS3, hS4, hS5, hS6, hS7⟩ := hSw; go_simp; (first | done | with_reducible rfl))
      try simp only [Act.put, List.setIfInBounds_toArray, List.set_cons_zero, List.set_cons_succ]
      refine wpAnyH_take (i := 2) (oi := { dst := some 34, op := Go.Op.move (Go.Operand.tmp 1), type := 3, pos := "ref.go:20", after := #[], guard := none }) (v := ?v44) rfl (by kernel_rfl) (by kernel_rfl) (by kernel_rfl) (fun _ _ _ h => h) (Or.inl ⟨by rfl, ?hy44⟩) hHeld ?rest44
      case hy44 => (intro w hSw; (try dsimp only at hSw); obtain ⟨hS0, hS1, hS2, hS3, hS4, hS5, hS6, hS7⟩ := hSw; go_simp; (first | done | with_reducible rfl))
      try simp only [Act.put, List.setIfInBounds_toArray, List.set_cons_zero, List.set_cons_succ]
      refine wpAnyH_take (i := 3) (oi := { dst := some 35, op := Go.Op.binOp Go.BinOp.mul 3 (Go.Operand.tmp 33) (Go.Operand.tmp 34) 3, type := 3, pos := "ref.go:20", after := #[{ on := 1, ground := Go.Ground.data }, { on := 2, ground := Go.Ground.data }], guard := none }) (v := .int .i64 (b : Int)) rfl (by kernel_rfl) (by kernel_rfl) (by kernel_rfl) (fun _ _ _ h => h) (Or.inl ⟨by rfl, ?hy45⟩) hHeld ?rest45
      case hy45 => (intro w hSw; (try dsimp only at hSw); obtain ⟨hS0, hS1, hS2, hS3, hS4, hS5, hS6, hS7⟩ := hSw; go_simp; try rw [e26]; (first | done | with_reducible rfl))
      try simp only [Act.put, List.setIfInBounds_toArray, List.set_cons_zero, List.set_cons_succ]
      refine wpAnyH_take (i := 4) (oi := { dst := some 36, op := Go.Op.move (Go.Operand.tmp 9), type := 3, pos := "ref.go:20", after := #[], guard := none }) (v := ?v46) rfl (by kernel_rfl) (by kernel_rfl) (by kernel_rfl) (fun _ _ _ h => h) (Or.inl ⟨by rfl, ?hy46⟩) hHeld ?rest46
      case hy46 => (intro w hSw; (try dsimp only at hSw); obtain ⟨hS0, hS1, hS2, hS3, hS4, hS5, hS6, hS7⟩ := hSw; go_simp; (first | done | with_reducible rfl))
      try simp only [Act.put, List.setIfInBounds_toArray, List.set_cons_zero, List.set_cons_succ]
      refine wpAnyH_take (i := 5) (oi := { dst := some 37, op := Go.Op.binOp Go.BinOp.add 3 (Go.Operand.tmp 35) (Go.Operand.tmp 36) 3, type := 3, pos := "ref.go:20", after := #[{ on := 3, ground := Go.Ground.data }, { on := 4, ground := Go.Ground.data }], guard := none }) (v := .int .i64 ((b + j : Nat) : Int)) rfl (by kernel_rfl) (by kernel_rfl) (by kernel_rfl) (fun _ _ _ h => h) (Or.inl ⟨by rfl, ?hy47⟩) hHeld ?rest47
      case hy47 => (intro w hSw; (try dsimp only at hSw); obtain ⟨hS0, hS1, hS2, hS3, hS4, hS5, hS6, hS7⟩ := hSw; go_simp; try rw [E28j]; (first | done | with_reducible rfl))
      try simp only [Act.put, List.setIfInBounds_toArray, List.set_cons_zero, List.set_cons_succ]
      refine wpAnyH_take (i := 6) (oi := { dst := some 38, op := Go.Op.indexAddr 27 (Go.Operand.tmp 32) (Go.Operand.tmp 37), type := 0, pos := "ref.go:20", after := #[{ on := 0, ground := Go.Ground.data }, { on := 5, ground := Go.Ground.data }], guard := none }) (v := .pointer (some (ad.add ((b + j) * 4)))) rfl (by kernel_rfl) (by kernel_rfl) (by kernel_rfl) (fun _ _ _ h => h) (Or.inl ⟨by rfl, ?hy48⟩) hHeld ?rest48
      case hy48 => (intro w hSw; (try dsimp only at hSw); obtain ⟨hS0, hS1, hS2, hS3, hS4, hS5, hS6, hS7⟩ := hSw; go_simp; try rw [if_pos (by omega)]; try rw [show ((b : Int) + (j : Int)).toNat = b + j by omega]; (first | done | with_reducible rfl))
      try simp only [Act.put, List.setIfInBounds_toArray, List.set_cons_zero, List.set_cons_succ]
      refine wpAnyH_take (i := 7) (oi := { dst := some 39, op := Go.Op.load 59 (Go.Operand.tmp 38), type := 59, pos := "ref.go:20", after := #[{ on := 6, ground := Go.Ground.data }], guard := none }) (v := ?v49) rfl (by kernel_rfl) (by kernel_rfl) (by kernel_rfl) (fun _ _ _ h => h) (Or.inl ⟨by rfl, ?hy49⟩) hHeld ?rest49
      case hy49 => (intro w hSw; (try dsimp only at hSw); obtain ⟨hS0, hS1, hS2, hS3, hS4, hS5, hS6, hS7⟩ := hSw; go_simp; (first | done | with_reducible rfl))
      try simp only [Act.put, List.setIfInBounds_toArray, List.set_cons_zero, List.set_cons_succ]
      refine wpAnyH_take (i := 8) (oi := { dst := some 40, op := Go.Op.move (Go.Operand.tmp 0), type := 27, pos := "ref.go:20", after := #[], guard := none }) (v := ?v50) rfl (by kernel_rfl) (by kernel_rfl) (by kernel_rfl) (fun _ _ _ h => h) (Or.inl ⟨by rfl, ?hy50⟩) hHeld ?rest50
      case hy50 => (intro w hSw; (try dsimp only at hSw); obtain ⟨hS0, hS1, hS2, hS3, hS4, hS5, hS6, hS7⟩ := hSw; go_simp; (first | done | with_reducible rfl))
      try simp only [Act.put, List.setIfInBounds_toArray, List.set_cons_zero, List.set_cons_succ]
      refine wpAnyH_take (i := 9) (oi := { dst := some 41, op := Go.Op.move (Go.Operand.tmp 2), type := 3, pos := "ref.go:20", after := #[], guard := none }) (v := ?v51) rfl (by kernel_rfl) (by kernel_rfl) (by kernel_rfl) (fun _ _ _ h => h) (Or.inl ⟨by rfl, ?hy51⟩) hHeld ?rest51
      case hy51 => (intro w hSw; (try dsimp only at hSw); obtain ⟨hS0, hS1, hS2, hS3, hS4, hS5, hS6, hS7⟩ := hSw; go_simp; (first | done | with_reducible rfl))
      try simp only [Act.put, List.setIfInBounds_toArray, List.set_cons_zero, List.set_cons_succ]
      refine wpAnyH_take (i := 10) (oi := { dst := some 42, op := Go.Op.move (Go.Operand.tmp 1), type := 3, pos := "ref.go:20", after := #[], guard := none }) (v := ?v52) rfl (by kernel_rfl) (by kernel_rfl) (by kernel_rfl) (fun _ _ _ h => h) (Or.inl ⟨by rfl, ?hy52⟩) hHeld ?rest52
      case hy52 => (intro w hSw; (try dsimp only at hSw); obtain ⟨hS0, hS1, hS2, hS3, hS4, hS5, hS6, hS7⟩ := hSw; go_simp; (first | done | with_reducible rfl))
      try simp only [Act.put, List.setIfInBounds_toArray, List.set_cons_zero, List.set_cons_succ]
      refine wpAnyH_take (i := 11) (oi := { dst := some 43, op := Go.Op.binOp Go.BinOp.mul 3 (Go.Operand.tmp 41) (Go.Operand.tmp 42) 3, type := 3, pos := "ref.go:20", after := #[{ on := 9, ground := Go.Ground.data }, { on := 10, ground := Go.Ground.data }], guard := none }) (v := .int .i64 (a : Int)) rfl (by kernel_rfl) (by kernel_rfl) (by kernel_rfl) (fun _ _ _ h => h) (Or.inl ⟨by rfl, ?hy53⟩) hHeld ?rest53
      case hy53 => (intro w hSw; (try dsimp only at hSw); obtain ⟨hS0, hS1, hS2, hS3, hS4, hS5, hS6, hS7⟩ := hSw; go_simp; try rw [e18]; (first | done | with_reducible rfl))
      try simp only [Act.put, List.setIfInBounds_toArray, List.set_cons_zero, List.set_cons_succ]
      refine wpAnyH_take (i := 12) (oi := { dst := some 44, op := Go.Op.move (Go.Operand.tmp 9), type := 3, pos := "ref.go:20", after := #[], guard := none }) (v := ?v54) rfl (by kernel_rfl) (by kernel_rfl) (by kernel_rfl) (fun _ _ _ h => h) (Or.inl ⟨by rfl, ?hy54⟩) hHeld ?rest54
      case hy54 => (intro w hSw; (try dsimp only at hSw); obtain ⟨hS0, hS1, hS2, hS3, hS4, hS5, hS6, hS7⟩ := hSw; go_simp; (first | done | with_reducible rfl))
      try simp only [Act.put, List.setIfInBounds_toArray, List.set_cons_zero, List.set_cons_succ]
      refine wpAnyH_take (i := 13) (oi := { dst := some 45, op := Go.Op.binOp Go.BinOp.add 3 (Go.Operand.tmp 43) (Go.Operand.tmp 44) 3, type := 3, pos := "ref.go:20", after := #[{ on := 11, ground := Go.Ground.data }, { on := 12, ground := Go.Ground.data }], guard := none }) (v := .int .i64 ((a + j : Nat) : Int)) rfl (by kernel_rfl) (by kernel_rfl) (by kernel_rfl) (fun _ _ _ h => h) (Or.inl ⟨by rfl, ?hy55⟩) hHeld ?rest55
      case hy55 => (intro w hSw; (try dsimp only at hSw); obtain ⟨hS0, hS1, hS2, hS3, hS4, hS5, hS6, hS7⟩ := hSw; go_simp; try rw [E20j]; (first | done | with_reducible rfl))
      try simp only [Act.put, List.setIfInBounds_toArray, List.set_cons_zero, List.set_cons_succ]
      refine wpAnyH_take (i := 14) (oi := { dst := some 46, op := Go.Op.indexAddr 27 (Go.Operand.tmp 40) (Go.Operand.tmp 45), type := 0, pos := "ref.go:20", after := #[{ on := 8, ground := Go.Ground.data }, { on := 13, ground := Go.Ground.data }], guard := none }) (v := .pointer (some (ad.add ((a + j) * 4)))) rfl (by kernel_rfl) (by kernel_rfl) (by kernel_rfl) (fun _ _ _ h => h) (Or.inl ⟨by rfl, ?hy56⟩) hHeld ?rest56
      case hy56 => (intro w hSw; (try dsimp only at hSw); obtain ⟨hS0, hS1, hS2, hS3, hS4, hS5, hS6, hS7⟩ := hSw; go_simp; try rw [if_pos (by omega)]; try rw [show ((a : Int) + (j : Int)).toNat = a + j by omega]; (first | done | with_reducible rfl))
      try simp only [Act.put, List.setIfInBounds_toArray, List.set_cons_zero, List.set_cons_succ]
      refine wpAnyH_take (i := 15) (oi := { dst := some 47, op := Go.Op.load 59 (Go.Operand.tmp 46), type := 59, pos := "ref.go:20", after := #[{ on := 14, ground := Go.Ground.data }], guard := none }) (v := ?v57) rfl (by kernel_rfl) (by kernel_rfl) (by kernel_rfl) (fun _ _ _ h => h) (Or.inl ⟨by rfl, ?hy57⟩) hHeld ?rest57
      case hy57 => (intro w hSw; (try dsimp only at hSw); obtain ⟨hS0, hS1, hS2, hS3, hS4, hS5, hS6, hS7⟩ := hSw; go_simp; (first | done | with_reducible rfl))
      try simp only [Act.put, List.setIfInBounds_toArray, List.set_cons_zero, List.set_cons_succ]
      refine wpAnyH_ready (rs := [16]) (by kernel_rfl) (by simp) ?_
      refine AllReadyH.cons (o := { dst := some 48, op := Go.Op.call { callee := Go.Callee.value (Go.Operand.func 28), args := #[Go.Operand.tmp 39, Go.Operand.tmp 47], argTypes := #[59, 59] }, type := 4, pos := "ref.go:20", after := #[{ on := 7, ground := Go.Ground.data }, { on := 15, ground := Go.Ground.data }], guard := none }) rfl (fun K hK => ?_) (AllReadyH.nil)
      go_simp
      refine (cba _).mono ?_
      rintro e w48 ⟨rfl, x⟩
      have z58 := x.size
      replace E := E.trans x
      replace HX := HX.trans x
      clear x
      clear hHeld
      have hHeld := And.intro ((HA.out _ E).c0) (And.intro ((HA.out _ E).c1) (And.intro ((HA.out _ E).c2) (And.intro ((HA.out _ E).c3) (And.intro ((HBB.out _ E).c0) (And.intro ((HBB.out _ E).c1) (And.intro ((HBB.out _ E).c2) (((HBB.out _ E).c3))))))))
      refine hK.out _ _ hHeld (fun _ => ?_)
      clear hK K
      try simp only [Act.put, List.setIfInBounds_toArray, List.set_cons_zero, List.set_cons_succ]
      refine wpAnyH_done (by kernel_rfl) ?_ _
      go_wp2_with fail
      go_ret
      exact ⟨by rw [HS.out (j + 1) (by rw [HZ.out, if_neg (by rw [HU.out]; decide), HCM.out]; decide) (by omega), HZ.out, if_neg (by rw [HU.out]; decide), HCM.out]; rfl, E⟩
    · have E20j := E20.out j hlt
      have E28j := E28.out j hlt
      obtain ⟨ad, ea, hI⟩ := HIT.out _ E (a + j) (by omega)
      subst ea
      have HA := Lib.hid (fun w' (hx : Ext w w') => by
          obtain ⟨ad', e, h⟩ := HIT.out w' hx (a + j) (by omega)
          cases e
          exact h : ∀ w', Ext w w' → ItAt w' (ad.add ((a + j) * 4)) (IT (a + j)))
      have HBB := Lib.hid (fun w' (hx : Ext w w') => by
          obtain ⟨ad', e, h⟩ := HIT.out w' hx (b + j) (by omega)
          cases e
          exact h : ∀ w', Ext w w' → ItAt w' (ad.add ((b + j) * 4)) (IT (b + j)))
      clear hI
      have cab := fun w' => HB.out (a + j) (b + j) (by omega) (by omega) w'
      have cba := fun w' => HB.out (b + j) (a + j) (by omega) (by omega) w'
      unfold It.val at cab cba
      have HCM := Lib.hid (cmpZ_eq h1 h2)
      rw [decide_eq_false h1] at cab
      rw [decide_eq_false h2] at cba
      clear h1 h2
      go_wp2_with fail
      try simp only [Act.put, List.setIfInBounds_toArray, List.set_cons_zero, List.set_cons_succ]
      have hq59 : wr.heap.size ≤ wr.drew.heap.size := Nat.le_refl _
      have z60 := (Ext.refl wr).drew.size
      replace E := E.trans (Ext.refl wr).drew
      replace HX := HX.trans (Ext.refl wr).drew
      refine wp_region_held_drew (S := (fun w' => w'.cell? (ad.add ((a + j) * 4)) = some (.int .i64 (IT (a + j)).kind) ∧ w'.cell? ⟨(ad.add ((a + j) * 4)).block, (ad.add ((a + j) * 4)).off + 1, none⟩ = some (.float .f64 (IT (a + j)).num) ∧ w'.cell? ⟨(ad.add ((a + j) * 4)).block, (ad.add ((a + j) * 4)).off + 2, none⟩ = some (.int .i32 (IT (a + j)).chr) ∧ w'.cell? ⟨(ad.add ((a + j) * 4)).block, (ad.add ((a + j) * 4)).off + 3, none⟩ = some (.slice (IT (a + j)).bA (IT (a + j)).bn (IT (a + j)).bc) ∧ w'.cell? (ad.add ((b + j) * 4)) = some (.int .i64 (IT (b + j)).kind) ∧ w'.cell? ⟨(ad.add ((b + j) * 4)).block, (ad.add ((b + j) * 4)).off + 1, none⟩ = some (.float .f64 (IT (b + j)).num) ∧ w'.cell? ⟨(ad.add ((b + j) * 4)).block, (ad.add ((b + j) * 4)).off + 2, none⟩ = some (.int .i32 (IT (b + j)).chr) ∧ w'.cell? ⟨(ad.add ((b + j) * 4)).block, (ad.add ((b + j) * 4)).off + 3, none⟩ = some (.slice (IT (b + j)).bA (IT (b + j)).bn (IT (b + j)).bc))) (by kernel_rfl) ⟨((HA.out _ E).c0), ((HA.out _ E).c1), ((HA.out _ E).c2), ((HA.out _ E).c3), ((HBB.out _ E).c0), ((HBB.out _ E).c1), ((HBB.out _ E).c2), ((HBB.out _ E).c3)⟩ (fun hHeld => ?_)
      refine wpAnyH_take (i := 0) (oi := { dst := some 15, op := Go.Op.move (Go.Operand.tmp 0), type := 27, pos := "ref.go:17", after := #[], guard := none }) (v := ?v61) rfl (by kernel_rfl) (by kernel_rfl) (by kernel_rfl) (fun _ _ _ h => h) (Or.inl ⟨by rfl, ?hy61⟩) hHeld ?rest61
      case hy61 => (intro w hSw; (try dsimp only at hSw); obtain ⟨hS0, hS1, hS2, hS3, hS4, hS5, hS6, hS7⟩ := hSw; go_simp; (first | done | with_reducible rfl))
      try simp only [Act.put, List.setIfInBounds_toArray, List.set_cons_zero, List.set_cons_succ]
      refine wpAnyH_take (i := 1) (oi := { dst := some 16, op := Go.Op.move (Go.Operand.tmp 2), type := 3, pos := "ref.go:17", after := #[], guard := none }) (v := ?v62) rfl (by kernel_rfl) (by kernel_rfl) (by kernel_rfl) (fun _ _ _ h => h) (Or.inl ⟨by rfl, ?hy62⟩) hHeld ?rest62
      case hy62 => (intro w hSw; (try dsimp only at hSw); obtain ⟨hS0, hS1, hS2, hS3, hS4, hS5, hS6, hS7⟩ := hSw; go_simp; (first | done | with_reducible rfl))
      try simp only [Act.put, List.setIfInBounds_toArray, List.set_cons_zero, List.set_cons_succ]
      refine wpAnyH_take (i := 2) (oi := { dst := some 17, op := Go.Op.move (Go.Operand.tmp 1), type := 3, pos := "ref.go:17", after := #[], guard := none }) (v := ?v63) rfl (by kernel_rfl) (by kernel_rfl) (by kernel_rfl) (fun _ _ _ h => h) (Or.inl ⟨by rfl, ?hy63⟩) hHeld ?rest63
      case hy63 => (intro w hSw; (try dsimp only at hSw); obtain ⟨hS0, hS1, hS2, hS3, hS4, hS5, hS6, hS7⟩ := hSw; go_simp; (first | done | with_reducible rfl))
      try simp only [Act.put, List.setIfInBounds_toArray, List.set_cons_zero, List.set_cons_succ]
      refine wpAnyH_take (i := 3) (oi := { dst := some 18, op := Go.Op.binOp Go.BinOp.mul 3 (Go.Operand.tmp 16) (Go.Operand.tmp 17) 3, type := 3, pos := "ref.go:17", after := #[{ on := 1, ground := Go.Ground.data }, { on := 2, ground := Go.Ground.data }], guard := none }) (v := .int .i64 (a : Int)) rfl (by kernel_rfl) (by kernel_rfl) (by kernel_rfl) (fun _ _ _ h => h) (Or.inl ⟨by rfl, ?hy64⟩) hHeld ?rest64
      case hy64 => (intro w hSw; (try dsimp only at hSw); obtain ⟨hS0, hS1, hS2, hS3, hS4, hS5, hS6, hS7⟩ := hSw; go_simp; try rw [e18]; (first | done | with_reducible rfl))
      try simp only [Act.put, List.setIfInBounds_toArray, List.set_cons_zero, List.set_cons_succ]
      refine wpAnyH_take (i := 4) (oi := { dst := some 19, op := Go.Op.move (Go.Operand.tmp 9), type := 3, pos := "ref.go:17", after := #[], guard := none }) (v := ?v65) rfl (by kernel_rfl) (by kernel_rfl) (by kernel_rfl) (fun _ _ _ h => h) (Or.inl ⟨by rfl, ?hy65⟩) hHeld ?rest65
      case hy65 => (intro w hSw; (try dsimp only at hSw); obtain ⟨hS0, hS1, hS2, hS3, hS4, hS5, hS6, hS7⟩ := hSw; go_simp; (first | done | with_reducible rfl))
      try simp only [Act.put, List.setIfInBounds_toArray, List.set_cons_zero, List.set_cons_succ]
      refine wpAnyH_take (i := 5) (oi := { dst := some 20, op := Go.Op.binOp Go.BinOp.add 3 (Go.Operand.tmp 18) (Go.Operand.tmp 19) 3, type := 3, pos := "ref.go:17", after := #[{ on := 3, ground := Go.Ground.data }, { on := 4, ground := Go.Ground.data }], guard := none }) (v := .int .i64 ((a + j : Nat) : Int)) rfl (by kernel_rfl) (by kernel_rfl) (by kernel_rfl) (fun _ _ _ h => h) (Or.inl ⟨by rfl, ?hy66⟩) hHeld ?rest66
      case hy66 => (intro w hSw; (try dsimp only at hSw); obtain ⟨hS0, hS1, hS2, hS3, hS4, hS5, hS6, hS7⟩ := hSw; go_simp; try rw [E20j]; (first | done | with_reducible rfl))
      try simp only [Act.put, List.setIfInBounds_toArray, List.set_cons_zero, List.set_cons_succ]
      refine wpAnyH_take (i := 6) (oi := { dst := some 21, op := Go.Op.indexAddr 27 (Go.Operand.tmp 15) (Go.Operand.tmp 20), type := 0, pos := "ref.go:17", after := #[{ on := 0, ground := Go.Ground.data }, { on := 5, ground := Go.Ground.data }], guard := none }) (v := .pointer (some (ad.add ((a + j) * 4)))) rfl (by kernel_rfl) (by kernel_rfl) (by kernel_rfl) (fun _ _ _ h => h) (Or.inl ⟨by rfl, ?hy67⟩) hHeld ?rest67
      case hy67 => (intro w hSw; (try dsimp only at hSw); obtain ⟨hS0, hS1, hS2, hS3, hS4, hS5, hS6, hS7⟩ := hSw; go_simp; try rw [if_pos (by omega)]; try rw [show ((a : Int) + (j : Int)).toNat = a + j by omega]; (first | done | with_reducible rfl))
      try simp only [Act.put, List.setIfInBounds_toArray, List.set_cons_zero, List.set_cons_succ]
      refine wpAnyH_take (i := 7) (oi := { dst := some 22, op := Go.Op.load 59 (Go.Operand.tmp 21), type := 59, pos := "ref.go:17", after := #[{ on := 6, ground := Go.Ground.data }], guard := none }) (v := ?v68) rfl (by kernel_rfl) (by kernel_rfl) (by kernel_rfl) (fun _ _ _ h => h) (Or.inl ⟨by rfl, ?hy68⟩) hHeld ?rest68
      case hy68 => (intro w hSw; (try dsimp only at hSw); obtain ⟨hS0, hS1, hS2, hS3, hS4, hS5, hS6, hS7⟩ := hSw; go_simp; (first | done | with_reducible rfl))
      try simp only [Act.put, List.setIfInBounds_toArray, List.set_cons_zero, List.set_cons_succ]
      refine wpAnyH_take (i := 8) (oi := { dst := some 23, op := Go.Op.move (Go.Operand.tmp 0), type := 27, pos := "ref.go:17", after := #[], guard := none }) (v := ?v69) rfl (by kernel_rfl) (by kernel_rfl) (by kernel_rfl) (fun _ _ _ h => h) (Or.inl ⟨by rfl, ?hy69⟩) hHeld ?rest69
      case hy69 => (intro w hSw; (try dsimp only at hSw); obtain ⟨hS0, hS1, hS2, hS3, hS4, hS5, hS6, hS7⟩ := hSw; go_simp; (first | done | with_reducible rfl))
      try simp only [Act.put, List.setIfInBounds_toArray, List.set_cons_zero, List.set_cons_succ]
      refine wpAnyH_take (i := 9) (oi := { dst := some 24, op := Go.Op.move (Go.Operand.tmp 3), type := 3, pos := "ref.go:17", after := #[], guard := none }) (v := ?v70) rfl (by kernel_rfl) (by kernel_rfl) (by kernel_rfl) (fun _ _ _ h => h) (Or.inl ⟨by rfl, ?hy70⟩) hHeld ?rest70
      case hy70 => (intro w hSw; (try dsimp only at hSw); obtain ⟨hS0, hS1, hS2, hS3, hS4, hS5, hS6, hS7⟩ := hSw; go_simp; (first | done | with_reducible rfl))
      try simp only [Act.put, List.setIfInBounds_toArray, List.set_cons_zero, List.set_cons_succ]
      refine wpAnyH_take (i := 10) (oi := { dst := some 25, op := Go.Op.move (Go.Operand.tmp 1), type := 3, pos := "ref.go:17", after := #[], guard := none }) (v := ?v71) rfl (by kernel_rfl) (by kernel_rfl) (by kernel_rfl) (fun _ _ _ h => h) (Or.inl ⟨by rfl, ?hy71⟩) hHeld ?rest71
      case hy71 => (intro w hSw; (try dsimp only at hSw); obtain ⟨hS0, hS1, hS2, hS3, hS4, hS5, hS6, hS7⟩ := hSw; go_simp; (first | done | with_reducible rfl))
      try simp only [Act.put, List.setIfInBounds_toArray, List.set_cons_zero, List.set_cons_succ]
      refine wpAnyH_take (i := 11) (oi := { dst := some 26, op := Go.Op.binOp Go.BinOp.mul 3 (Go.Operand.tmp 24) (Go.Operand.tmp 25) 3, type := 3, pos := "ref.go:17", after := #[{ on := 9, ground := Go.Ground.data }, { on := 10, ground := Go.Ground.data }], guard := none }) (v := .int .i64 (b : Int)) rfl (by kernel_rfl) (by kernel_rfl) (by kernel_rfl) (fun _ _ _ h => h) (Or.inl ⟨by rfl, ?hy72⟩) hHeld ?rest72
      case hy72 => (intro w hSw; (try dsimp only at hSw); obtain ⟨hS0, hS1, hS2, hS3, hS4, hS5, hS6, hS7⟩ := hSw; go_simp; try rw [e26]; (first | done | with_reducible rfl))
      try simp only [Act.put, List.setIfInBounds_toArray, List.set_cons_zero, List.set_cons_succ]
      refine wpAnyH_take (i := 12) (oi := { dst := some 27, op := Go.Op.move (Go.Operand.tmp 9), type := 3, pos := "ref.go:17", after := #[], guard := none }) (v := ?v73) rfl (by kernel_rfl) (by kernel_rfl) (by kernel_rfl) (fun _ _ _ h => h) (Or.inl ⟨by rfl, ?hy73⟩) hHeld ?rest73
      case hy73 => (intro w hSw; (try dsimp only at hSw); obtain ⟨hS0, hS1, hS2, hS3, hS4, hS5, hS6, hS7⟩ := hSw; go_simp; (first | done | with_reducible rfl))
      try simp only [Act.put, List.setIfInBounds_toArray, List.set_cons_zero, List.set_cons_succ]
      refine wpAnyH_take (i := 13) (oi := { dst := some 28, op := Go.Op.binOp Go.BinOp.add 3 (Go.Operand.tmp 26) (Go.Operand.tmp 27) 3, type := 3, pos := "ref.go:17", after := #[{ on := 11, ground := Go.Ground.data }, { on := 12, ground := Go.Ground.data }], guard := none }) (v := .int .i64 ((b + j : Nat) : Int)) rfl (by kernel_rfl) (by kernel_rfl) (by kernel_rfl) (fun _ _ _ h => h) (Or.inl ⟨by rfl, ?hy74⟩) hHeld ?rest74
      case hy74 => (intro w hSw; (try dsimp only at hSw); obtain ⟨hS0, hS1, hS2, hS3, hS4, hS5, hS6, hS7⟩ := hSw; go_simp; try rw [E28j]; (first | done | with_reducible rfl))
      try simp only [Act.put, List.setIfInBounds_toArray, List.set_cons_zero, List.set_cons_succ]
      refine wpAnyH_take (i := 14) (oi := { dst := some 29, op := Go.Op.indexAddr 27 (Go.Operand.tmp 23) (Go.Operand.tmp 28), type := 0, pos := "ref.go:17", after := #[{ on := 8, ground := Go.Ground.data }, { on := 13, ground := Go.Ground.data }], guard := none }) (v := .pointer (some (ad.add ((b + j) * 4)))) rfl (by kernel_rfl) (by kernel_rfl) (by kernel_rfl) (fun _ _ _ h => h) (Or.inl ⟨by rfl, ?hy75⟩) hHeld ?rest75
      case hy75 => (intro w hSw; (try dsimp only at hSw); obtain ⟨hS0, hS1, hS2, hS3, hS4, hS5, hS6, hS7⟩ := hSw; go_simp; try rw [if_pos (by omega)]; try rw [show ((b : Int) + (j : Int)).toNat = b + j by omega]; (first | done | with_reducible rfl))
      try simp only [Act.put, List.setIfInBounds_toArray, List.set_cons_zero, List.set_cons_succ]
      refine wpAnyH_take (i := 15) (oi := { dst := some 30, op := Go.Op.load 59 (Go.Operand.tmp 29), type := 59, pos := "ref.go:17", after := #[{ on := 14, ground := Go.Ground.data }], guard := none }) (v := ?v76) rfl (by kernel_rfl) (by kernel_rfl) (by kernel_rfl) (fun _ _ _ h => h) (Or.inl ⟨by rfl, ?hy76⟩) hHeld ?rest76
      case hy76 => (intro w hSw; (try dsimp only at hSw); obtain ⟨hS0, hS1, hS2, hS3, hS4, hS5, hS6, hS7⟩ := hSw; go_simp; (first | done | with_reducible rfl))
      try simp only [Act.put, List.setIfInBounds_toArray, List.set_cons_zero, List.set_cons_succ]
      refine wpAnyH_ready (rs := [16]) (by kernel_rfl) (by simp) ?_
      refine AllReadyH.cons (o := { dst := some 31, op := Go.Op.call { callee := Go.Callee.value (Go.Operand.func 28), args := #[Go.Operand.tmp 22, Go.Operand.tmp 30], argTypes := #[59, 59] }, type := 4, pos := "ref.go:17", after := #[{ on := 7, ground := Go.Ground.data }, { on := 15, ground := Go.Ground.data }], guard := none }) rfl (fun K hK => ?_) (AllReadyH.nil)
      go_simp
      refine (cab _).mono ?_
      rintro e w31 ⟨rfl, x⟩
      have z77 := x.size
      replace E := E.trans x
      replace HX := HX.trans x
      clear x
      clear hHeld
      have hHeld := And.intro ((HA.out _ E).c0) (And.intro ((HA.out _ E).c1) (And.intro ((HA.out _ E).c2) (And.intro ((HA.out _ E).c3) (And.intro ((HBB.out _ E).c0) (And.intro ((HBB.out _ E).c1) (And.intro ((HBB.out _ E).c2) (((HBB.out _ E).c3))))))))
      refine hK.out _ _ hHeld (fun _ => ?_)
      clear hK K
      try simp only [Act.put, List.setIfInBounds_toArray, List.set_cons_zero, List.set_cons_succ]
      refine wpAnyH_done (by kernel_rfl) ?_ _
      go_wp2_with fail
      try simp only [Act.put, List.setIfInBounds_toArray, List.set_cons_zero, List.set_cons_succ]
      have hq78 : w31.heap.size ≤ w31.drew.heap.size := Nat.le_refl _
      have z79 := (Ext.refl w31).drew.size
      replace E := E.trans (Ext.refl w31).drew
      replace HX := HX.trans (Ext.refl w31).drew
      refine wp_region_held_drew (S := (fun w' => w'.cell? (ad.add ((a + j) * 4)) = some (.int .i64 (IT (a + j)).kind) ∧ w'.cell? ⟨(ad.add ((a + j) * 4)).block, (ad.add ((a + j) * 4)).off + 1, none⟩ = some (.float .f64 (IT (a + j)).num) ∧ w'.cell? ⟨(ad.add ((a + j) * 4)).block, (ad.add ((a + j) * 4)).off + 2, none⟩ = some (.int .i32 (IT (a + j)).chr) ∧ w'.cell? ⟨(ad.add ((a + j) * 4)).block, (ad.add ((a + j) * 4)).off + 3, none⟩ = some (.slice (IT (a + j)).bA (IT (a + j)).bn (IT (a + j)).bc) ∧ w'.cell? (ad.add ((b + j) * 4)) = some (.int .i64 (IT (b + j)).kind) ∧ w'.cell? ⟨(ad.add ((b + j) * 4)).block, (ad.add ((b + j) * 4)).off + 1, none⟩ = some (.float .f64 (IT (b + j)).num) ∧ w'.cell? ⟨(ad.add ((b + j) * 4)).block, (ad.add ((b + j) * 4)).off + 2, none⟩ = some (.int .i32 (IT (b + j)).chr) ∧ w'.cell? ⟨(ad.add ((b + j) * 4)).block, (ad.add ((b + j) * 4)).off + 3, none⟩ = some (.slice (IT (b + j)).bA (IT (b + j)).bn (IT (b + j)).bc))) (by kernel_rfl) ⟨((HA.out _ E).c0), ((HA.out _ E).c1), ((HA.out _ E).c2), ((HA.out _ E).c3), ((HBB.out _ E).c0), ((HBB.out _ E).c1), ((HBB.out _ E).c2), ((HBB.out _ E).c3)⟩ (fun hHeld => ?_)
      refine wpAnyH_take (i := 0) (oi := { dst := some 32, op := Go.Op.move (Go.Operand.tmp 0), type := 27, pos := "ref.go:20", after := #[], guard := none }) (v := ?v80) rfl (by kernel_rfl) (by kernel_rfl) (by kernel_rfl) (fun _ _ _ h => h) (Or.inl ⟨by rfl, ?hy80⟩) hHeld ?rest80
      case hy80 => (intro w hSw; (try dsimp only at hSw); obtain ⟨hS0, hS1, hS2, hS3, hS4, hS5, hS6, hS7⟩ := hSw; go_simp; (first | done | with_reducible rfl))
      try simp only [Act.put, List.setIfInBounds_toArray, List.set_cons_zero, List.set_cons_succ]
      refine wpAnyH_take (i := 1) (oi := { dst := some 33, op := Go.Op.move (Go.Operand.tmp 3), type := 3, pos := "ref.go:20", after := #[], guard := none }) (v := ?v81) rfl (by kernel_rfl) (by kernel_rfl) (by kernel_rfl) (fun _ _ _ h => h) (Or.inl ⟨by rfl, ?hy81⟩) hHeld ?rest81
      case hy81 => (intro w hSw; (try dsimp only at hSw); obtain ⟨hS0, hS1, hS2, hS3, hS4, hS5, hS6, hS7⟩ := hSw; go_simp; (first | done | with_reducible rfl))
      try simp only [Act.put, List.setIfInBounds_toArray, List.set_cons_zero, List.set_cons_succ]
      refine wpAnyH_take (i := 2) (oi := { dst := some 34, op := Go.Op.move (Go.Operand.tmp 1), type := 3, pos := "ref.go:20", after := #[], guard := none }) (v := ?v82) rfl (by kernel_rfl) (by kernel_rfl) (by kernel_rfl) (fun _ _ _ h => h) (Or.inl ⟨by rfl, ?hy82⟩) hHeld ?rest82
      case hy82 => (intro w hSw; (try dsimp only at hSw); obtain ⟨hS0, hS1, hS2, hS3, hS4, hS5, hS6, hS7⟩ := hSw; go_simp; (first | done | with_reducible rfl))
      try simp only [Act.put, List.setIfInBounds_toArray, List.set_cons_zero, List.set_cons_succ]
      refine wpAnyH_take (i := 3) (oi := { dst := some 35, op := Go.Op.binOp Go.BinOp.mul 3 (Go.Operand.tmp 33) (Go.Operand.tmp 34) 3, type := 3, pos := "ref.go:20", after := #[{ on := 1, ground := Go.Ground.data }, { on := 2, ground := Go.Ground.data }], guard := none }) (v := .int .i64 (b : Int)) rfl (by kernel_rfl) (by kernel_rfl) (by kernel_rfl) (fun _ _ _ h => h) (Or.inl ⟨by rfl, ?hy83⟩) hHeld ?rest83
      case hy83 => (intro w hSw; (try dsimp only at hSw); obtain ⟨hS0, hS1, hS2, hS3, hS4, hS5, hS6, hS7⟩ := hSw; go_simp; try rw [e26]; (first | done | with_reducible rfl))
      try simp only [Act.put, List.setIfInBounds_toArray, List.set_cons_zero, List.set_cons_succ]
      refine wpAnyH_take (i := 4) (oi := { dst := some 36, op := Go.Op.move (Go.Operand.tmp 9), type := 3, pos := "ref.go:20", after := #[], guard := none }) (v := ?v84) rfl (by kernel_rfl) (by kernel_rfl) (by kernel_rfl) (fun _ _ _ h => h) (Or.inl ⟨by rfl, ?hy84⟩) hHeld ?rest84
      case hy84 => (intro w hSw; (try dsimp only at hSw); obtain ⟨hS0, hS1, hS2, hS3, hS4, hS5, hS6, hS7⟩ := hSw; go_simp; (first | done | with_reducible rfl))
      try simp only [Act.put, List.setIfInBounds_toArray, List.set_cons_zero, List.set_cons_succ]
      refine wpAnyH_take (i := 5) (oi := { dst := some 37, op := Go.Op.binOp Go.BinOp.add 3 (Go.Operand.tmp 35) (Go.Operand.tmp 36) 3, type := 3, pos := "ref.go:20", after := #[{ on := 3, ground := Go.Ground.data }, { on := 4, ground := Go.Ground.data }], guard := none }) (v := .int .i64 ((b + j : Nat) : Int)) rfl (by kernel_rfl) (by kernel_rfl) (by kernel_rfl) (fun _ _ _ h => h) (Or.inl ⟨by rfl, ?hy85⟩) hHeld ?rest85
      case hy85 => (intro w hSw; (try dsimp only at hSw); obtain ⟨hS0, hS1, hS2, hS3, hS4, hS5, hS6, hS7⟩ := hSw; go_simp; try rw [E28j]; (first | done | with_reducible rfl))
      try simp only [Act.put, List.setIfInBounds_toArray, List.set_cons_zero, List.set_cons_succ]
      refine wpAnyH_take (i := 6) (oi := { dst := some 38, op := Go.Op.indexAddr 27 (Go.Operand.tmp 32) (Go.Operand.tmp 37), type := 0, pos := "ref.go:20", after := #[{ on := 0, ground := Go.Ground.data }, { on := 5, ground := Go.Ground.data }], guard := none }) (v := .pointer (some (ad.add ((b + j) * 4)))) rfl (by kernel_rfl) (by kernel_rfl) (by kernel_rfl) (fun _ _ _ h => h) (Or.inl ⟨by rfl, ?hy86⟩) hHeld ?rest86
      case hy86 => (intro w hSw; (try dsimp only at hSw); obtain ⟨hS0, hS1, hS2, hS3, hS4, hS5, hS6, hS7⟩ := hSw; go_simp; try rw [if_pos (by omega)]; try rw [show ((b : Int) + (j : Int)).toNat = b + j by omega]; (first | done | with_reducible rfl))
      try simp only [Act.put, List.setIfInBounds_toArray, List.set_cons_zero, List.set_cons_succ]
      refine wpAnyH_take (i := 7) (oi := { dst := some 39, op := Go.Op.load 59 (Go.Operand.tmp 38), type := 59, pos := "ref.go:20", after := #[{ on := 6, ground := Go.Ground.data }], guard := none }) (v := ?v87) rfl (by kernel_rfl) (by kernel_rfl) (by kernel_rfl) (fun _ _ _ h => h) (Or.inl ⟨by rfl, ?hy87⟩) hHeld ?rest87
      case hy87 => (intro w hSw; (try dsimp only at hSw); obtain ⟨hS0, hS1, hS2, hS3, hS4, hS5, hS6, hS7⟩ := hSw; go_simp; (first | done | with_reducible rfl))
      try simp only [Act.put, List.setIfInBounds_toArray, List.set_cons_zero, List.set_cons_succ]
      refine wpAnyH_take (i := 8) (oi := { dst := some 40, op := Go.Op.move (Go.Operand.tmp 0), type := 27, pos := "ref.go:20", after := #[], guard := none }) (v := ?v88) rfl (by kernel_rfl) (by kernel_rfl) (by kernel_rfl) (fun _ _ _ h => h) (Or.inl ⟨by rfl, ?hy88⟩) hHeld ?rest88
      case hy88 => (intro w hSw; (try dsimp only at hSw); obtain ⟨hS0, hS1, hS2, hS3, hS4, hS5, hS6, hS7⟩ := hSw; go_simp; (first | done | with_reducible rfl))
      try simp only [Act.put, List.setIfInBounds_toArray, List.set_cons_zero, List.set_cons_succ]
      refine wpAnyH_take (i := 9) (oi := { dst := some 41, op := Go.Op.move (Go.Operand.tmp 2), type := 3, pos := "ref.go:20", after := #[], guard := none }) (v := ?v89) rfl (by kernel_rfl) (by kernel_rfl) (by kernel_rfl) (fun _ _ _ h => h) (Or.inl ⟨by rfl, ?hy89⟩) hHeld ?rest89
      case hy89 => (intro w hSw; (try dsimp only at hSw); obtain ⟨hS0, hS1, hS2, hS3, hS4, hS5, hS6, hS7⟩ := hSw; go_simp; (first | done | with_reducible rfl))
      try simp only [Act.put, List.setIfInBounds_toArray, List.set_cons_zero, List.set_cons_succ]
      refine wpAnyH_take (i := 10) (oi := { dst := some 42, op := Go.Op.move (Go.Operand.tmp 1), type := 3, pos := "ref.go:20", after := #[], guard := none }) (v := ?v90) rfl (by kernel_rfl) (by kernel_rfl) (by kernel_rfl) (fun _ _ _ h => h) (Or.inl ⟨by rfl, ?hy90⟩) hHeld ?rest90
      case hy90 => (intro w hSw; (try dsimp only at hSw); obtain ⟨hS0, hS1, hS2, hS3, hS4, hS5, hS6, hS7⟩ := hSw; go_simp; (first | done | with_reducible rfl))
      try simp only [Act.put, List.setIfInBounds_toArray, List.set_cons_zero, List.set_cons_succ]
      refine wpAnyH_take (i := 11) (oi := { dst := some 43, op := Go.Op.binOp Go.BinOp.mul 3 (Go.Operand.tmp 41) (Go.Operand.tmp 42) 3, type := 3, pos := "ref.go:20", after := #[{ on := 9, ground := Go.Ground.data }, { on := 10, ground := Go.Ground.data }], guard := none }) (v := .int .i64 (a : Int)) rfl (by kernel_rfl) (by kernel_rfl) (by kernel_rfl) (fun _ _ _ h => h) (Or.inl ⟨by rfl, ?hy91⟩) hHeld ?rest91
      case hy91 => (intro w hSw; (try dsimp only at hSw); obtain ⟨hS0, hS1, hS2, hS3, hS4, hS5, hS6, hS7⟩ := hSw; go_simp; try rw [e18]; (first | done | with_reducible rfl))
      try simp only [Act.put, List.setIfInBounds_toArray, List.set_cons_zero, List.set_cons_succ]
      refine wpAnyH_take (i := 12) (oi := { dst := some 44, op := Go.Op.move (Go.Operand.tmp 9), type := 3, pos := "ref.go:20", after := #[], guard := none }) (v := ?v92) rfl (by kernel_rfl) (by kernel_rfl) (by kernel_rfl) (fun _ _ _ h => h) (Or.inl ⟨by rfl, ?hy92⟩) hHeld ?rest92
      case hy92 => (intro w hSw; (try dsimp only at hSw); obtain ⟨hS0, hS1, hS2, hS3, hS4, hS5, hS6, hS7⟩ := hSw; go_simp; (first | done | with_reducible rfl))
      try simp only [Act.put, List.setIfInBounds_toArray, List.set_cons_zero, List.set_cons_succ]
      refine wpAnyH_take (i := 13) (oi := { dst := some 45, op := Go.Op.binOp Go.BinOp.add 3 (Go.Operand.tmp 43) (Go.Operand.tmp 44) 3, type := 3, pos := "ref.go:20", after := #[{ on := 11, ground := Go.Ground.data }, { on := 12, ground := Go.Ground.data }], guard := none }) (v := .int .i64 ((a + j : Nat) : Int)) rfl (by kernel_rfl) (by kernel_rfl) (by kernel_rfl) (fun _ _ _ h => h) (Or.inl ⟨by rfl, ?hy93⟩) hHeld ?rest93
      case hy93 => (intro w hSw; (try dsimp only at hSw); obtain ⟨hS0, hS1, hS2, hS3, hS4, hS5, hS6, hS7⟩ := hSw; go_simp; try rw [E20j]; (first | done | with_reducible rfl))
      try simp only [Act.put, List.setIfInBounds_toArray, List.set_cons_zero, List.set_cons_succ]
      refine wpAnyH_take (i := 14) (oi := { dst := some 46, op := Go.Op.indexAddr 27 (Go.Operand.tmp 40) (Go.Operand.tmp 45), type := 0, pos := "ref.go:20", after := #[{ on := 8, ground := Go.Ground.data }, { on := 13, ground := Go.Ground.data }], guard := none }) (v := .pointer (some (ad.add ((a + j) * 4)))) rfl (by kernel_rfl) (by kernel_rfl) (by kernel_rfl) (fun _ _ _ h => h) (Or.inl ⟨by rfl, ?hy94⟩) hHeld ?rest94
      case hy94 => (intro w hSw; (try dsimp only at hSw); obtain ⟨hS0, hS1, hS2, hS3, hS4, hS5, hS6, hS7⟩ := hSw; go_simp; try rw [if_pos (by omega)]; try rw [show ((a : Int) + (j : Int)).toNat = a + j by omega]; (first | done | with_reducible rfl))
      try simp only [Act.put, List.setIfInBounds_toArray, List.set_cons_zero, List.set_cons_succ]
      refine wpAnyH_take (i := 15) (oi := { dst := some 47, op := Go.Op.load 59 (Go.Operand.tmp 46), type := 59, pos := "ref.go:20", after := #[{ on := 14, ground := Go.Ground.data }], guard := none }) (v := ?v95) rfl (by kernel_rfl) (by kernel_rfl) (by kernel_rfl) (fun _ _ _ h => h) (Or.inl ⟨by rfl, ?hy95⟩) hHeld ?rest95
      case hy95 => (intro w hSw; (try dsimp only at hSw); obtain ⟨hS0, hS1, hS2, hS3, hS4, hS5, hS6, hS7⟩ := hSw; go_simp; (first | done | with_reducible rfl))
      try simp only [Act.put, List.setIfInBounds_toArray, List.set_cons_zero, List.set_cons_succ]
      refine wpAnyH_ready (rs := [16]) (by kernel_rfl) (by simp) ?_
      refine AllReadyH.cons (o := { dst := some 48, op := Go.Op.call { callee := Go.Callee.value (Go.Operand.func 28), args := #[Go.Operand.tmp 39, Go.Operand.tmp 47], argTypes := #[59, 59] }, type := 4, pos := "ref.go:20", after := #[{ on := 7, ground := Go.Ground.data }, { on := 15, ground := Go.Ground.data }], guard := none }) rfl (fun K hK => ?_) (AllReadyH.nil)
      go_simp
      refine (cba _).mono ?_
      rintro e w48 ⟨rfl, x⟩
      have z96 := x.size
      replace E := E.trans x
      replace HX := HX.trans x
      clear x
      clear hHeld
      have hHeld := And.intro ((HA.out _ E).c0) (And.intro ((HA.out _ E).c1) (And.intro ((HA.out _ E).c2) (And.intro ((HA.out _ E).c3) (And.intro ((HBB.out _ E).c0) (And.intro ((HBB.out _ E).c1) (And.intro ((HBB.out _ E).c2) (((HBB.out _ E).c3))))))))
      refine hK.out _ _ hHeld (fun _ => ?_)
      clear hK K
      try simp only [Act.put, List.setIfInBounds_toArray, List.set_cons_zero, List.set_cons_succ]
      refine wpAnyH_done (by kernel_rfl) ?_ _
      go_wp2_with fail
      exact ⟨⟨j + 1, by omega, by go_num, by rw [HZ.out, if_neg (by rw [HU.out]; decide), HCM.out], HX⟩, by simp [intOf]; omega⟩
    · have hjs : j = size := by omega
      rw [hjs] at HU
      clear hjs
      go_wp2_with fail
      go_ret
      exact ⟨by rw [HU.out]; rfl, E⟩
end Go.Proofs.Ytidnikndjhfgaaa
