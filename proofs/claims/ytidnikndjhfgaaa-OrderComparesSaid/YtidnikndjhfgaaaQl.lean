/- Contracts of squeeze: Tight, Numbers, Common. -/
import Derived.Test.YtidnikndjhfgaaaQj
namespace Go.Proofs.Ytidnikndjhfgaaa
open Go.RowKit Bv Fl
attribute [local go_sem ↓] Go.wp_at_zero Go.wp_at_succ
set_option maxHeartbeats 1000000
set_option maxRecDepth 100000 in
theorem tight_num (v : Value) (K : Nat) (l : List Nat) (w : World) (h : IsNum w v K l) : Calls Try.prog 43 #[v] w fun e w' => e = .returned (.bool ((K : Int) == (leastL l : Int))) ∧ Ext w w' := by
  have hF := h.flat
  have cK := fun w h => nkind_any v K l w h
  have cL := fun w h => least_any v K l w h
  generalize (leastL l : Int) = r at *
  have N0 := NumS.all h
  clear h
  go_enter Try.func43, Try.ntmps43
  go_wp2_with (refine boxsV (v := v) rfl rfl rfl hF ?_; intro B1 w1 b1 c1 x1 L1 R1)
  replace N0 := N0.ext x1
  try simp only [Act.put, List.setIfInBounds_toArray, List.set_cons_zero, List.set_cons_succ]
  refine wp_region_held_drew (S := (fun w' => Ext w1 w')) (by kernel_rfl) ((Ext.refl w1).drew) (fun hHeld => ?_)
  have hz0 : w1.heap.size ≤ w1.drew.heap.size := Nat.le_refl _
  replace N0 := N0.ext (Ext.refl w1).drew
  refine wpAnyH_take (i := 0) (oi := { dst := some 3, op := Go.Op.load 41 (Go.Operand.tmp 1), type := 41, pos := "squeeze.go:43", after := #[], guard := none }) (v := v) rfl (by kernel_rfl) (by kernel_rfl) (by kernel_rfl) (fun _ _ _ h => h) (yieldV (by rfl) rfl rfl fun w' hx => L1.ext hx) hHeld ?_
  try simp only [Act.put, List.setIfInBounds_toArray, List.set_cons_zero, List.set_cons_succ]
  refine wpAnyH_take (i := 2) (oi := { dst := some 5, op := Go.Op.load 41 (Go.Operand.tmp 1), type := 41, pos := "squeeze.go:43", after := #[], guard := none }) (v := v) rfl (by kernel_rfl) (by kernel_rfl) (by kernel_rfl) (fun _ _ _ h => h) (yieldV (by rfl) rfl rfl fun w' hx => L1.ext hx) hHeld ?_
  try simp only [Act.put, List.setIfInBounds_toArray, List.set_cons_zero, List.set_cons_succ]
  refine wpAnyH_ready (rs := [1]) (by kernel_rfl) (by simp) ?_
  refine AllReadyH.cons (o := { dst := some 4, op := Go.Op.call { callee := Go.Callee.value (Go.Operand.func 40), args := #[Go.Operand.tmp 3], argTypes := #[41] }, type := 3, pos := "squeeze.go:43", after := #[{ on := 0, ground := Go.Ground.data }], guard := none }) rfl (fun K hK => ?_) (AllReadyH.nil)
  go_simp
  refine (cK _ N0.is).mono ?_
  rintro e w3 ⟨rfl, hx⟩
  replace N0 := N0.ext hx
  have hz1 := hx.size
  replace hHeld := Ext.trans hHeld hx
  refine hK.out _ _ hHeld (fun _ => ?_)
  clear hK K hx
  try simp only [Act.put, List.setIfInBounds_toArray, List.set_cons_zero, List.set_cons_succ]
  refine wpAnyH_ready (rs := [3]) (by kernel_rfl) (by simp) ?_
  refine AllReadyH.cons (o := { dst := some 6, op := Go.Op.call { callee := Go.Callee.value (Go.Operand.func 72), args := #[Go.Operand.tmp 5], argTypes := #[41] }, type := 3, pos := "squeeze.go:43", after := #[{ on := 2, ground := Go.Ground.data }, { on := 1, ground := Go.Ground.chain }], guard := none }) rfl (fun K hK => ?_) (AllReadyH.nil)
  go_simp
  refine (cL _ N0.is).mono ?_
  rintro e w4 ⟨rfl, hx⟩
  replace N0 := N0.ext hx
  have hz3 := hx.size
  replace hHeld := Ext.trans hHeld hx
  refine hK.out _ _ hHeld (fun _ => ?_)
  clear hK K hx
  try simp only [Act.put, List.setIfInBounds_toArray, List.set_cons_zero, List.set_cons_succ]
  refine wpAnyH_take (i := 4) (oi := { dst := some 7, op := Go.Op.binOp Go.BinOp.eql 3 (Go.Operand.tmp 4) (Go.Operand.tmp 6) 3, type := 4, pos := "squeeze.go:43", after := #[{ on := 1, ground := Go.Ground.data }, { on := 3, ground := Go.Ground.data }], guard := none }) (v := ?v3) rfl (by kernel_rfl) (by kernel_rfl) (by kernel_rfl) (fun _ _ _ h => h) (Or.inl ⟨by rfl, ?hy3⟩) hHeld ?rest3
  case hy3 => (intro w hSw; (try dsimp only at hSw); go_simp; (first | done | with_reducible rfl))
  try simp only [Act.put, List.setIfInBounds_toArray, List.set_cons_zero, List.set_cons_succ]
  refine wpAnyH_take (i := 5) (oi := { dst := some 2, op := Go.Op.assign (Go.Operand.tmp 7), type := 4, pos := "squeeze.go:43", after := #[{ on := 4, ground := Go.Ground.data }, { on := 3, ground := Go.Ground.chain }, { on := 0, ground := Go.Ground.phase }, { on := 1, ground := Go.Ground.phase }, { on := 2, ground := Go.Ground.phase }, { on := 3, ground := Go.Ground.phase }, { on := 4, ground := Go.Ground.phase }], guard := none }) (v := ?v4) rfl (by kernel_rfl) (by kernel_rfl) (by kernel_rfl) (fun _ _ _ h => h) (Or.inl ⟨by rfl, ?hy4⟩) hHeld ?rest4
  case hy4 => (intro w hSw; (try dsimp only at hSw); go_simp; (first | done | with_reducible rfl))
  try simp only [Act.put, List.setIfInBounds_toArray, List.set_cons_zero, List.set_cons_succ]
  refine wpAnyH_done (by kernel_rfl) ?_ _
  go_wp2
  go_ret
  exact ⟨rfl, x1.trans hHeld⟩

/-- Floats, at numbers all of them -/
def NewNum (k : Nat) (l : List Nat) (w : World) (e : Ending) (w' : World) : Prop := ∃ v, e = .returned (.tuple #[v, .bool true]) ∧ NumS w' v k l (New w.heap.size) ∧ Ext w w'
theorem floats_yes (A : Option Addr) (l : List Nat) (n : Nat) (hn : n = l.length) (hw : ∀ x ∈ l, x < 18446744073709551616) (hf : allF l = true) (c : Nat) (w : World) (hl : n ≤ 1048576) (hs : Sl w 1 A n (f64s l)) : Calls Try.prog 67 #[.slice A n c] w (NewNum 4 (dnL l) w) := by
  refine (vfloats_own A l n hn c w hl hs).mono ?_
  rintro e w' ⟨B, cb, rfl, ho, hx⟩
  rw [hf] at ho ⊢
  refine ⟨_, rfl, ?_, hx⟩
  have hh := ho rfl
  refine NumS.mk (IsNum.mk4 ?_) (In.one (A := B) (n := n) (c := cb) (fun a ha => ?_) (.inr rfl) ⟨_, rfl⟩ (.inr rfl) (.inr rfl) (.inl rfl) (.inr rfl) (.inr rfl))
  · exact isvec_floats (by rw [dnL_length]; exact hn) hl (dnL_tidy hw) (Sl.own hh)
  · obtain ⟨A', c', e', _, hA⟩ := own_form hh
    cases e'
    exact (hA a ha).1
theorem floats_no (A : Option Addr) (l : List Nat) (n : Nat) (hn : n = l.length) (hf : allF l = false) (c : Nat) (w : World) (hl : n ≤ 1048576) (hs : Sl w 1 A n (f64s l)) : Calls Try.prog 67 #[.slice A n c] w fun e w' => e = .returned (.tuple #[zeroVec, .bool false]) ∧ Ext w w' := by
  refine (vfloats_own A l n hn c w hl hs).mono ?_
  rintro e w' ⟨B, cb, rfl, ho, hx⟩
  rw [hf]
  exact ⟨rfl, hx⟩
theorem numbers_yes (A : Option Addr) (l : List Nat) (n : Nat) (hn : n = l.length) (hw : ∀ x ∈ l, x < 18446744073709551616) (hf : allF l = true) (c : Nat) (w : World) (hl : n ≤ 1048576) (hs : Sl w 1 A n (f64s l)) : Calls Try.prog 45 #[.slice A n c] w (NewNum (leastL (dnL l)) (dnL l) w) := by
  have cf := fun w hs => floats_yes A l n hn hw hf c w hl hs
  have HS := hs
  clear hs hn hw hf
  generalize dnL l = L at *
  have cq := fun v w h => squeeze_num v 4 L w h
  generalize leastL L = r at *
  go_enter Try.func45, Try.ntmps45
  go_wp2_with (refine allocsV rfl rfl ?_; intro B2 w2 b2 c2 x2 L2 R2)
  refine (cf _ (HS.ext x2)).mono ?_
  rintro e w3 ⟨v, rfl, N1, x3⟩
  have hF := N1.is.flat
  replace N1 := N1.now
  replace R2 := R2.ext x3
  have z3 := x3.size
  clear HS cf
  go_wp2_with (first | (refine allocsV rfl rfl ?_; intro B4 w4 b4 c4 x4 L4 R4; replace N1 := N1.ext x4; replace R2 := R2.ext x4; have z4 := x4.size) | (refine storesV rfl rfl rfl (v := v) rfl R4 hF ?_; intro w5 g5 L5 R5; replace N1 := N1.grown g5 (by dsimp only [New]; omega); replace R2 := R2.grown g5 (by omega); have z5 := g5.size; have x5 := grown_ext (x2.trans (x3.trans x4)) g5 (by omega)) | (refine loadsV rfl rfl rfl L5 ?_))
  refine (cq v _ N1.is).mono ?_
  rintro e w6 ⟨v2, rfl, hq, x6⟩
  have N2 := hq _ N1
  have hF2 := N2.is.flat
  replace R2 := R2.ext x6
  have z6 := x6.size
  clear hq cq
  go_wp2_with (refine storesV rfl rfl rfl (v := v2) rfl R2 hF2 ?_; intro w7 g7 L7 R7)
  have N3 := N2.grown g7 (by dsimp only [New]; omega)
  exact bodyPost_ret (results_lay2 rfl rfl rfl (ldV L7)) rfl ⟨v2, rfl, N3.mono (fun i _ h => by dsimp only [New] at *; omega), grown_ext (x5.trans x6) g7 (by omega)⟩
theorem numbers_no (A : Option Addr) (l : List Nat) (n : Nat) (hn : n = l.length) (hf : allF l = false) (c : Nat) (w : World) (hl : n ≤ 1048576) (hs : Sl w 1 A n (f64s l)) : Calls Try.prog 45 #[.slice A n c] w fun e w' => e = .returned (.tuple #[zeroVec, .bool false]) ∧ Ext w w' := by
  have cf := fun w hs => floats_no A l n hn hf c w hl hs
  have HS := hs
  have hz := zeroVec_flat
  clear hs hn hf
  go_enter Try.func45, Try.ntmps45
  go_wp2_with (refine allocsV rfl rfl ?_; intro B2 w2 b2 c2 x2 L2 R2)
  refine (cf _ (HS.ext x2)).mono ?_
  rintro e w3 ⟨rfl, x3⟩
  replace R2 := R2.ext x3
  have z3 := x3.size
  clear HS cf
  obtain ⟨v, hv⟩ : ∃ v, zeroVec = v := ⟨_, rfl⟩
  rw [hv] at hz ⊢
  have HV := Lib.hid hv
  clear hv
  go_wp2_with (first | (refine allocsV rfl rfl ?_; intro B4 w4 b4 c4 x4 L4 R4; replace R2 := R2.ext x4; have z4 := x4.size) | (refine storesV (B := B4) rfl rfl rfl (v := v) rfl R4 hz ?_; intro w5 g5 L5 R5; replace R2 := R2.grown g5 (by omega); have z5 := g5.size; have x5 := grown_ext (x2.trans (x3.trans x4)) g5 (by omega)) | (refine storesV (B := B2) rfl rfl rfl (v := zeroVec) rfl R2 zeroVec_flat ?_; intro w7 g7 L7 R7))
  rw [HV.out] at L7
  exact bodyPost_ret (results_lay2 rfl rfl rfl (ldV L7)) rfl ⟨by rw [HV.out]; rfl, grown_ext x5 g7 (by omega)⟩
end Go.Proofs.Ytidnikndjhfgaaa
