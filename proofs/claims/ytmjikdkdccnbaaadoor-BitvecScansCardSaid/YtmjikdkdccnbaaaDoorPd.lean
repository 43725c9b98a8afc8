/- BitvecScans, for every input: the walk. -/
import Derived.Test.YtmjikdkdccnbaaaDoorPe
namespace Go.Proofs.YtmjikdkdccnbaaaDoor
open Go.ChangeShapes Go.WideShapes Go.RowKit Bv

theorem par_last (l : List Bool) (h : 0 < l.length) : bget (parL l) ((l.length - 1 : Nat) : Int) = decide (cnt l l.length % 2 = 1) := by
  unfold bget
  rw [if_pos (by omega), Int.toNat_natCast]
  unfold parL
  rw [tabL_getD, decide_eq_true (by omega), Bool.true_and, show l.length - 1 + 1 = l.length by omega, px_cnt]
/-- the running parities, or whether one is true up to there -/
def scn (b : Bool) (l : List Bool) : List Bool := if b then parL l else anyL l
theorem scn_length (b : Bool) (l : List Bool) : (scn b l).length = l.length := by cases b <;> exact tabL_length _ _
set_option maxHeartbeats 2000000
set_option maxRecDepth 100000 in
theorem scans_main (w : World) (ht : Tab w) (A : Option Addr) (l : List Bool) (c : Nat) (hc : l.length ≤ c) (hs : Sl w 1 A l.length (bools l)) (hl : l.length ≤ 2000) (h0 : 0 < l.length) :
    Calls Tryd.prog 4 #[.slice A l.length c] w fun e w' => e = .returned (.bool true) ∧ Ext w w' := by
  have PK := Lib.hid (fun w1 h1 => pack_any A c l w1 (by omega) hc h1)
  have HT := Lib.hid ht
  have HS := Lib.hid hs
  have hpl := par_last l h0
  have PAR : Hid (∀ v w1, IsB w1 v l → Calls Tryd.prog 14 #[v] w1 fun e w' => ∃ v', e = .returned v' ∧ IsB w' v' (scn true l) ∧ Ext w1 w') := fun v w1 h1 => (parity_any v l w1 h1).mono fun e w' ⟨v', he, hb, hx⟩ => ⟨v', he, hb.is, hx⟩
  have FIL : Hid (∀ v w1, IsB w1 v l → Tab w1 → Calls Tryd.prog 16 #[v] w1 fun e w' => ∃ v', e = .returned v' ∧ IsB w' v' (scn false l) ∧ Ext w1 w') := fun v w1 h1 h2 => (fill_any v l w1 h1 h2).mono fun e w' ⟨v', he, hb, hx⟩ => ⟨v', he, hb.is, hx⟩
  have CNT := Lib.hid (fun v w1 (h1 : IsB w1 v l) => count_any v l w1 h1)
  have AT := Lib.hid (fun v w1 (h1 : IsB w1 v (scn true l)) => at_any v (parL l) ((l.length - 1 : Nat) : Int) w1 h1)
  rw [hpl] at AT
  have SH : Hid (∀ b v B cb w1, IsB w1 v (scn b l) → Sl w1 1 B l.length (bools (scn b l)) → Calls Tryd.prog 11 #[v, .slice B l.length cb] w1 fun e w' => e = .returned (.bool true) ∧ Ext w1 w') := fun b v B cb w1 h1 h2 => by
    have h := shows_any v (scn b l) B cb w1 h1 (by rw [scn_length]; exact h2)
    rw [scn_length] at h
    exact h
  have RS : Hid (∀ b w1, Sl w1 1 A l.length (bools l) → Calls Tryd.prog 15 #[.slice A l.length c, .bool b] w1 fun e w' => ∃ B cb, e = .returned (.slice B l.length cb) ∧ Sl w' 1 B l.length (bools (scn b l)) ∧ Ext w1 w') := fun b w1 h1 => by
    cases b
    · exact (rscanF_any A l l.length rfl c w1 (by omega) h1).mono fun e w' ⟨v, he, ho, hx⟩ => by
        obtain ⟨B, cb, rfl, -, -⟩ := own_form ho
        exact ⟨B, cb, he, Sl.own ho, hx⟩
    · exact (rscanP_any A l l.length rfl c w1 (by omega) h1).mono fun e w' ⟨v, he, ho, hx⟩ => by
        obtain ⟨B, cb, rfl, -, -⟩ := own_form ho
        exact ⟨B, cb, he, Sl.own ho, hx⟩
  have hcl := cnt_le l l.length
  obtain ⟨m, hm⟩ : ∃ m, l.length = m := ⟨_, rfl⟩
  have HM := Lib.hid hm
  rw [hm] at PK HS AT SH RS CNT hl h0 hcl ⊢
  have e1 : IntKind.i64.wrap ((m : Int) - 1) = ((m - 1 : Nat) : Int) := by rw [wraps_i64 _ (by omega) (by omega)]; omega
  have E1 := Lib.hid e1
  clear ht hs hc hm hpl e1
  go_enter Tryd.func4, Tryd.ntmps4
  go_wp2_with fail
  refine (PK.out _ HS.out).mono ?_
  rintro e w1 ⟨v1, rfl, hb1, hx1⟩
  have HB := Lib.hid hb1.is
  obtain ⟨_, g1, c1, rfl, -, -⟩ := hb1
  rw [HM.out] at HB ⊢
  generalize wc m = mw at *
  have HE := Lib.hid (hx1.alloc (.cells #[.slice (some ⟨g1, 0, none⟩) mw c1, .int .i64 (m : Int)] 26))
  replace HB := Lib.hid (HB.out.ext ((Ext.refl w1).alloc (.cells #[.slice (some ⟨g1, 0, none⟩) mw c1, .int .i64 (m : Int)] 26)))
  replace HT := Lib.hid (HT.out.ext HE.out)
  replace HS := Lib.hid (HS.out.ext HE.out)
  clear hx1 PK
  go_wp2_with fail
  have b0 : (w1.alloc (.cells #[.slice (some ⟨g1, 0, none⟩) mw c1, .int .i64 (m : Int)] 26)).cell? ⟨w1.heap.size, 0, none⟩ = some (.slice (some ⟨g1, 0, none⟩) mw c1) := World.cell?_alloc_new w1 _ _ 0
  have b1 : (w1.alloc (.cells #[.slice (some ⟨g1, 0, none⟩) mw c1, .int .i64 (m : Int)] 26)).cell? ⟨w1.heap.size, 1, none⟩ = some (.int .i64 (m : Int)) := World.cell?_alloc_new w1 _ _ 1
  have HC := Lib.hid (And.intro b0 b1)
  have e1 := E1.out
  have HI := Lib.hid (And.intro h0 hcl)
  have m0 : (0 : Int) < (m : Int) := by omega
  have m1 : ((m : Int) == 0) = false := by simp; omega
  clear b0 b1 h0 hl hcl
  generalize m - 1 = mp at *
  generalize cnt l m = q at *
  have hq2 : ((q : Int) % 2 == 1) = decide (q % 2 = 1) := by
    rw [Bool.eq_iff_iff]; simp; omega
  have hqt : (q : Int).tmod 2 = (q : Int) % 2 := Int.tmod_eq_emod_of_nonneg (by omega)
  have hq3 : ((q : Int).tmod 2 == 1) = decide (q % 2 = 1) := by rw [hqt]; exact hq2
  have hq4 : (IntKind.i64.wrap ((q : Int).tmod 2) == 1) = decide (q % 2 = 1) := by
    rw [hqt, wraps_i64 _ (by omega) (by omega)]; exact hq2
  clear hqt
  obtain ⟨d, hd⟩ : ∃ d, decide (q % 2 = 1) = d := ⟨_, rfl⟩
  rw [hd] at hq2 hq3 hq4 AT
  clear hd
  have hdd : (d == d) = true := by cases d <;> rfl
  obtain ⟨W1, hW1⟩ : ∃ W1, w1.alloc (.cells #[.slice (some ⟨g1, 0, none⟩) mw c1, .int .i64 (m : Int)] 26) = W1 := ⟨_, rfl⟩
  rw [hW1] at HE HB HT HS HC ⊢
  clear hW1
  have HX0 := Lib.hid (Ext.refl W1).drew
  go_region_held3 (fun w' => Ext W1 w' ∧ w'.cell? ⟨w1.heap.size, 0, none⟩ = some (.slice (some ⟨g1, 0, none⟩) mw c1) ∧ w'.cell? ⟨w1.heap.size, 1, none⟩ = some (.int .i64 (m : Int)))
    ((go_split_ands; refine keep2 ?_ HC.out.1 HC.out.2; first | exact HX0.out | exact Ext.trans (by assumption) hx))
    (first
      | (go_at_call 15; refine (RS.out _ _ (HS.out.ext (by go_split_ands; assumption))).mono ?_; rintro e w3 ⟨B, cb, rfl, hsl, hx⟩)
      | (go_at_call 14; refine (PAR.out _ _ (HB.out.ext (by go_split_ands; assumption))).mono ?_; rintro e w2 ⟨v2, rfl, hb, hx⟩)
      | (go_at_call 16; refine (FIL.out _ _ (HB.out.ext (by go_split_ands; assumption)) (HT.out.ext (by go_split_ands; assumption))).mono ?_; rintro e w2 ⟨v2, rfl, hb, hx⟩)
      | (go_at_call 11; refine (SH.out _ _ _ _ _ (hb.ext hx) hsl).mono ?_; rintro e w4 ⟨rfl, hx⟩)
      | (go_at_call 12; refine (AT.out _ _ hb).mono ?_; rintro e w5 ⟨rfl, hx⟩)
      | (go_at_call 17; refine (CNT.out _ _ (HB.out.ext (by go_split_ands; assumption))).mono ?_; rintro e w6 ⟨rfl, hx⟩)
      | (go_at_call 9; refine (awake_any _ (HT.out.ext (by go_split_ands; assumption))).mono ?_; rintro e w7 ⟨rfl, hx⟩))
  go_wp2
  go_ret
  exact ⟨rfl, HE.out.trans (by go_split_ands; assumption)⟩
-- NIL
set_option maxRecDepth 100000 in
theorem scans_nil (w : World) (ht : Tab w) (A : Option Addr) (c : Nat) :
    Calls Tryd.prog 4 #[.slice A 0 c] w fun e w' => e = .returned (.bool true) ∧ Ext w w' := by
  have hs : Sl w 1 A 0 (bools []) := Sl.nil w 1 A
  have PK := Lib.hid (show Calls Tryd.prog 10 #[.slice A 0 c] w _ from pack_any A c [] w (by decide) (Nat.zero_le _) hs)
  have HT := Lib.hid ht
  have HS := Lib.hid hs
  have PAR : Hid (∀ v w1, IsB w1 v [] → Calls Tryd.prog 14 #[v] w1 fun e w' => ∃ v', e = .returned v' ∧ IsB w' v' (scn true []) ∧ Ext w1 w') := fun v w1 h1 => (parity_any v [] w1 h1).mono fun e w' ⟨v', he, hb, hx⟩ => ⟨v', he, hb.is, hx⟩
  have FIL : Hid (∀ v w1, IsB w1 v [] → Tab w1 → Calls Tryd.prog 16 #[v] w1 fun e w' => ∃ v', e = .returned v' ∧ IsB w' v' (scn false []) ∧ Ext w1 w') := fun v w1 h1 h2 => (fill_any v [] w1 h1 h2).mono fun e w' ⟨v', he, hb, hx⟩ => ⟨v', he, hb.is, hx⟩
  have SH : Hid (∀ b v B cb w1, IsB w1 v (scn b []) → Sl w1 1 B 0 (bools (scn b [])) → Calls Tryd.prog 11 #[v, .slice B 0 cb] w1 fun e w' => e = .returned (.bool true) ∧ Ext w1 w') := fun b v B cb w1 h1 h2 => by
    have h := shows_any v (scn b []) B cb w1 h1 (by rw [scn_length]; exact h2)
    rw [scn_length] at h
    exact h
  have RS : Hid (∀ b w1, Sl w1 1 A 0 (bools []) → Calls Tryd.prog 15 #[.slice A 0 c, .bool b] w1 fun e w' => ∃ B cb, e = .returned (.slice B 0 cb) ∧ Sl w' 1 B 0 (bools (scn b [])) ∧ Ext w1 w') := fun b w1 h1 => by
    cases b
    · exact (rscanF_any A [] 0 rfl c w1 (by decide) h1).mono fun e w' ⟨v, he, ho, hx⟩ => by
        obtain ⟨B, cb, rfl, -, -⟩ := own_form ho
        exact ⟨B, cb, he, Sl.own ho, hx⟩
    · exact (rscanP_any A [] 0 rfl c w1 (by decide) h1).mono fun e w' ⟨v, he, ho, hx⟩ => by
        obtain ⟨B, cb, rfl, -, -⟩ := own_form ho
        exact ⟨B, cb, he, Sl.own ho, hx⟩
  clear ht hs
  go_enter Tryd.func4, Tryd.ntmps4
  go_wp2_with fail
  refine PK.out.mono ?_
  rintro e w1 ⟨v1, rfl, hb1, hx1⟩
  have HB := Lib.hid hb1.is
  obtain ⟨_, g1, c1, rfl, -, -⟩ := hb1
  rw [show wc ([] : List Bool).length = 0 from rfl, show ((([] : List Bool).length : Nat) : Int) = 0 from rfl] at *
  have HB : Hid (IsB w1 (.agg #[.slice (some ⟨g1, 0, none⟩) 0 c1, .int .i64 0]) []) := HB
  have HE := Lib.hid (hx1.alloc (.cells #[.slice (some ⟨g1, 0, none⟩) 0 c1, .int .i64 0] 26))
  replace HB := Lib.hid (HB.out.ext ((Ext.refl w1).alloc (.cells #[.slice (some ⟨g1, 0, none⟩) 0 c1, .int .i64 0] 26)))
  replace HT := Lib.hid (HT.out.ext HE.out)
  replace HS := Lib.hid (HS.out.ext HE.out)
  clear hx1 PK
  go_wp2_with fail
  have b0 : (w1.alloc (.cells #[.slice (some ⟨g1, 0, none⟩) 0 c1, .int .i64 0] 26)).cell? ⟨w1.heap.size, 0, none⟩ = some (.slice (some ⟨g1, 0, none⟩) 0 c1) := World.cell?_alloc_new w1 _ _ 0
  have b1 : (w1.alloc (.cells #[.slice (some ⟨g1, 0, none⟩) 0 c1, .int .i64 0] 26)).cell? ⟨w1.heap.size, 1, none⟩ = some (.int .i64 0) := World.cell?_alloc_new w1 _ _ 1
  have HC := Lib.hid (And.intro b0 b1)
  clear b0 b1
  obtain ⟨W1, hW1⟩ : ∃ W1, w1.alloc (.cells #[.slice (some ⟨g1, 0, none⟩) 0 c1, .int .i64 0] 26) = W1 := ⟨_, rfl⟩
  rw [hW1] at HE HB HT HS HC ⊢
  clear hW1
  refine wp_region_held_drew (S := fun w' => Ext W1 w' ∧ w'.cell? ⟨w1.heap.size, 0, none⟩ = some (.slice (some ⟨g1, 0, none⟩) 0 c1) ∧ w'.cell? ⟨w1.heap.size, 1, none⟩ = some (.int .i64 0)) (by kernel_rfl) (by exact ⟨(Ext.refl W1).drew, HC.out.1, HC.out.2⟩) (fun hHeld => ?_)
  refine wpAnyH_take (i := 0) (oi := { dst := some 10, op := Go.Op.load 26 (Go.Operand.tmp 3), type := 26, pos := "law.go:84", after := #[], guard := none }) (v := ?v0) rfl (by kernel_rfl) (by kernel_rfl) (by kernel_rfl) (fun _ _ _ h => h) (Or.inl ⟨by rfl, ?hy0⟩) (by assumption) ?rest0
  case hy0 => (intro w hSw; (try dsimp only at hSw); go_simp; (first | done | with_reducible rfl))
  try simp only [Act.put, List.setIfInBounds_toArray, List.set_cons_zero, List.set_cons_succ]
  refine wpAnyH_take (i := 2) (oi := { dst := some 12, op := Go.Op.move (Go.Operand.tmp 0), type := 22, pos := "law.go:84", after := #[], guard := none }) (v := ?v2) rfl (by kernel_rfl) (by kernel_rfl) (by kernel_rfl) (fun _ _ _ h => h) (Or.inl ⟨by rfl, ?hy2⟩) (by assumption) ?rest2
  case hy2 => (intro w hSw; (try dsimp only at hSw); go_simp; (first | done | with_reducible rfl))
  try simp only [Act.put, List.setIfInBounds_toArray, List.set_cons_zero, List.set_cons_succ]
  refine wpAnyH_ready (rs := [1]) (by kernel_rfl) (by simp) ?_
  refine AllReadyH.cons (o := { dst := some 11, op := Go.Op.call { callee := Go.Callee.value (Go.Operand.func 14), args := #[Go.Operand.tmp 10], argTypes := #[26] }, type := 26, pos := "law.go:84", after := #[{ on := 0, ground := Go.Ground.data }], guard := none }) rfl (fun K hK => ?_) AllReadyH.nil
  go_simp
  go_at_call 14
  refine (PAR.out _ _ (HB.out.ext hHeld.1)).mono ?_
  rintro e w2 ⟨v2, rfl, hb, hx⟩
  refine hK.out _ _ ?_ (fun hHeld => ?_)
  · exact keep2 (hHeld.1.trans hx) HC.out.1 HC.out.2
  clear hK K
  try simp only [Act.put, List.setIfInBounds_toArray, List.set_cons_zero, List.set_cons_succ]
  refine wpAnyH_ready (rs := [3]) (by kernel_rfl) (by simp) ?_
  refine AllReadyH.cons (o := { dst := some 13, op := Go.Op.call { callee := Go.Callee.value (Go.Operand.func 15), args := #[Go.Operand.tmp 12, Go.Operand.const (Go.Value.bool true)], argTypes := #[22, 4] }, type := 22, pos := "law.go:84", after := #[{ on := 2, ground := Go.Ground.data }, { on := 1, ground := Go.Ground.chain }], guard := none }) rfl (fun K hK => ?_) AllReadyH.nil
  go_simp
  go_at_call 15
  refine (RS.out _ _ (HS.out.ext hHeld.1)).mono ?_
  rintro e w3 ⟨B, cb, rfl, hsl, hx⟩
  have hb := hb.ext hx
  refine hK.out _ _ ?_ (fun hHeld => ?_)
  · exact keep2 (hHeld.1.trans hx) HC.out.1 HC.out.2
  clear hK K
  try simp only [Act.put, List.setIfInBounds_toArray, List.set_cons_zero, List.set_cons_succ]
  refine wpAnyH_ready (rs := [4]) (by kernel_rfl) (by simp) ?_
  refine AllReadyH.cons (o := { dst := some 14, op := Go.Op.call { callee := Go.Callee.value (Go.Operand.func 11), args := #[Go.Operand.tmp 11, Go.Operand.tmp 13], argTypes := #[26, 22] }, type := 4, pos := "law.go:84", after := #[{ on := 1, ground := Go.Ground.data }, { on := 3, ground := Go.Ground.data }, { on := 3, ground := Go.Ground.chain }], guard := none }) rfl (fun K hK => ?_) AllReadyH.nil
  go_simp
  go_at_call 11
  refine (SH.out _ _ _ _ _ hb hsl).mono ?_
  rintro e w4 ⟨rfl, hx⟩
  refine hK.out _ _ ?_ (fun hHeld => ?_)
  · exact keep2 (hHeld.1.trans hx) HC.out.1 HC.out.2
  clear hK K
  try simp only [Act.put, List.setIfInBounds_toArray, List.set_cons_zero, List.set_cons_succ]
  refine wpAnyH_take (i := 5) (oi := { dst := some 15, op := Go.Op.move (Go.Operand.tmp 14), type := 4, pos := "law.go:84", after := #[{ on := 4, ground := Go.Ground.data }, { on := 4, ground := Go.Ground.chain }], guard := none }) (v := ?v5) rfl (by kernel_rfl) (by kernel_rfl) (by kernel_rfl) (fun _ _ _ h => h) (Or.inl ⟨by rfl, ?hy5⟩) (by assumption) ?rest5
  case hy5 => (intro w hSw; (try dsimp only at hSw); go_simp; (first | done | with_reducible rfl))
  try simp only [Act.put, List.setIfInBounds_toArray, List.set_cons_zero, List.set_cons_succ]
  refine wpAnyH_take (i := 6) (oi := { dst := some 16, op := Go.Op.load 26 (Go.Operand.tmp 3), type := 26, pos := "law.go:84", after := #[{ on := 5, ground := Go.Ground.guard }], guard := some (5, true) }) (v := ?v6) rfl (by kernel_rfl) (by kernel_rfl) (by kernel_rfl) (fun _ _ _ h => h) (Or.inl ⟨by rfl, ?hy6⟩) (by assumption) ?rest6
  case hy6 => (intro w hSw; (try dsimp only at hSw); go_simp; (first | done | with_reducible rfl))
  try simp only [Act.put, List.setIfInBounds_toArray, List.set_cons_zero, List.set_cons_succ]
  refine wpAnyH_take (i := 8) (oi := { dst := some 18, op := Go.Op.move (Go.Operand.tmp 0), type := 22, pos := "law.go:84", after := #[{ on := 5, ground := Go.Ground.guard }], guard := some (5, true) }) (v := ?v8) rfl (by kernel_rfl) (by kernel_rfl) (by kernel_rfl) (fun _ _ _ h => h) (Or.inl ⟨by rfl, ?hy8⟩) (by assumption) ?rest8
  case hy8 => (intro w hSw; (try dsimp only at hSw); go_simp; (first | done | with_reducible rfl))
  try simp only [Act.put, List.setIfInBounds_toArray, List.set_cons_zero, List.set_cons_succ]
  refine wpAnyH_ready (rs := [7]) (by kernel_rfl) (by simp) ?_
  refine AllReadyH.cons (o := { dst := some 17, op := Go.Op.call { callee := Go.Callee.value (Go.Operand.func 16), args := #[Go.Operand.tmp 16], argTypes := #[26] }, type := 26, pos := "law.go:84", after := #[{ on := 6, ground := Go.Ground.data }, { on := 5, ground := Go.Ground.chain }, { on := 5, ground := Go.Ground.guard }], guard := some (5, true) }) rfl (fun K hK => ?_) AllReadyH.nil
  go_simp
  go_at_call 16
  refine (FIL.out _ _ (HB.out.ext hHeld.1) (HT.out.ext hHeld.1)).mono ?_
  rintro e w2 ⟨v2, rfl, hb, hx⟩
  refine hK.out _ _ ?_ (fun hHeld => ?_)
  · exact keep2 (hHeld.1.trans hx) HC.out.1 HC.out.2
  clear hK K
  try simp only [Act.put, List.setIfInBounds_toArray, List.set_cons_zero, List.set_cons_succ]
  refine wpAnyH_ready (rs := [9]) (by kernel_rfl) (by simp) ?_
  refine AllReadyH.cons (o := { dst := some 19, op := Go.Op.call { callee := Go.Callee.value (Go.Operand.func 15), args := #[Go.Operand.tmp 18, Go.Operand.const (Go.Value.bool false)], argTypes := #[22, 4] }, type := 22, pos := "law.go:84", after := #[{ on := 8, ground := Go.Ground.data }, { on := 7, ground := Go.Ground.chain }, { on := 5, ground := Go.Ground.guard }], guard := some (5, true) }) rfl (fun K hK => ?_) AllReadyH.nil
  go_simp
  go_at_call 15
  refine (RS.out _ _ (HS.out.ext hHeld.1)).mono ?_
  rintro e w3 ⟨B, cb, rfl, hsl, hx⟩
  have hb := hb.ext hx
  refine hK.out _ _ ?_ (fun hHeld => ?_)
  · exact keep2 (hHeld.1.trans hx) HC.out.1 HC.out.2
  clear hK K
  try simp only [Act.put, List.setIfInBounds_toArray, List.set_cons_zero, List.set_cons_succ]
  refine wpAnyH_ready (rs := [10]) (by kernel_rfl) (by simp) ?_
  refine AllReadyH.cons (o := { dst := some 20, op := Go.Op.call { callee := Go.Callee.value (Go.Operand.func 11), args := #[Go.Operand.tmp 17, Go.Operand.tmp 19], argTypes := #[26, 22] }, type := 4, pos := "law.go:84", after := #[{ on := 7, ground := Go.Ground.data }, { on := 9, ground := Go.Ground.data }, { on := 9, ground := Go.Ground.chain }, { on := 5, ground := Go.Ground.guard }], guard := some (5, true) }) rfl (fun K hK => ?_) AllReadyH.nil
  go_simp
  go_at_call 11
  refine (SH.out _ _ _ _ _ hb hsl).mono ?_
  rintro e w4 ⟨rfl, hx⟩
  refine hK.out _ _ ?_ (fun hHeld => ?_)
  · exact keep2 (hHeld.1.trans hx) HC.out.1 HC.out.2
  clear hK K
  try simp only [Act.put, List.setIfInBounds_toArray, List.set_cons_zero, List.set_cons_succ]
  refine wpAnyH_take (i := 11) (oi := { dst := some 21, op := Go.Op.pick (Go.Operand.tmp 15) (Go.Operand.tmp 20) (Go.Operand.const (Go.Value.bool false)), type := 4, pos := "law.go:84", after := #[{ on := 5, ground := Go.Ground.data }, { on := 10, ground := Go.Ground.data }], guard := none }) (v := ?v11) rfl (by kernel_rfl) (by kernel_rfl) (by kernel_rfl) (fun _ _ _ h => h) (Or.inl ⟨by rfl, ?hy11⟩) (by assumption) ?rest11
  case hy11 => (intro w hSw; (try dsimp only at hSw); go_simp; (first | done | with_reducible rfl))
  try simp only [Act.put, List.setIfInBounds_toArray, List.set_cons_zero, List.set_cons_succ]
  refine wpAnyH_take (i := 12) (oi := { dst := some 22, op := Go.Op.move (Go.Operand.tmp 21), type := 4, pos := "law.go:84", after := #[{ on := 11, ground := Go.Ground.data }, { on := 10, ground := Go.Ground.chain }], guard := none }) (v := ?v12) rfl (by kernel_rfl) (by kernel_rfl) (by kernel_rfl) (fun _ _ _ h => h) (Or.inl ⟨by rfl, ?hy12⟩) (by assumption) ?rest12
  case hy12 => (intro w hSw; (try dsimp only at hSw); go_simp; (first | done | with_reducible rfl))
  try simp only [Act.put, List.setIfInBounds_toArray, List.set_cons_zero, List.set_cons_succ]
  refine wpAnyH_take (i := 13) (oi := { dst := some 23, op := Go.Op.move (Go.Operand.tmp 0), type := 22, pos := "law.go:84", after := #[{ on := 12, ground := Go.Ground.guard }], guard := some (12, true) }) (v := ?v13) rfl (by kernel_rfl) (by kernel_rfl) (by kernel_rfl) (fun _ _ _ h => h) (Or.inl ⟨by rfl, ?hy13⟩) (by assumption) ?rest13
  case hy13 => (intro w hSw; (try dsimp only at hSw); go_simp; (first | done | with_reducible rfl))
  try simp only [Act.put, List.setIfInBounds_toArray, List.set_cons_zero, List.set_cons_succ]
  refine wpAnyH_take (i := 14) (oi := { dst := some 24, op := Go.Op.call { callee := Go.Callee.builtin Go.Builtin.len, args := #[Go.Operand.tmp 23], argTypes := #[22] }, type := 3, pos := "law.go:84", after := #[{ on := 13, ground := Go.Ground.data }, { on := 12, ground := Go.Ground.guard }], guard := some (12, true) }) (v := ?v14) rfl (by kernel_rfl) (by kernel_rfl) (by kernel_rfl) (fun _ _ _ h => h) (Or.inl ⟨by rfl, ?hy14⟩) (by assumption) ?rest14
  case hy14 => (intro w hSw; (try dsimp only at hSw); go_simp; (first | done | with_reducible rfl))
  try simp only [Act.put, List.setIfInBounds_toArray, List.set_cons_zero, List.set_cons_succ]
  refine wpAnyH_take (i := 15) (oi := { dst := some 25, op := Go.Op.binOp Go.BinOp.eql 3 (Go.Operand.tmp 24) (Go.Operand.const (Go.Value.int Go.IntKind.i64 0)) 3, type := 4, pos := "law.go:84", after := #[{ on := 14, ground := Go.Ground.data }, { on := 12, ground := Go.Ground.guard }], guard := some (12, true) }) (v := ?v15) rfl (by kernel_rfl) (by kernel_rfl) (by kernel_rfl) (fun _ _ _ h => h) (Or.inl ⟨by rfl, ?hy15⟩) (by assumption) ?rest15
  case hy15 => (intro w hSw; (try dsimp only at hSw); go_simp; (first | done | with_reducible rfl))
  try simp only [Act.put, List.setIfInBounds_toArray, List.set_cons_zero, List.set_cons_succ]
  refine wpAnyH_take (i := 16) (oi := { dst := some 26, op := Go.Op.move (Go.Operand.tmp 25), type := 4, pos := "law.go:84", after := #[{ on := 15, ground := Go.Ground.data }, { on := 12, ground := Go.Ground.chain }, { on := 12, ground := Go.Ground.guard }], guard := some (12, true) }) (v := ?v16) rfl (by kernel_rfl) (by kernel_rfl) (by kernel_rfl) (fun _ _ _ h => h) (Or.inl ⟨by rfl, ?hy16⟩) (by assumption) ?rest16
  case hy16 => (intro w hSw; (try dsimp only at hSw); go_simp; (first | done | with_reducible rfl))
  try simp only [Act.put, List.setIfInBounds_toArray, List.set_cons_zero, List.set_cons_succ]
  refine wpAnyH_take (i := 17) (oi := { dst := some 27, op := Go.Op.load 26 (Go.Operand.tmp 3), type := 26, pos := "law.go:84", after := #[{ on := 16, ground := Go.Ground.guard }], guard := some (16, false) }) (v := undef) rfl (by kernel_rfl) (by kernel_rfl) (by kernel_rfl) (fun _ _ _ h => h) (Or.inr ⟨by rfl, rfl⟩) (by assumption) ?_
  try simp only [Act.put, List.setIfInBounds_toArray, List.set_cons_zero, List.set_cons_succ]
  refine wpAnyH_take (i := 18) (oi := { dst := some 28, op := Go.Op.call { callee := Go.Callee.value (Go.Operand.func 14), args := #[Go.Operand.tmp 27], argTypes := #[26] }, type := 26, pos := "law.go:84", after := #[{ on := 17, ground := Go.Ground.data }, { on := 16, ground := Go.Ground.chain }, { on := 16, ground := Go.Ground.guard }], guard := some (16, false) }) (v := undef) rfl (by kernel_rfl) (by kernel_rfl) (by kernel_rfl) (fun _ _ _ h => h) (Or.inr ⟨by rfl, rfl⟩) (by assumption) ?_
  try simp only [Act.put, List.setIfInBounds_toArray, List.set_cons_zero, List.set_cons_succ]
  refine wpAnyH_take (i := 19) (oi := { dst := some 29, op := Go.Op.move (Go.Operand.tmp 0), type := 22, pos := "law.go:84", after := #[{ on := 16, ground := Go.Ground.guard }], guard := some (16, false) }) (v := undef) rfl (by kernel_rfl) (by kernel_rfl) (by kernel_rfl) (fun _ _ _ h => h) (Or.inr ⟨by rfl, rfl⟩) (by assumption) ?_
  try simp only [Act.put, List.setIfInBounds_toArray, List.set_cons_zero, List.set_cons_succ]
  refine wpAnyH_take (i := 20) (oi := { dst := some 30, op := Go.Op.call { callee := Go.Callee.builtin Go.Builtin.len, args := #[Go.Operand.tmp 29], argTypes := #[22] }, type := 3, pos := "law.go:84", after := #[{ on := 19, ground := Go.Ground.data }, { on := 16, ground := Go.Ground.guard }], guard := some (16, false) }) (v := undef) rfl (by kernel_rfl) (by kernel_rfl) (by kernel_rfl) (fun _ _ _ h => h) (Or.inr ⟨by rfl, rfl⟩) (by assumption) ?_
  try simp only [Act.put, List.setIfInBounds_toArray, List.set_cons_zero, List.set_cons_succ]
  refine wpAnyH_take (i := 21) (oi := { dst := some 31, op := Go.Op.binOp Go.BinOp.sub 3 (Go.Operand.tmp 30) (Go.Operand.const (Go.Value.int Go.IntKind.i64 1)) 3, type := 3, pos := "law.go:84", after := #[{ on := 20, ground := Go.Ground.data }, { on := 16, ground := Go.Ground.guard }], guard := some (16, false) }) (v := undef) rfl (by kernel_rfl) (by kernel_rfl) (by kernel_rfl) (fun _ _ _ h => h) (Or.inr ⟨by rfl, rfl⟩) (by assumption) ?_
  try simp only [Act.put, List.setIfInBounds_toArray, List.set_cons_zero, List.set_cons_succ]
  refine wpAnyH_take (i := 22) (oi := { dst := some 32, op := Go.Op.call { callee := Go.Callee.value (Go.Operand.func 12), args := #[Go.Operand.tmp 28, Go.Operand.tmp 31], argTypes := #[26, 3] }, type := 4, pos := "law.go:84", after := #[{ on := 18, ground := Go.Ground.data }, { on := 21, ground := Go.Ground.data }, { on := 18, ground := Go.Ground.chain }, { on := 16, ground := Go.Ground.guard }], guard := some (16, false) }) (v := undef) rfl (by kernel_rfl) (by kernel_rfl) (by kernel_rfl) (fun _ _ _ h => h) (Or.inr ⟨by rfl, rfl⟩) (by assumption) ?_
  try simp only [Act.put, List.setIfInBounds_toArray, List.set_cons_zero, List.set_cons_succ]
  refine wpAnyH_take (i := 23) (oi := { dst := some 33, op := Go.Op.load 26 (Go.Operand.tmp 3), type := 26, pos := "law.go:84", after := #[{ on := 16, ground := Go.Ground.guard }], guard := some (16, false) }) (v := undef) rfl (by kernel_rfl) (by kernel_rfl) (by kernel_rfl) (fun _ _ _ h => h) (Or.inr ⟨by rfl, rfl⟩) (by assumption) ?_
  try simp only [Act.put, List.setIfInBounds_toArray, List.set_cons_zero, List.set_cons_succ]
  refine wpAnyH_take (i := 24) (oi := { dst := some 34, op := Go.Op.call { callee := Go.Callee.value (Go.Operand.func 17), args := #[Go.Operand.tmp 33], argTypes := #[26] }, type := 3, pos := "law.go:84", after := #[{ on := 23, ground := Go.Ground.data }, { on := 22, ground := Go.Ground.chain }, { on := 16, ground := Go.Ground.guard }], guard := some (16, false) }) (v := undef) rfl (by kernel_rfl) (by kernel_rfl) (by kernel_rfl) (fun _ _ _ h => h) (Or.inr ⟨by rfl, rfl⟩) (by assumption) ?_
  try simp only [Act.put, List.setIfInBounds_toArray, List.set_cons_zero, List.set_cons_succ]
  refine wpAnyH_take (i := 25) (oi := { dst := some 35, op := Go.Op.binOp Go.BinOp.rem 3 (Go.Operand.tmp 34) (Go.Operand.const (Go.Value.int Go.IntKind.i64 2)) 3, type := 3, pos := "law.go:84", after := #[{ on := 24, ground := Go.Ground.data }, { on := 16, ground := Go.Ground.guard }], guard := some (16, false) }) (v := undef) rfl (by kernel_rfl) (by kernel_rfl) (by kernel_rfl) (fun _ _ _ h => h) (Or.inr ⟨by rfl, rfl⟩) (by assumption) ?_
  try simp only [Act.put, List.setIfInBounds_toArray, List.set_cons_zero, List.set_cons_succ]
  refine wpAnyH_take (i := 26) (oi := { dst := some 36, op := Go.Op.binOp Go.BinOp.eql 3 (Go.Operand.tmp 35) (Go.Operand.const (Go.Value.int Go.IntKind.i64 1)) 3, type := 4, pos := "law.go:84", after := #[{ on := 25, ground := Go.Ground.data }, { on := 16, ground := Go.Ground.guard }], guard := some (16, false) }) (v := undef) rfl (by kernel_rfl) (by kernel_rfl) (by kernel_rfl) (fun _ _ _ h => h) (Or.inr ⟨by rfl, rfl⟩) (by assumption) ?_
  try simp only [Act.put, List.setIfInBounds_toArray, List.set_cons_zero, List.set_cons_succ]
  refine wpAnyH_take (i := 27) (oi := { dst := some 37, op := Go.Op.binOp Go.BinOp.eql 4 (Go.Operand.tmp 32) (Go.Operand.tmp 36) 4, type := 4, pos := "law.go:84", after := #[{ on := 22, ground := Go.Ground.data }, { on := 26, ground := Go.Ground.data }, { on := 16, ground := Go.Ground.guard }], guard := some (16, false) }) (v := undef) rfl (by kernel_rfl) (by kernel_rfl) (by kernel_rfl) (fun _ _ _ h => h) (Or.inr ⟨by rfl, rfl⟩) (by assumption) ?_
  try simp only [Act.put, List.setIfInBounds_toArray, List.set_cons_zero, List.set_cons_succ]
  refine wpAnyH_take (i := 28) (oi := { dst := some 38, op := Go.Op.pick (Go.Operand.tmp 26) (Go.Operand.const (Go.Value.bool true)) (Go.Operand.tmp 37), type := 4, pos := "law.go:84", after := #[{ on := 16, ground := Go.Ground.data }, { on := 27, ground := Go.Ground.data }, { on := 12, ground := Go.Ground.guard }], guard := some (12, true) }) (v := ?v28) rfl (by kernel_rfl) (by kernel_rfl) (by kernel_rfl) (fun _ _ _ h => h) (Or.inl ⟨by rfl, ?hy28⟩) (by assumption) ?rest28
  case hy28 => (intro w hSw; (try dsimp only at hSw); go_simp; (first | done | with_reducible rfl))
  try simp only [Act.put, List.setIfInBounds_toArray, List.set_cons_zero, List.set_cons_succ]
  refine wpAnyH_take (i := 29) (oi := { dst := some 39, op := Go.Op.pick (Go.Operand.tmp 22) (Go.Operand.tmp 38) (Go.Operand.const (Go.Value.bool false)), type := 4, pos := "law.go:84", after := #[{ on := 12, ground := Go.Ground.data }, { on := 28, ground := Go.Ground.data }], guard := none }) (v := ?v29) rfl (by kernel_rfl) (by kernel_rfl) (by kernel_rfl) (fun _ _ _ h => h) (Or.inl ⟨by rfl, ?hy29⟩) (by assumption) ?rest29
  case hy29 => (intro w hSw; (try dsimp only at hSw); go_simp; (first | done | with_reducible rfl))
  try simp only [Act.put, List.setIfInBounds_toArray, List.set_cons_zero, List.set_cons_succ]
  refine wpAnyH_take (i := 30) (oi := { dst := some 40, op := Go.Op.move (Go.Operand.tmp 39), type := 4, pos := "law.go:84", after := #[{ on := 29, ground := Go.Ground.data }, { on := 24, ground := Go.Ground.chain }], guard := none }) (v := ?v30) rfl (by kernel_rfl) (by kernel_rfl) (by kernel_rfl) (fun _ _ _ h => h) (Or.inl ⟨by rfl, ?hy30⟩) (by assumption) ?rest30
  case hy30 => (intro w hSw; (try dsimp only at hSw); go_simp; (first | done | with_reducible rfl))
  try simp only [Act.put, List.setIfInBounds_toArray, List.set_cons_zero, List.set_cons_succ]
  refine wpAnyH_ready (rs := [31]) (by kernel_rfl) (by simp) ?_
  refine AllReadyH.cons (o := { dst := some 41, op := Go.Op.call { callee := Go.Callee.value (Go.Operand.func 9), args := #[], argTypes := #[] }, type := 4, pos := "law.go:84", after := #[{ on := 30, ground := Go.Ground.chain }, { on := 30, ground := Go.Ground.guard }], guard := some (30, true) }) rfl (fun K hK => ?_) AllReadyH.nil
  go_simp
  go_at_call 9
  refine (awake_any _ (HT.out.ext hHeld.1)).mono ?_
  rintro e w7 ⟨rfl, hx⟩
  refine hK.out _ _ ?_ (fun hHeld => ?_)
  · exact keep2 (hHeld.1.trans hx) HC.out.1 HC.out.2
  clear hK K
  try simp only [Act.put, List.setIfInBounds_toArray, List.set_cons_zero, List.set_cons_succ]
  refine wpAnyH_take (i := 32) (oi := { dst := some 42, op := Go.Op.pick (Go.Operand.tmp 40) (Go.Operand.tmp 41) (Go.Operand.const (Go.Value.bool false)), type := 4, pos := "law.go:84", after := #[{ on := 30, ground := Go.Ground.data }, { on := 31, ground := Go.Ground.data }], guard := none }) (v := ?v32) rfl (by kernel_rfl) (by kernel_rfl) (by kernel_rfl) (fun _ _ _ h => h) (Or.inl ⟨by rfl, ?hy32⟩) (by assumption) ?rest32
  case hy32 => (intro w hSw; (try dsimp only at hSw); go_simp; (first | done | with_reducible rfl))
  try simp only [Act.put, List.setIfInBounds_toArray, List.set_cons_zero, List.set_cons_succ]
  refine wpAnyH_take (i := 33) (oi := { dst := some 2, op := Go.Op.assign (Go.Operand.tmp 42), type := 4, pos := "law.go:84", after := #[{ on := 32, ground := Go.Ground.data }, { on := 31, ground := Go.Ground.chain }, { on := 0, ground := Go.Ground.phase }, { on := 1, ground := Go.Ground.phase }, { on := 2, ground := Go.Ground.phase }, { on := 3, ground := Go.Ground.phase }, { on := 4, ground := Go.Ground.phase }, { on := 5, ground := Go.Ground.phase }, { on := 6, ground := Go.Ground.phase }, { on := 7, ground := Go.Ground.phase }, { on := 8, ground := Go.Ground.phase }, { on := 9, ground := Go.Ground.phase }, { on := 10, ground := Go.Ground.phase }, { on := 11, ground := Go.Ground.phase }, { on := 12, ground := Go.Ground.phase }, { on := 13, ground := Go.Ground.phase }, { on := 14, ground := Go.Ground.phase }, { on := 15, ground := Go.Ground.phase }, { on := 16, ground := Go.Ground.phase }, { on := 17, ground := Go.Ground.phase }, { on := 18, ground := Go.Ground.phase }, { on := 19, ground := Go.Ground.phase }, { on := 20, ground := Go.Ground.phase }, { on := 21, ground := Go.Ground.phase }, { on := 22, ground := Go.Ground.phase }, { on := 23, ground := Go.Ground.phase }, { on := 24, ground := Go.Ground.phase }, { on := 25, ground := Go.Ground.phase }, { on := 26, ground := Go.Ground.phase }, { on := 27, ground := Go.Ground.phase }, { on := 28, ground := Go.Ground.phase }, { on := 29, ground := Go.Ground.phase }, { on := 30, ground := Go.Ground.phase }, { on := 31, ground := Go.Ground.phase }, { on := 32, ground := Go.Ground.phase }], guard := none }) (v := ?v33) rfl (by kernel_rfl) (by kernel_rfl) (by kernel_rfl) (fun _ _ _ h => h) (Or.inl ⟨by rfl, ?hy33⟩) (by assumption) ?rest33
  case hy33 => (intro w hSw; (try dsimp only at hSw); go_simp; (first | done | with_reducible rfl))
  try simp only [Act.put, List.setIfInBounds_toArray, List.set_cons_zero, List.set_cons_succ]
  refine wpAnyH_done (by kernel_rfl) ?_ _
  go_wp2
  go_ret
  exact ⟨rfl, HE.out.trans hHeld.1⟩
theorem bitvecScans_walk (w : World) (ht : Tab w) (A : Option Addr) (l : List Bool) (c : Nat) (hc : l.length ≤ c) (_ : c ≤ maxLen) (hs : Sl w 1 A l.length (bools l)) (_ : ∀ x ∈ l, True) :
    Calls Tryd.prog 4 #[.slice A l.length c] w fun e w' => e = .returned (.bool true) ∧ Ext w w' := by
  by_cases h1 : l.length ≤ 2000
  · by_cases h0 : 0 < l.length
    · exact scans_main w ht A l c hc hs h1 h0
    · have e : l = [] := List.eq_nil_of_length_eq_zero (by omega)
      subst e
      exact scans_nil w ht A c
  · have ct := awake_any w ht
    clear hs ht hc
    generalize l.length = m at *
    go_enter Tryd.func4, Tryd.ntmps4
    go_wp2_with fail
    refine ct.mono ?_
    rintro e w1 ⟨rfl, hx⟩
    go_wp2
    go_ret
    exact ⟨rfl, hx⟩
end Go.Proofs.YtmjikdkdccnbaaaDoor
