/- rebusref01.Ints of whole numbers, rebusref16.Once, rebuslaw16.awake, OrderInverts. -/
import Derived.Test.YtidnikndjhfgaaaTc
import Derived.Test.YtidnikndjhfgaaaTd
import Derived.Test.YtidnikndjhfgaaaQp
import Derived.Deep.QuietTactic
import Derived.BigQuiet
namespace Go.Proofs.Ytidnikndjhfgaaa
open Go.ChangeShapes Go.WideShapes Go.RowKit Bv Fl
set_option maxHeartbeats 2000000
set_option maxRecDepth 100000
namespace Bv
/-- the same up to a place -/
def sameL {α : Type} (d : α) (a b : List α) (k : Nat) : Prop := ∀ j, j < k → a.getD j d = b.getD j d
theorem sameL_all {α : Type} [DecidableEq α] {d : α} {a b : List α} (hl : a.length = b.length) (h : sameL d a b a.length) : decide (a = b) = true := by
  apply decide_eq_true
  apply List.ext_getElem hl
  intro i h1 h2
  have := h i h1
  simpa [List.getD, h1, h2] using this
theorem sameL_step {α : Type} {d : α} {a b : List α} {k : Nat} (h : sameL d a b k) (g : a.getD k d = b.getD k d) : sameL d a b (k + 1) := by
  intro j hj
  by_cases e : j = k
  · subst e; exact g
  · exact h j (by omega)
theorem sameL_not {α : Type} [DecidableEq α] {d : α} {a b : List α} {k : Nat} (h : a.getD k d ≠ b.getD k d) : decide (a = b) = false := by
  apply decide_eq_false
  intro e
  exact h (by rw [e])
theorem sameL_len {α : Type} [DecidableEq α] {a b : List α} (h : a.length ≠ b.length) : decide (a = b) = false := by
  apply decide_eq_false
  intro e
  exact h (by rw [e])
end Bv
theorem intsZ_any (A A' : Option Addr) (a b : List Int) (n m c c' : Nat) (hn : n = a.length) (hm : m = b.length) (w : World) (hl : n ≤ 1048576) (hs : Sl w 1 A n (i64s a)) (hs' : Sl w 1 A' m (i64s b)) : Calls Try.prog 23 #[.slice A n c, .slice A' m c'] w fun e w' => e = .returned (.bool (decide (a = b))) ∧ ∃ m, w' = w.drewN m := by
  by_cases hnm : n = m
  · have hab : a.length = b.length := by rw [← hn, ← hm]; exact hnm
    subst hnm
    have HS := Lib.hid hs
    have HS' := Lib.hid hs'
    have HN := Lib.hid hn
    have HL := Lib.hid hab
    clear hs hs' hn hm hab
    obtain ⟨r, hr⟩ : ∃ r, decide (a = b) = r := ⟨_, rfl⟩
    rw [hr]
    have HB := Lib.hid hr
    clear hr
    go_enter Try.func23, Try.ntmps23
    go_wp2_with fail
    go_loopw [5] (fun i wr => ∃ k : Nat, k ≤ n ∧ i = .int .i64 k ∧ sameL (0 : Int) a b k ∧ ∃ q, wr = w.drewN q) (fun i _ => n - (intOf i).toNat)
    case atStart => exact ⟨0, Nat.zero_le _, rfl, fun j hj => absurd hj (by omega), 0, rfl⟩
    case round =>
      obtain ⟨k, hk, rfl, hup, q, rfl⟩ := hrel
      have HU := Lib.hid hup
      clear hup
      by_cases hlt : k < n
      · obtain ⟨g, u, rfl, hab, hu, hcell⟩ := HS.out.at1 hlt
        rw [i64s_getT (by rw [← HN.out]; exact hlt)] at hu
        cases hu
        obtain ⟨g', u', rfl, hab', hu', hcell'⟩ := HS'.out.at1 hlt
        rw [i64s_getT (by rw [← HL.out, ← HN.out]; exact hlt)] at hu'
        cases hu'
        have L0 : w.cell? (g.add k) = some (.int .i64 ((a.getD k (0 : Int)))) := hcell
        have L1 : w.cell? (g'.add k) = some (.int .i64 ((b.getD k (0 : Int)))) := hcell'
        have hki : (k : Int) < (n : Int) := by omega
        have hk0 : (0 : Int) ≤ (k : Int) := by omega
        clear hcell hcell' hab hab'
        by_cases hg : a.getD k (0 : Int) = b.getD k (0 : Int)
        · have hup := Lib.hid (sameL_step HU.out hg)
          rw [hg] at L0
          clear hg HU
          generalize b.getD k (0 : Int) = x at *
          go_wp2_with fail
          go_quiet (fail)
          go_wp2
          exact ⟨⟨k + 1, by omega, by go_num, hup.out, _, rfl⟩, by simp [intOf]; omega⟩
        · have hf := sameL_not hg
          rw [HB.out] at hf
          subst hf
          have he : (a.getD k (0 : Int) == b.getD k (0 : Int)) = false := by
            apply beq_false_of_ne
            intro h
            first | exact hg h | exact hg (Int.ofNat.inj h)
          clear hg
          generalize a.getD k (0 : Int) = x at *
          generalize b.getD k (0 : Int) = y at *
          go_wp2_with fail
          go_quiet (fail)
          go_wp2
          go_ret
          exact ⟨rfl, _, World.drewN_drewN _ _ _⟩
      · have hkn : k = n := by omega
        subst hkn
        have hup := HU.out
        rw [HN.out] at hup
        have ht := sameL_all HL.out hup
        rw [HB.out] at ht
        subst ht
        clear hup
        go_wp2
        go_ret
        exact ⟨rfl, _, rfl⟩
  · have hf := sameL_len (a := a) (b := b) (by rw [← hn, ← hm]; exact hnm)
    rw [hf]
    have hnm' : (n : Int) ≠ m := by omega
    clear hf hs hs' hn hm
    go_enter Try.func23, Try.ntmps23
    go_wp2
    go_ret
    exact ⟨rfl, 0, rfl⟩

def onceT (a : List Int) (n k : Nat) : Bool := decide (∀ p, p < k → cntI a n (p : Int) = 1)
theorem onceT_no {a : List Int} {n k m : Nat} (h : ¬ cntI a n (k : Int) = 1) (hk : k < m) : onceT a n m = false := decide_eq_false fun g => h (g k hk)
theorem onceT_step {a : List Int} {n k : Nat} (h : onceT a n k = true) (g : cntI a n (k : Int) = 1) : onceT a n (k + 1) = true := decide_eq_true fun p hp => by
  by_cases e : p = k
  · subst e; exact g
  · exact of_decide_eq_true h p (by omega)
theorem cntI_le (a : List Int) (j : Nat) (p : Int) : cntI a j p ≤ j := by
  induction j with
  | zero => exact Nat.le_refl _
  | succ j ih => unfold cntI; split <;> omega
theorem once_any (A : Option Addr) (a : List Int) (n : Nat) (hn : n = a.length) (c : Nat) (w : World) (hN2 : n ≤ 1048576) (hs : Sl w 1 A n (i64s a)) : Calls Try.prog 13 #[.slice A n c] w fun e w' => e = .returned (.bool (onceT a n n)) ∧ w' = w := by
  have HN := Lib.hid hn
  have HS := Lib.hid hs
  have HO0 : Hid (onceT a n 0 = true) := decide_eq_true fun p hp => by omega
  have HO1 : Hid (∀ k, onceT a n k = true → cntI a n (k : Int) = 1 → onceT a n (k + 1) = true) := fun k h g => onceT_step h g
  have HO2 : Hid (∀ k : Nat, ¬ cntI a n (k : Int) = 1 → k < n → onceT a n n = false) := fun k h g => onceT_no h g
  have HC0 : Hid (∀ p : Int, cntI a 0 p = 0) := fun p => rfl
  have HC1 : Hid (∀ (j : Nat) (p : Int), cntI a (j + 1) p = cntI a j p + (if a.getD j 0 = p then 1 else 0)) := fun j p => rfl
  have HCL : Hid (∀ (j : Nat) (p : Int), cntI a j p ≤ j) := fun j p => cntI_le a j p
  clear hn hs
  obtain ⟨OT, hOT⟩ : ∃ OT : Nat → Bool, onceT a n = OT := ⟨_, rfl⟩
  obtain ⟨CN, hCN⟩ : ∃ CN : Nat → Int → Nat, cntI a = CN := ⟨_, rfl⟩
  rw [hOT] at HO0 HO1 HO2 ⊢
  rw [hCN] at HO1 HO2 HC0 HC1 HCL
  clear hOT hCN
  go_enter Try.func13, Try.ntmps13
  go_wp2_with fail
  go_loopw [3] (fun i wr => ∃ k : Nat, k ≤ n ∧ i = .int .i64 k ∧ OT k = true ∧ wr = w) (fun i _ => n - (intOf i).toNat)
  case atStart => exact ⟨0, Nat.zero_le _, rfl, HO0.out, rfl⟩
  case round =>
    obtain ⟨k, hk, rfl, hup, rfl⟩ := hrel
    have HU := Lib.hid hup
    clear hup
    by_cases hlt : k < n
    · go_wp2_with fail
      go_loopw [4, 5] (fun x y wr' => ∃ m : Nat, m ≤ n ∧ x = .int .i64 ((CN m (k : Int) : Nat) : Int) ∧ y = .int .i64 m ∧ wr' = wr) (fun _ y _ => n - (intOf y).toNat)
      case atStart => exact ⟨0, Nat.zero_le _, by rw [HC0.out]; rfl, rfl, rfl⟩
      case round =>
        obtain ⟨m, hm, rfl, rfl, rfl⟩ := hrel
        have hcl := HCL.out m (k : Int)
        have HCm := Lib.hid (HC1.out m (k : Int))
        by_cases hlm : m < n
        · obtain ⟨ad, u1, rfl, -, hu1, D0⟩ := HS.out.at1 hlm
          rw [i64s_getT (by rw [← HN.out]; exact hlm)] at hu1
          cases hu1
          by_cases e : a.getD m 0 = (k : Int)
          · rw [if_pos e] at HCm
            rw [e] at D0
            clear e
            generalize CN m (k : Int) = cm at *
            go_wp2_with fail
            exact ⟨⟨m + 1, by omega, by rw [HCm.out]; go_num, by go_num, by trivial⟩, by simp [intOf]; omega⟩
          · rw [if_neg e] at HCm
            have e2 : (a.getD m 0 == (k : Int)) = false := by simpa using e
            clear e
            generalize a.getD m 0 = x at *
            generalize CN m (k : Int) = cm at *
            go_wp2_with fail
            exact ⟨⟨m + 1, by omega, by rw [HCm.out]; rfl, by go_num, by trivial⟩, by simp [intOf]; omega⟩
        · have hmn : m = n := by omega
          subst hmn
          by_cases e : CN m (k : Int) = 1
          · have hup := HO1.out k HU.out e
            have HUP := Lib.hid hup
            clear hup
            have e27 : (((CN m (k : Int) : Nat) : Int) != 1) = false := by rw [e]; rfl
            clear e HCm hcl
            generalize CN m (k : Int) = cm at *
            go_wp2_with fail
            exact ⟨⟨k + 1, by omega, by go_num, HUP.out, by trivial⟩, by simp [intOf]; omega⟩
          · have hup := HO2.out k e hlt
            have HUP := Lib.hid hup
            clear hup
            have e27 : (((CN m (k : Int) : Nat) : Int) != 1) = true := by simpa using fun h => e (by omega)
            clear e HCm hcl
            generalize CN m (k : Int) = cm at *
            go_wp2_with fail
            go_ret
            exact ⟨by rw [HUP.out]; rfl, rfl⟩
    · have hkn : k = n := by omega
      rw [hkn] at HU
      clear hkn
      go_wp2_with fail
      go_ret
      exact ⟨by rw [HU.out]; rfl, rfl⟩
attribute [local go_sem ↓] Go.wp_at_zero Go.wp_at_succ
theorem oawake_any (w : World) : Calls Try.prog 11 #[] w fun e w' => e = .returned (.bool true) ∧ Ext w w' := by
  have ka : ∀ A w, Sl w 1 A 3 (f64s [4613937818241073152, 4607182418800017408, 4611686018427387904]) → Calls Try.prog 45 #[.slice A 3 3] w (NewNum (leastL (dnL [4613937818241073152, 4607182418800017408, 4611686018427387904])) (dnL [4613937818241073152, 4607182418800017408, 4611686018427387904]) w) := fun A w hs => numbers_yes A [4613937818241073152, 4607182418800017408, 4611686018427387904] 3 rfl (by intro x hx; simp at hx; omega) (by kernel_rfl) 3 w (by omega) hs
  have kb : ∀ A w, Sl w 1 A 3 (i64s [1, 2, 0]) → Calls Try.prog 12 #[.slice A 3 3] w fun e w' => ∃ B c, e = .returned (.tuple #[.slice B 3 c, .bool true]) ∧ Sl w' 1 B 3 (i64s [2, 0, 1]) ∧ Ext w w' := fun A w hs => (invert_any A [1, 2, 0] 3 rfl 3 w (by omega) hs).mono fun e w2 => by
    rintro ⟨B, m, c, rfl, h1, _, hx⟩
    obtain ⟨rfl, h2⟩ := h1 (by decide)
    exact ⟨B, c, rfl, h2, hx⟩
  have kc : ∀ v K A w, IsNum w v K (dnL [4613937818241073152, 4607182418800017408, 4611686018427387904]) → Sl w 1 A 3 (i64s [1, 2, 0]) → Calls Try.prog 22 #[v, .int .i64 1, .slice A 3 3, .bool false] w fun e w' => e = .returned (.bool true) ∧ Ext w w' := fun v K A w hv hs => by
    have h := sorted_go v _ 1 3 false A [1, 2, 0] rfl 3 w (OV.num hv) (by omega) (by omega) (by simp [dnL]) hs
    rwa [show srtZ ((dnL [4613937818241073152, 4607182418800017408, 4611686018427387904]).map key) 1 false [1, 2, 0] 3 = true by kernel_rfl] at h
  have kd : ∀ v K A w, IsNum w v K (dnL [4613937818241073152, 4607182418800017408, 4611686018427387904]) → Sl w 1 A 3 (i64s [0, 1, 2]) → Calls Try.prog 22 #[v, .int .i64 1, .slice A 3 3, .bool false] w fun e w' => e = .returned (.bool false) ∧ Ext w w' := fun v K A w hv hs => by
    have h := sorted_go v _ 1 3 false A [0, 1, 2] rfl 3 w (OV.num hv) (by omega) (by omega) (by simp [dnL]) hs
    rwa [show srtZ ((dnL [4613937818241073152, 4607182418800017408, 4611686018427387904]).map key) 1 false [0, 1, 2] 3 = false by kernel_rfl] at h
  have ke : ∀ A B c w, Sl w 1 A 3 (i64s [2, 0, 1]) → Sl w 1 B 3 (i64s [2, 0, 1]) → Calls Try.prog 23 #[.slice A 3 c, .slice B 3 3] w fun e w' => e = .returned (.bool true) ∧ Ext w w' := fun A B c w hs hs' => (intsZ_any A B [2, 0, 1] [2, 0, 1] 3 3 c 3 rfl rfl w (by omega) hs hs').mono fun e w2 h => by
    obtain ⟨h1, m, rfl⟩ := h
    exact ⟨by rw [h1]; rfl, (Ext.refl w).drewN m⟩
  generalize leastL (dnL [4613937818241073152, 4607182418800017408, 4611686018427387904]) = KA at *
  generalize dnL [4613937818241073152, 4607182418800017408, 4611686018427387904] = LA at *
  have E := Ext.refl w
  go_enter Try.func11, Try.ntmps11
  go_wp2_with fail
  refine (ka _ _ (Sl.lit _ #[.float .f64 4613937818241073152, .float .f64 4607182418800017408, .float .f64 4611686018427387904] _)).mono ?_
  rintro e w7 ⟨v, rfl, hq, x⟩
  have NV := hq.now
  have Fv := NV.is.flat
  clear hq
  replace x := ((Ext.refl _).alloc _).trans x
  have z1 := x.size
  replace E := E.trans x
  clear x
  have TB1 : True := trivial
  have TG3 : True := trivial
  go_wp2_with (first | (clear TB1; refine allocsV rfl rfl ?_; intro B1 w1 bB1 cB1 XB1 LB1 RB1; have z2 := XB1.size; replace E := E.trans XB1; replace NV := NV.ext XB1) | (clear TG3; have hRl := (RB1).lt (Nat.zero_lt_succ _); refine storesV (B := B1) rfl rfl rfl (v := v) rfl RB1 Fv ?_; clear LB1; intro s3 G3 LB1 RQ; have z4 := G3.size; replace E := grown_ext E G3 (by omega); replace NV := NV.grown G3 (by first | omega | (dsimp only [New]; omega)); clear RB1; have RB1 := RQ; clear RQ hRl; clear RB1))
  refine (kb _ _ (Sl.lit _ #[.int .i64 1, .int .i64 2, .int .i64 0] _)).mono ?_
  rintro e w12 ⟨B, cB, rfl, hq, x⟩
  have SB := SlS.all hq
  clear hq
  replace x := ((Ext.refl _).alloc _).trans x
  have z5 := x.size
  replace E := E.trans x
  replace NV := NV.ext x
  replace LB1 := LB1.ext x
  clear x
  go_wp2_with (refine loadsV (B := B1) (by rfl) rfl rfl LB1 ?_)
  refine (kc v _ _ _ (NV.ext ((Ext.refl _).alloc _)).is (Sl.lit _ #[.int .i64 1, .int .i64 2, .int .i64 0] _)).mono ?_
  rintro e w17 ⟨rfl, x⟩
  replace x := ((Ext.refl _).alloc _).trans x
  have z6 := x.size
  replace E := E.trans x
  replace NV := NV.ext x
  replace LB1 := LB1.ext x
  replace SB := SB.ext x
  clear x
  go_wp2_with (refine loadgV (B := B1) (by rfl) rfl rfl LB1 ?_)
  clear LB1
  refine (kd v _ _ _ (NV.ext ((Ext.refl _).alloc _)).is (Sl.lit _ #[.int .i64 0, .int .i64 1, .int .i64 2] _)).mono ?_
  rintro e w21 ⟨rfl, x⟩
  replace x := ((Ext.refl _).alloc _).trans x
  have z7 := x.size
  replace E := E.trans x
  replace NV := NV.ext x
  replace SB := SB.ext x
  clear x
  go_wp2_with fail
  refine (ke B _ cB _ (SB.ext ((Ext.refl _).alloc _)).is (Sl.lit _ #[.int .i64 2, .int .i64 0, .int .i64 1] _)).mono ?_
  rintro e w30 ⟨rfl, x⟩
  replace x := ((Ext.refl _).alloc _).trans x
  have z8 := x.size
  replace E := E.trans x
  replace NV := NV.ext x
  replace SB := SB.ext x
  clear x
  go_wp2_with fail
  go_ret
  exact ⟨rfl, E⟩
section
variable (w : World) (A : Option Addr) (a : List Int) (n c : Nat)
theorem orderInverts_long (h : 300 < n) : Calls Try.prog 3 #[.slice A n c] w fun e w' => e = .returned (.bool true) ∧ Ext w w' := by
  have E := Ext.refl w
  go_enter Try.func3, Try.ntmps3
  go_wp2_with fail
  refine (oawake_any _).mono ?_
  rintro e w9 ⟨rfl, x⟩
  have z1 := x.size
  replace E := E.trans x
  clear x
  go_wp2_with fail
  go_ret
  exact ⟨rfl, E⟩
theorem orderInverts_no (hn : n = a.length) (h3 : n ≤ 300) (hs : Sl w 1 A n (i64s a)) (hb : okI a n = false) : Calls Try.prog 3 #[.slice A n c] w fun e w' => e = .returned (.bool true) ∧ Ext w w' := by
  have kb : ∀ w, Sl w 1 A n (i64s a) → Calls Try.prog 12 #[.slice A n c] w fun e w' => ∃ B cB, e = .returned (.tuple #[.slice B 0 cB, .bool false]) ∧ Ext w w' := fun w hs => (invert_any A a n hn c w (by omega) hs).mono fun e w2 => by
    rintro ⟨B, m, cB, rfl, _, h1, hx⟩
    obtain rfl := h1 hb
    exact ⟨B, cB, by rw [hb], hx⟩
  have ho : onceT a n n = false := by rw [hn] at hb ⊢; rw [← hb, ok_once]; rfl
  have ko : ∀ w, Sl w 1 A n (i64s a) → Calls Try.prog 13 #[.slice A n c] w fun e w' => e = .returned (.bool false) ∧ Ext w w' := fun w hs => (once_any A a n hn c w (by omega) hs).mono fun e w2 h => by
    obtain ⟨h1, rfl⟩ := h
    exact ⟨by rw [h1, ho], Ext.refl _⟩
  have h0 : 0 < n := by
    refine Nat.pos_of_ne_zero fun e => ?_
    rw [e] at hb
    cases hb
  have e24 : ((0 : Int) != (n : Int)) = true := by simpa using fun e => by omega
  have HS := Lib.hid hs
  clear hs hn hb ho
  have E := Ext.refl w
  go_enter Try.func3, Try.ntmps3
  go_wp2_with fail
  refine (kb _ (HS.out.ext E)).mono ?_
  rintro e w12 ⟨B, cB, rfl, x⟩
  have z1 := x.size
  replace E := E.trans x
  clear x
  go_wp2_with fail
  refine (ko _ (HS.out.ext E)).mono ?_
  rintro e w17 ⟨rfl, x⟩
  have z2 := x.size
  replace E := E.trans x
  clear x
  go_wp2_with fail
  go_loopw [5] (fun i wr => i = .int .i64 0 ∧ Ext w17 wr) (fun i _ => 0)
  case atStart => exact ⟨rfl, Ext.refl _⟩
  case round =>
    obtain ⟨rfl, HX⟩ := hrel
    have z3 := HX.size
    replace E := E.trans HX
    have TT := trivial
    · clear TT
      go_wp2_with fail
      refine (oawake_any _).mono ?_
      rintro e w69 ⟨rfl, x⟩
      have z4 := x.size
      replace E := E.trans x
      replace HX := HX.trans x
      clear x
      go_wp2_with fail
      go_ret
      exact ⟨rfl, E⟩
theorem orderInverts_yes (hn : n = a.length) (h3 : n ≤ 300) (hs : Sl w 1 A n (i64s a)) (hb : okI a n = true) : Calls Try.prog 3 #[.slice A n c] w fun e w' => e = .returned (.bool true) ∧ Ext w w' := by
  have kb : ∀ w, Sl w 1 A n (i64s a) → Calls Try.prog 12 #[.slice A n c] w fun e w' => ∃ B cB, e = .returned (.tuple #[.slice B n cB, .bool true]) ∧ Sl w' 1 B n (i64s (posL a n)) ∧ Ext w w' := fun w hs => (invert_any A a n hn c w (by omega) hs).mono fun e w2 => by
    rintro ⟨B, m, cB, rfl, h1, _, hx⟩
    obtain ⟨rfl, h2⟩ := h1 hb
    exact ⟨B, cB, by rw [hb], h2, hx⟩
  have ho : onceT a n n = true := by rw [hn] at hb ⊢; rw [← hb, ok_once]; rfl
  have ko : ∀ w, Sl w 1 A n (i64s a) → Calls Try.prog 13 #[.slice A n c] w fun e w' => e = .returned (.bool true) ∧ Ext w w' := fun w hs => (once_any A a n hn c w (by omega) hs).mono fun e w2 h => by
    obtain ⟨h1, rfl⟩ := h
    exact ⟨by rw [h1, ho], Ext.refl _⟩
  have HPI : Hid (∀ k, k < n → ∃ q : Nat, (posL a n).getD k 0 = (q : Int) ∧ q < n ∧ a.getD q 0 = (k : Int)) := fun k hk => by
    rw [posL_get a n (by omega), hn]
    rw [hn] at hb hk
    obtain ⟨h1, h2, h3⟩ := pos_in a hb k hk
    exact ⟨(posI a a.length (k : Int)).toNat, by omega, by omega, h3⟩
  have HL : Hid (n = (posL a n).length) := by rw [posL_length]; exact hn
  have HS := Lib.hid hs
  have HN := Lib.hid hn
  clear hs hn hb ho
  generalize posL a n = P at *
  have E := Ext.refl w
  go_enter Try.func3, Try.ntmps3
  go_wp2_with fail
  refine (kb _ (HS.out.ext E)).mono ?_
  rintro e w12 ⟨B, cB, rfl, hq, x⟩
  have SB := SlS.all hq
  clear hq
  have z1 := x.size
  replace E := E.trans x
  clear x
  go_wp2_with fail
  refine (ko _ (HS.out.ext E)).mono ?_
  rintro e w17 ⟨rfl, x⟩
  have z2 := x.size
  replace E := E.trans x
  replace SB := SB.ext x
  clear x
  go_wp2_with fail
  go_loopw [5] (fun i wr => ∃ k : Nat, k ≤ n ∧ i = .int .i64 k ∧ Ext w17 wr) (fun i _ => n - (intOf i).toNat)
  case atStart => exact ⟨0, Nat.zero_le _, rfl, Ext.refl _⟩
  case round =>
    obtain ⟨k, hk, rfl, HX⟩ := hrel
    have z3 := HX.size
    replace E := E.trans HX
    replace SB := SB.ext HX
    by_cases hlt : k < n
    · obtain ⟨q, hq0, hq1, hq2⟩ := HPI.out k hlt
      obtain ⟨ad, u1, e1, -, hu1, D0⟩ := SB.is.at1 hlt
      subst e1
      rw [i64s_getT (by rw [← HL.out]; exact hlt), hq0] at hu1
      cases hu1
      obtain ⟨ad', u2, e2, -, hu2, D1⟩ := (HS.out.ext E).at1 hq1
      subst e2
      rw [i64s_getT (by rw [← HN.out]; exact hq1), hq2] at hu2
      cases hu2
      have hq3 : (q : Int) < (n : Int) := by omega
      have hq4 : (0 : Int) ≤ (q : Int) := by omega
      clear hq0 hq2
      go_wp2_with fail
      exact ⟨⟨k + 1, by omega, by go_num, HX⟩, by simp [intOf]; omega⟩
    · have hkN : k = n := by omega
      clear hkN
      go_wp2_with fail
      refine (oawake_any _).mono ?_
      rintro e w69 ⟨rfl, x⟩
      have z4 := x.size
      replace E := E.trans x
      replace SB := SB.ext x
      replace HX := HX.trans x
      clear x
      go_wp2_with fail
      go_ret
      exact ⟨rfl, E⟩
end
theorem orderInverts_walk (w : World) (A : Option Addr) (a : List Int) (c : Nat) (_ : a.length ≤ c) (_ : c ≤ maxLen) (hs : Sl w 1 A a.length (a.map fun x => .int .i64 x)) (_ : ∀ x ∈ a, (Lit.int .i64 x).wf = true) :
    Calls Try.prog 3 #[.slice A a.length c] w fun e w' => e = .returned (.bool true) ∧ Ext w w' := by
  by_cases h3 : a.length ≤ 300
  · cases hb : okI a a.length
    · exact orderInverts_no w A a a.length c rfl h3 hs hb
    · exact orderInverts_yes w A a a.length c rfl h3 hs hb
  · exact orderInverts_long w A a.length c (by omega)
end Go.Proofs.Ytidnikndjhfgaaa
