/- rebusref07.check, Check. -/
import Derived.Test.YtidnikndjhfgaaaYc
namespace Go.Proofs.Ytidnikndjhfgaaa
open Go.ChangeShapes Go.WideShapes Go.RowKit Bv Fl
set_option maxHeartbeats 4000000
set_option maxRecDepth 100000
/-- a plain array that is one -/
def GoodD : Nat → World → Pl → Prop
  | 0, _, _ => False
  | n + 1, w, p => Flt w p ∧ 0 ≤ p.fill ∧ p.fill ≤ 2 ∧ prE p.sh = 0 ∧ prV p.sh = p.its.length ∧ ∀ x ∈ p.its, x.kind = p.fill ∧ (p.fill = 0 → fin x.num) ∧ (p.fill = 2 → ∃ (b : Addr) (q : Pl), x.bn = 1 ∧ x.bA = some b ∧ Sl w 3 x.bA 1 (plc [q]) ∧ GoodD n w q)
/-- what is wrong with an item, z what is wrong with what lies in it -/
def stE (fl : Int) (x : It) (z : Int) : Int := if x.kind ≠ fl ∨ (x.kind = 2 ∧ x.bn ≠ 1) then 1 else if x.kind = 2 then z else 0
def chE (fl : Int) (it : Nat → It) (zs : Nat → Int) : Nat → Int
  | 0 => 0
  | k + 1 => if chE fl it zs k ≠ 0 then chE fl it zs k else stE fl (it k) (zs k)
def chF (it : Nat → It) : Nat → Bool
  | 0 => true
  | k + 1 => chF it k && (decide ((it k).kind ≠ 0) || decide (fin (it k).num))
theorem chE_stay {fl : Int} {it : Nat → It} {zs : Nat → Int} {k n : Nat} (h : chE fl it zs k ≠ 0) (hk : k ≤ n) : chE fl it zs n = chE fl it zs k := by
  induction hk with
  | refl => rfl
  | step _ ih => show (if _ then _ else _) = _; rw [if_pos (by rw [ih]; exact h), ih]
theorem chE_zero {fl : Int} {it : Nat → It} {zs : Nat → Int} {n : Nat} (h : chE fl it zs n = 0) : ∀ k, k < n → stE fl (it k) (zs k) = 0 := by
  induction n with
  | zero => intro k hk; omega
  | succ n ih =>
    unfold chE at h
    split at h
    · exact absurd h (by assumption)
    · rename_i h2
      intro k hk
      by_cases e : k = n
      · subst e; exact h
      · exact ih (Decidable.not_not.1 h2) k (by omega)
theorem chF_all {it : Nat → It} {n : Nat} (h : chF it n = true) : ∀ k, k < n → (it k).kind = 0 → fin (it k).num := by
  induction n with
  | zero => intro k hk; omega
  | succ n ih =>
    unfold chF at h
    simp only [Bool.and_eq_true] at h
    intro k hk h0
    by_cases e : k = n
    · subst e
      simpa [h0] using h.2
    · exact ih h.1 k (by omega) h0
theorem split_d (A : Prop) (kd fl : Int) (bn : Nat) (z : Int) (b : Bool) : (A ∧ kd ≠ fl) ∨ (A ∧ kd = fl ∧ kd = 2 ∧ bn ≠ 1) ∨ (A ∧ kd = fl ∧ kd = 2 ∧ bn = 1 ∧ z ≠ 0) ∨ (A ∧ kd = fl ∧ kd = 2 ∧ bn = 1 ∧ z = 0 ∧ b = true) ∨ (A ∧ kd = fl ∧ kd = 2 ∧ bn = 1 ∧ z = 0 ∧ b = false) ∨ (A ∧ kd = fl ∧ kd ≠ 2 ∧ b = false) ∨ (A ∧ kd = fl ∧ kd ≠ 2 ∧ b = true ∧ kd ≠ 0) ∨ (A ∧ kd = fl ∧ kd ≠ 2 ∧ b = true ∧ kd = 0) ∨ ¬A := by
  by_cases a : A
  · by_cases h1 : kd = fl
    · by_cases h2 : kd = 2
      · by_cases h3 : bn = 1
        · by_cases h4 : z = 0
          · cases b
            · exact .inr (.inr (.inr (.inr (.inl ⟨a, h1, h2, h3, h4, rfl⟩))))
            · exact .inr (.inr (.inr (.inl ⟨a, h1, h2, h3, h4, rfl⟩)))
          · exact .inr (.inr (.inl ⟨a, h1, h2, h3, h4⟩))
        · exact .inr (.inl ⟨a, h1, h2, h3⟩)
      · cases b
        · exact .inr (.inr (.inr (.inr (.inr (.inl ⟨a, h1, h2, rfl⟩)))))
        · by_cases h5 : kd = 0
          · exact .inr (.inr (.inr (.inr (.inr (.inr (.inr (.inl ⟨a, h1, h2, rfl, h5⟩)))))))
          · exact .inr (.inr (.inr (.inr (.inr (.inr (.inl ⟨a, h1, h2, rfl, h5⟩))))))
    · exact .inl ⟨a, h1⟩
  · exact .inr (.inr (.inr (.inr (.inr (.inr (.inr (.inr a)))))))
section
variable (sA : Option Addr) (ns sc : Nat) (iA : Option Addr) (m ic : Nat) (fl : Int) (dp : Int) (w : World)
theorem chk_a (h : dp = 0) : Calls Try.prog 48 #[(.agg #[.slice sA ns sc, .slice iA m ic, .int .i64 fl]), .int .i64 dp] w fun e w' => e = .returned (.int .i64 1) ∧ Ext w w' := by
  have hF := pl_flat sA ns sc iA m ic fl
  have E := Ext.refl w
  go_enter Try.func48, Try.ntmps48
  have TB2 : True := trivial
  go_wp2_with (clear TB2; refine boxsP (v := (.agg #[.slice sA ns sc, .slice iA m ic, .int .i64 fl])) rfl rfl rfl hF ?_; intro B2 w2 bB2 cB2 XB2 LB2 RB2; have z1 := XB2.size; replace E := E.trans XB2; have cB2_0 := lay_cell LB2 (j := 0) rfl; have cB2_1 := lay_cell LB2 (j := 1) rfl; have cB2_2 := lay_cell LB2 (j := 2) rfl; clear LB2 RB2)
  go_ret
  exact ⟨rfl, E⟩
theorem chk_b (h : (dp == 0) = false) (h2 : fl < 0) : Calls Try.prog 48 #[(.agg #[.slice sA ns sc, .slice iA m ic, .int .i64 fl]), .int .i64 dp] w fun e w' => e = .returned (.int .i64 1) ∧ Ext w w' := by
  have hF := pl_flat sA ns sc iA m ic fl
  have E := Ext.refl w
  go_enter Try.func48, Try.ntmps48
  have TB2 : True := trivial
  go_wp2_with (clear TB2; refine boxsP (v := (.agg #[.slice sA ns sc, .slice iA m ic, .int .i64 fl])) rfl rfl rfl hF ?_; intro B2 w2 bB2 cB2 XB2 LB2 RB2; have z1 := XB2.size; replace E := E.trans XB2; have cB2_0 := lay_cell LB2 (j := 0) rfl; have cB2_1 := lay_cell LB2 (j := 1) rfl; have cB2_2 := lay_cell LB2 (j := 2) rfl; clear LB2 RB2)
  go_ret
  exact ⟨rfl, E⟩
theorem chk_c (h : (dp == 0) = false) (h2 : ¬ fl < 0) (h3 : 2 < fl) : Calls Try.prog 48 #[(.agg #[.slice sA ns sc, .slice iA m ic, .int .i64 fl]), .int .i64 dp] w fun e w' => e = .returned (.int .i64 1) ∧ Ext w w' := by
  have hF := pl_flat sA ns sc iA m ic fl
  have E := Ext.refl w
  go_enter Try.func48, Try.ntmps48
  have TB2 : True := trivial
  go_wp2_with (clear TB2; refine boxsP (v := (.agg #[.slice sA ns sc, .slice iA m ic, .int .i64 fl])) rfl rfl rfl hF ?_; intro B2 w2 bB2 cB2 XB2 LB2 RB2; have z1 := XB2.size; replace E := E.trans XB2; have cB2_0 := lay_cell LB2 (j := 0) rfl; have cB2_1 := lay_cell LB2 (j := 1) rfl; have cB2_2 := lay_cell LB2 (j := 2) rfl; clear LB2 RB2)
  go_ret
  exact ⟨rfl, E⟩
theorem chk_d (h : (dp == 0) = false) (h2 : ¬ fl < 0) (h3 : ¬ 2 < fl) (pv : Nat) (pe : Int) (cp : ∀ w', Ext w w' → Calls Try.prog 77 #[.slice sA ns sc, .int .i64 1048576] w' fun e w2 => e = .returned (.tuple #[.int .i64 (pv : Int), .int .i64 pe]) ∧ Ext w' w2) (h4 : (pe != 0) = true) : Calls Try.prog 48 #[(.agg #[.slice sA ns sc, .slice iA m ic, .int .i64 fl]), .int .i64 dp] w fun e w' => e = .returned (.int .i64 pe) ∧ Ext w w' := by
  have hF := pl_flat sA ns sc iA m ic fl
  have E := Ext.refl w
  go_enter Try.func48, Try.ntmps48
  have TB2 : True := trivial
  go_wp2_with (clear TB2; refine boxsP (v := (.agg #[.slice sA ns sc, .slice iA m ic, .int .i64 fl])) rfl rfl rfl hF ?_; intro B2 w2 bB2 cB2 XB2 LB2 RB2; have z1 := XB2.size; replace E := E.trans XB2; have cB2_0 := lay_cell LB2 (j := 0) rfl; have cB2_1 := lay_cell LB2 (j := 1) rfl; have cB2_2 := lay_cell LB2 (j := 2) rfl; clear LB2 RB2)
  refine (cp _ E).mono ?_
  rintro e w26 ⟨rfl, x⟩
  have z2 := x.size
  replace E := E.trans x
  replace cB2_0 := cell_ext (x) cB2_0
  replace cB2_1 := cell_ext (x) cB2_1
  replace cB2_2 := cell_ext (x) cB2_2
  clear x
  go_wp2_with fail
  go_ret
  exact ⟨rfl, E⟩
theorem chk_e (h : (dp == 0) = false) (h2 : ¬ fl < 0) (h3 : ¬ 2 < fl) (pv : Nat) (pe : Int) (cp : ∀ w', Ext w w' → Calls Try.prog 77 #[.slice sA ns sc, .int .i64 1048576] w' fun e w2 => e = .returned (.tuple #[.int .i64 (pv : Int), .int .i64 pe]) ∧ Ext w' w2) (h4 : (pe != 0) = false) (h5 : ((pv : Int) != (m : Int)) = true) : Calls Try.prog 48 #[(.agg #[.slice sA ns sc, .slice iA m ic, .int .i64 fl]), .int .i64 dp] w fun e w' => e = .returned (.int .i64 23) ∧ Ext w w' := by
  have hF := pl_flat sA ns sc iA m ic fl
  have E := Ext.refl w
  go_enter Try.func48, Try.ntmps48
  have TB2 : True := trivial
  go_wp2_with (clear TB2; refine boxsP (v := (.agg #[.slice sA ns sc, .slice iA m ic, .int .i64 fl])) rfl rfl rfl hF ?_; intro B2 w2 bB2 cB2 XB2 LB2 RB2; have z1 := XB2.size; replace E := E.trans XB2; have cB2_0 := lay_cell LB2 (j := 0) rfl; have cB2_1 := lay_cell LB2 (j := 1) rfl; have cB2_2 := lay_cell LB2 (j := 2) rfl; clear LB2 RB2)
  refine (cp _ E).mono ?_
  rintro e w26 ⟨rfl, x⟩
  have z2 := x.size
  replace E := E.trans x
  replace cB2_0 := cell_ext (x) cB2_0
  replace cB2_1 := cell_ext (x) cB2_1
  replace cB2_2 := cell_ext (x) cB2_2
  clear x
  go_wp2_with fail
  go_ret
  exact ⟨rfl, E⟩
theorem chk_f (h : (dp == 0) = false) (h2 : ¬ fl < 0) (h3 : ¬ 2 < fl) (pv : Nat) (pe : Int) (cp : ∀ w', Ext w w' → Calls Try.prog 77 #[.slice sA ns sc, .int .i64 1048576] w' fun e w2 => e = .returned (.tuple #[.int .i64 (pv : Int), .int .i64 pe]) ∧ Ext w' w2) (h4 : (pe != 0) = false) (h5 : ((pv : Int) != (m : Int)) = false) (hd : 1 ≤ dp ∧ dp ≤ 40) (hm2 : m ≤ 1048576) (IT : Nat → It) (ZS : Nat → Int) (res : Int) (fin1 : Bool)
    (HI : Hid (∀ w', Ext w w' → ∀ k, k < m → ∃ a, iA = some a ∧ ItAt w' (a.add (k * 4)) (IT k)))
    (HB : Hid (∀ k, k < m → (IT k).kind = 2 → (IT k).kind = fl → (IT k).bn = 1 → ∃ b q, (IT k).bA = some b ∧ ∀ w', Ext w w' → PlOf w' b q ∧ Calls Try.prog 48 #[.agg #[.slice q.sA q.sh.length q.sc, .slice q.iA q.its.length q.ic, .int .i64 q.fill], .int .i64 (dp - 1)] w' fun e w2 => e = .returned (.int .i64 (ZS k)) ∧ Ext w' w2))
    (HR1 : Hid (∀ k, k ≤ m → chE fl IT ZS k ≠ 0 → res = chE fl IT ZS k)) (HR2 : Hid (chE fl IT ZS m = 0 → chF IT m = fin1 ∧ res = if fin1 then 0 else 1)) : Calls Try.prog 48 #[(.agg #[.slice sA ns sc, .slice iA m ic, .int .i64 fl]), .int .i64 dp] w fun e w' => e = .returned (.int .i64 res) ∧ Ext w w' := by
  have hF := pl_flat sA ns sc iA m ic fl
  have E := Ext.refl w
  have HE0 : Hid (chE fl IT ZS 0 = 0) := rfl
  have HE1 : Hid (∀ k, chE fl IT ZS k = 0 → chE fl IT ZS (k + 1) = stE fl (IT k) (ZS k)) := fun k h => by show (if _ then _ else _) = _; rw [if_neg (by rw [h]; decide)]
  have HF0 : Hid (chF IT 0 = true) := rfl
  have HF1 : Hid (∀ k, chF IT (k + 1) = (chF IT k && (decide ((IT k).kind ≠ 0) || decide (fin (IT k).num)))) := fun k => rfl
  obtain ⟨EF, hEF⟩ : ∃ EF : Nat → Int, chE fl IT ZS = EF := ⟨_, rfl⟩
  obtain ⟨FF, hFF⟩ : ∃ FF : Nat → Bool, chF IT = FF := ⟨_, rfl⟩
  rw [hEF] at HE0 HE1 HR1 HR2
  rw [hFF] at HF0 HF1 HR2
  clear hEF hFF
  have hd1 := hd.1
  have hd2 := hd.2
  clear hd
  have cf : ∀ x w, Calls Try.prog 54 #[.float .f64 x] w fun e w' => e = .returned (.bool (decide (fin x))) ∧ Ext w w' := fun x w => (finite_any x w).mono fun e w2 h => ⟨h.1, h.2 ▸ Ext.refl _⟩
  cases fin1
  · go_enter Try.func48, Try.ntmps48
    have TB2 : True := trivial
    go_wp2_with (clear TB2; refine boxsP (v := (.agg #[.slice sA ns sc, .slice iA m ic, .int .i64 fl])) rfl rfl rfl hF ?_; intro B2 w2 bB2 cB2 XB2 LB2 RB2; have z1 := XB2.size; replace E := E.trans XB2; have cB2_0 := lay_cell LB2 (j := 0) rfl; have cB2_1 := lay_cell LB2 (j := 1) rfl; have cB2_2 := lay_cell LB2 (j := 2) rfl; clear LB2 RB2)
    refine (cp _ E).mono ?_
    rintro e w26 ⟨rfl, x⟩
    have z2 := x.size
    replace E := E.trans x
    replace cB2_0 := cell_ext (x) cB2_0
    replace cB2_1 := cell_ext (x) cB2_1
    replace cB2_2 := cell_ext (x) cB2_2
    clear x
    go_wp2_with fail
    go_loopw [7, 8] (fun z i wr => ∃ k : Nat, k ≤ m ∧ z = .bool (FF k) ∧ i = .int .i64 k ∧ EF k = 0 ∧ Ext w26 wr) (fun _ i _ => m - (intOf i).toNat)
    case atStart => exact ⟨0, Nat.zero_le _, by rw [HF0.out], rfl, HE0.out, Ext.refl _⟩
    case round =>
      obtain ⟨k, hk, rfl, rfl, hef, HX⟩ := hrel
      have HU := Lib.hid hef
      clear hef
      have z3 := HX.size
      replace E := E.trans HX
      replace cB2_0 := cell_ext (HX) cB2_0
      replace cB2_1 := cell_ext (HX) cB2_1
      replace cB2_2 := cell_ext (HX) cB2_2
      rcases split_d (k < m) (IT k).kind fl (IT k).bn (ZS k) (FF k) with ⟨hlt, h1⟩ | ⟨hlt, h1, h2, h3⟩ | ⟨hlt, h1, h2, h3, h4⟩ | ⟨hlt, h1, h2, h3, h4, h5⟩ | ⟨hlt, h1, h2, h3, h4, h5⟩ | ⟨hlt, h1, h2, h5⟩ | ⟨hlt, h1, h2, h5, h6⟩ | ⟨hlt, h1, h2, h5, h6⟩ | hlt
      · obtain ⟨a, ea, hI⟩ := HI.out _ E k hlt
        subst ea
        have D0 := hI.c0
        have D1 := hI.c1
        have D2 := hI.c2
        have D3 := hI.c3
        have hHE := HE1.out k HU.out
        have hHF := HF1.out k
        clear hI
        generalize ZS k = zk at *
        generalize hx : IT k = x at *
        clear hx
        obtain ⟨kd, nm, ch, bA, bn, bc⟩ := x
        simp only [stE] at *
        have e53 : (kd != fl) = true := by simpa using h1
        rw [if_pos (.inl h1)] at hHE
        clear hHF h1
        have HEK : Hid (EF (k + 1) = 1) := hHE
        clear hHE
        generalize FF k = fk at *
        have TB9 : True := trivial
        have TG5 : True := trivial
        go_wp2_with (first | (clear TB9; refine allocsI rfl rfl ?_; intro B9 w9 bB9 cB9 XB9 LB9 RB9; have z4 := XB9.size; replace E := E.trans XB9; replace cB2_0 := cell_ext (XB9) cB2_0; replace cB2_1 := cell_ext (XB9) cB2_1; replace cB2_2 := cell_ext (XB9) cB2_2; replace HX := HX.trans XB9; have cB9_0 := lay_cell LB9 (j := 0) rfl; have cB9_1 := lay_cell LB9 (j := 1) rfl; have cB9_3 := lay_cell LB9 (j := 3) rfl; clear LB9) | (clear TG5; have hRl := (RB9).lt (Nat.zero_lt_succ _); refine storesI (B := B9) rfl rfl rfl (v := (.agg #[.int .i64 kd, .float .f64 nm, .int .i32 ch, .slice bA bn bc])) rfl RB9 (it_flat kd nm ch bA bn bc) ?_; clear cB9_0; clear cB9_1; clear cB9_3; intro s5 G5 LB9 RQ; have z6 := G5.size; replace E := grown_ext E G5 (by omega); replace cB2_0 := cell_grown (G5) cB2_0 (by show B2 ≠ _; omega); replace cB2_1 := cell_grown (G5) cB2_1 (by show B2 ≠ _; omega); replace cB2_2 := cell_grown (G5) cB2_2 (by show B2 ≠ _; omega); replace HX := grown_ext HX G5 (by omega); clear RB9; have RB9 := RQ; clear RQ hRl; have cB9_0 := lay_cell LB9 (j := 0) rfl; have cB9_1 := lay_cell LB9 (j := 1) rfl; have cB9_3 := lay_cell LB9 (j := 3) rfl; clear LB9))
        go_ret
        exact ⟨by rw [HR1.out (k + 1) (by omega) (by rw [HEK.out]; decide), HEK.out]; rfl, E⟩
      · obtain ⟨a, ea, hI⟩ := HI.out _ E k hlt
        subst ea
        have D0 := hI.c0
        have D1 := hI.c1
        have D2 := hI.c2
        have D3 := hI.c3
        have hHE := HE1.out k HU.out
        have hHF := HF1.out k
        clear hI
        generalize ZS k = zk at *
        generalize hx : IT k = x at *
        clear hx
        obtain ⟨kd, nm, ch, bA, bn, bc⟩ := x
        simp only [stE] at *
        have e53 : (kd != fl) = false := by simpa using h1
        have e57 : (kd == 2) = true := by simpa using h2
        have e62 : ((bn : Int) != 1) = true := by simpa using (show ¬ (bn : Int) = 1 by omega)
        rw [if_pos (.inr ⟨h2, h3⟩)] at hHE
        clear hHF h1 h2
        have HEK : Hid (EF (k + 1) = 1) := hHE
        clear hHE
        generalize FF k = fk at *
        have TB9 : True := trivial
        have TG8 : True := trivial
        go_wp2_with (first | (clear TB9; refine allocsI rfl rfl ?_; intro B9 w9 bB9 cB9 XB9 LB9 RB9; have z7 := XB9.size; replace E := E.trans XB9; replace cB2_0 := cell_ext (XB9) cB2_0; replace cB2_1 := cell_ext (XB9) cB2_1; replace cB2_2 := cell_ext (XB9) cB2_2; replace HX := HX.trans XB9; have cB9_0 := lay_cell LB9 (j := 0) rfl; have cB9_1 := lay_cell LB9 (j := 1) rfl; have cB9_3 := lay_cell LB9 (j := 3) rfl; clear LB9) | (clear TG8; have hRl := (RB9).lt (Nat.zero_lt_succ _); refine storesI (B := B9) rfl rfl rfl (v := (.agg #[.int .i64 kd, .float .f64 nm, .int .i32 ch, .slice bA bn bc])) rfl RB9 (it_flat kd nm ch bA bn bc) ?_; clear cB9_0; clear cB9_1; clear cB9_3; intro s8 G8 LB9 RQ; have z9 := G8.size; replace E := grown_ext E G8 (by omega); replace cB2_0 := cell_grown (G8) cB2_0 (by show B2 ≠ _; omega); replace cB2_1 := cell_grown (G8) cB2_1 (by show B2 ≠ _; omega); replace cB2_2 := cell_grown (G8) cB2_2 (by show B2 ≠ _; omega); replace HX := grown_ext HX G8 (by omega); clear RB9; have RB9 := RQ; clear RQ hRl; have cB9_0 := lay_cell LB9 (j := 0) rfl; have cB9_1 := lay_cell LB9 (j := 1) rfl; have cB9_3 := lay_cell LB9 (j := 3) rfl; clear LB9))
        go_ret
        exact ⟨by rw [HR1.out (k + 1) (by omega) (by rw [HEK.out]; decide), HEK.out]; rfl, E⟩
      · obtain ⟨b, q, eb, hPC⟩ := HB.out k hlt h2 h1 h3
        obtain ⟨hP, -⟩ := hPC _ E
        have D4 := hP.c0
        have D5 := hP.c1
        have D6 := hP.c2
        have hbb := World.block_lt_of_cell? _ _ D4
        have cs := fun w' hx => (hPC w' hx).2
        clear hPC hP
        obtain ⟨a, ea, hI⟩ := HI.out _ E k hlt
        subst ea
        have D0 := hI.c0
        have D1 := hI.c1
        have D2 := hI.c2
        have D3 := hI.c3
        have hHE := HE1.out k HU.out
        have hHF := HF1.out k
        clear hI
        generalize ZS k = zk at *
        generalize hx : IT k = x at *
        clear hx
        obtain ⟨kd, nm, ch, bA, bn, bc⟩ := x
        simp only [stE] at *
        try simp only at eb h1 h2 h3
        subst h3
        rw [eb] at D3
        have e53 : (kd != fl) = false := by simpa using h1
        have e57 : (kd == 2) = true := by simpa using h2
        have e76 : (zk != 0) = true := by simpa using h4
        rw [if_neg (fun h => h.elim (fun h => h h1) (fun h => h.2 rfl)), if_pos h2] at hHE
        have HZ := Lib.hid h4
        clear hHF h1 h2 h4
        have HEK : Hid (EF (k + 1) = zk) := hHE
        clear hHE
        generalize FF k = fk at *
        have TB9 : True := trivial
        have TG11 : True := trivial
        go_wp2_with (first | (clear TB9; refine allocsI rfl rfl ?_; intro B9 w9 bB9 cB9 XB9 LB9 RB9; have z10 := XB9.size; replace E := E.trans XB9; replace cB2_0 := cell_ext (XB9) cB2_0; replace cB2_1 := cell_ext (XB9) cB2_1; replace cB2_2 := cell_ext (XB9) cB2_2; replace HX := HX.trans XB9; replace D4 := cell_ext (XB9) D4; replace D5 := cell_ext (XB9) D5; replace D6 := cell_ext (XB9) D6; have cB9_0 := lay_cell LB9 (j := 0) rfl; have cB9_1 := lay_cell LB9 (j := 1) rfl; have cB9_3 := lay_cell LB9 (j := 3) rfl; clear LB9) | (clear TG11; have hRl := (RB9).lt (Nat.zero_lt_succ _); refine storesI (B := B9) rfl rfl rfl (v := (.agg #[.int .i64 kd, .float .f64 nm, .int .i32 ch, .slice (some b) 1 bc])) rfl RB9 (it_flat kd nm ch (some b) 1 bc) ?_; clear cB9_0; clear cB9_1; clear cB9_3; intro s11 G11 LB9 RQ; have z12 := G11.size; replace E := grown_ext E G11 (by omega); replace cB2_0 := cell_grown (G11) cB2_0 (by show B2 ≠ _; omega); replace cB2_1 := cell_grown (G11) cB2_1 (by show B2 ≠ _; omega); replace cB2_2 := cell_grown (G11) cB2_2 (by show B2 ≠ _; omega); replace HX := grown_ext HX G11 (by omega); replace D4 := cell_grown (G11) D4 (by first | omega | (dsimp only; omega)); replace D5 := cell_grown (G11) D5 (by first | omega | (dsimp only; omega)); replace D6 := cell_grown (G11) D6 (by first | omega | (dsimp only; omega)); clear RB9; have RB9 := RQ; clear RQ hRl; have cB9_0 := lay_cell LB9 (j := 0) rfl; have cB9_1 := lay_cell LB9 (j := 1) rfl; have cB9_3 := lay_cell LB9 (j := 3) rfl; clear LB9))
        refine (cs _ E).mono ?_
        rintro e w74 ⟨rfl, x⟩
        have z13 := x.size
        replace E := E.trans x
        replace cB2_0 := cell_ext (x) cB2_0
        replace cB2_1 := cell_ext (x) cB2_1
        replace cB2_2 := cell_ext (x) cB2_2
        replace HX := HX.trans x
        replace D4 := cell_ext (x) D4
        replace D5 := cell_ext (x) D5
        replace D6 := cell_ext (x) D6
        replace RB9 := RB9.ext x
        replace cB9_0 := cell_ext (x) cB9_0
        replace cB9_1 := cell_ext (x) cB9_1
        replace cB9_3 := cell_ext (x) cB9_3
        clear x
        go_wp2_with fail
        go_ret
        exact ⟨by rw [HR1.out (k + 1) (by omega) (by rw [HEK.out]; exact HZ.out), HEK.out]; rfl, E⟩
      · obtain ⟨b, q, eb, hPC⟩ := HB.out k hlt h2 h1 h3
        obtain ⟨hP, -⟩ := hPC _ E
        have D4 := hP.c0
        have D5 := hP.c1
        have D6 := hP.c2
        have hbb := World.block_lt_of_cell? _ _ D4
        have cs := fun w' hx => (hPC w' hx).2
        clear hPC hP
        obtain ⟨a, ea, hI⟩ := HI.out _ E k hlt
        subst ea
        have D0 := hI.c0
        have D1 := hI.c1
        have D2 := hI.c2
        have D3 := hI.c3
        have hHE := HE1.out k HU.out
        have hHF := HF1.out k
        clear hI
        generalize ZS k = zk at *
        generalize hx : IT k = x at *
        clear hx
        obtain ⟨kd, nm, ch, bA, bn, bc⟩ := x
        simp only [stE] at *
        try simp only at eb h1 h2 h3
        subst h3
        rw [eb] at D3
        have e53 : (kd != fl) = false := by simpa using h1
        have e57 : (kd == 2) = true := by simpa using h2
        have e82 : (kd != 0) = true := by simpa using (show ¬ kd = 0 by omega)
        subst h4
        rw [if_neg (fun h => h.elim (fun h => h h1) (fun h => h.2 rfl)), if_pos h2] at hHE
        rw [h5, decide_eq_true (show ¬ kd = 0 by omega)] at hHF
        have HFK : Hid (FF (k + 1) = true) := hHF
        rw [h5]
        clear hHF h1 h2 h5
        have HEK : Hid (EF (k + 1) = 0) := hHE
        clear hHE
        have TB9 : True := trivial
        have TG15 : True := trivial
        go_wp2_with (first | (clear TB9; refine allocsI rfl rfl ?_; intro B9 w9 bB9 cB9 XB9 LB9 RB9; have z14 := XB9.size; replace E := E.trans XB9; replace cB2_0 := cell_ext (XB9) cB2_0; replace cB2_1 := cell_ext (XB9) cB2_1; replace cB2_2 := cell_ext (XB9) cB2_2; replace HX := HX.trans XB9; replace D4 := cell_ext (XB9) D4; replace D5 := cell_ext (XB9) D5; replace D6 := cell_ext (XB9) D6; have cB9_0 := lay_cell LB9 (j := 0) rfl; have cB9_1 := lay_cell LB9 (j := 1) rfl; have cB9_3 := lay_cell LB9 (j := 3) rfl; clear LB9) | (clear TG15; have hRl := (RB9).lt (Nat.zero_lt_succ _); refine storesI (B := B9) rfl rfl rfl (v := (.agg #[.int .i64 kd, .float .f64 nm, .int .i32 ch, .slice (some b) 1 bc])) rfl RB9 (it_flat kd nm ch (some b) 1 bc) ?_; clear cB9_0; clear cB9_1; clear cB9_3; intro s15 G15 LB9 RQ; have z16 := G15.size; replace E := grown_ext E G15 (by omega); replace cB2_0 := cell_grown (G15) cB2_0 (by show B2 ≠ _; omega); replace cB2_1 := cell_grown (G15) cB2_1 (by show B2 ≠ _; omega); replace cB2_2 := cell_grown (G15) cB2_2 (by show B2 ≠ _; omega); replace HX := grown_ext HX G15 (by omega); replace D4 := cell_grown (G15) D4 (by first | omega | (dsimp only; omega)); replace D5 := cell_grown (G15) D5 (by first | omega | (dsimp only; omega)); replace D6 := cell_grown (G15) D6 (by first | omega | (dsimp only; omega)); clear RB9; have RB9 := RQ; clear RQ hRl; have cB9_0 := lay_cell LB9 (j := 0) rfl; have cB9_1 := lay_cell LB9 (j := 1) rfl; have cB9_3 := lay_cell LB9 (j := 3) rfl; clear LB9))
        refine (cs _ E).mono ?_
        rintro e w74 ⟨rfl, x⟩
        have z17 := x.size
        replace E := E.trans x
        replace cB2_0 := cell_ext (x) cB2_0
        replace cB2_1 := cell_ext (x) cB2_1
        replace cB2_2 := cell_ext (x) cB2_2
        replace HX := HX.trans x
        replace D4 := cell_ext (x) D4
        replace D5 := cell_ext (x) D5
        replace D6 := cell_ext (x) D6
        replace RB9 := RB9.ext x
        replace cB9_0 := cell_ext (x) cB9_0
        replace cB9_1 := cell_ext (x) cB9_1
        replace cB9_3 := cell_ext (x) cB9_3
        clear x
        go_wp2_with fail
        exact ⟨⟨k + 1, by omega, by rw [HFK.out], by go_num, HEK.out, HX⟩, by simp [intOf]; omega⟩
      · obtain ⟨b, q, eb, hPC⟩ := HB.out k hlt h2 h1 h3
        obtain ⟨hP, -⟩ := hPC _ E
        have D4 := hP.c0
        have D5 := hP.c1
        have D6 := hP.c2
        have hbb := World.block_lt_of_cell? _ _ D4
        have cs := fun w' hx => (hPC w' hx).2
        clear hPC hP
        obtain ⟨a, ea, hI⟩ := HI.out _ E k hlt
        subst ea
        have D0 := hI.c0
        have D1 := hI.c1
        have D2 := hI.c2
        have D3 := hI.c3
        have hHE := HE1.out k HU.out
        have hHF := HF1.out k
        clear hI
        generalize ZS k = zk at *
        generalize hx : IT k = x at *
        clear hx
        obtain ⟨kd, nm, ch, bA, bn, bc⟩ := x
        simp only [stE] at *
        try simp only at eb h1 h2 h3
        subst h3
        rw [eb] at D3
        have e53 : (kd != fl) = false := by simpa using h1
        have e57 : (kd == 2) = true := by simpa using h2
        have e82 : (kd != 0) = true := by simpa using (show ¬ kd = 0 by omega)
        subst h4
        rw [if_neg (fun h => h.elim (fun h => h h1) (fun h => h.2 rfl)), if_pos h2] at hHE
        rw [h5, decide_eq_true (show ¬ kd = 0 by omega)] at hHF
        have HFK : Hid (FF (k + 1) = false) := hHF
        rw [h5]
        clear hHF h1 h2 h5
        have HEK : Hid (EF (k + 1) = 0) := hHE
        clear hHE
        have TB9 : True := trivial
        have TG19 : True := trivial
        go_wp2_with (first | (clear TB9; refine allocsI rfl rfl ?_; intro B9 w9 bB9 cB9 XB9 LB9 RB9; have z18 := XB9.size; replace E := E.trans XB9; replace cB2_0 := cell_ext (XB9) cB2_0; replace cB2_1 := cell_ext (XB9) cB2_1; replace cB2_2 := cell_ext (XB9) cB2_2; replace HX := HX.trans XB9; replace D4 := cell_ext (XB9) D4; replace D5 := cell_ext (XB9) D5; replace D6 := cell_ext (XB9) D6; have cB9_0 := lay_cell LB9 (j := 0) rfl; have cB9_1 := lay_cell LB9 (j := 1) rfl; have cB9_3 := lay_cell LB9 (j := 3) rfl; clear LB9) | (clear TG19; have hRl := (RB9).lt (Nat.zero_lt_succ _); refine storesI (B := B9) rfl rfl rfl (v := (.agg #[.int .i64 kd, .float .f64 nm, .int .i32 ch, .slice (some b) 1 bc])) rfl RB9 (it_flat kd nm ch (some b) 1 bc) ?_; clear cB9_0; clear cB9_1; clear cB9_3; intro s19 G19 LB9 RQ; have z20 := G19.size; replace E := grown_ext E G19 (by omega); replace cB2_0 := cell_grown (G19) cB2_0 (by show B2 ≠ _; omega); replace cB2_1 := cell_grown (G19) cB2_1 (by show B2 ≠ _; omega); replace cB2_2 := cell_grown (G19) cB2_2 (by show B2 ≠ _; omega); replace HX := grown_ext HX G19 (by omega); replace D4 := cell_grown (G19) D4 (by first | omega | (dsimp only; omega)); replace D5 := cell_grown (G19) D5 (by first | omega | (dsimp only; omega)); replace D6 := cell_grown (G19) D6 (by first | omega | (dsimp only; omega)); clear RB9; have RB9 := RQ; clear RQ hRl; have cB9_0 := lay_cell LB9 (j := 0) rfl; have cB9_1 := lay_cell LB9 (j := 1) rfl; have cB9_3 := lay_cell LB9 (j := 3) rfl; clear LB9))
        refine (cs _ E).mono ?_
        rintro e w74 ⟨rfl, x⟩
        have z21 := x.size
        replace E := E.trans x
        replace cB2_0 := cell_ext (x) cB2_0
        replace cB2_1 := cell_ext (x) cB2_1
        replace cB2_2 := cell_ext (x) cB2_2
        replace HX := HX.trans x
        replace D4 := cell_ext (x) D4
        replace D5 := cell_ext (x) D5
        replace D6 := cell_ext (x) D6
        replace RB9 := RB9.ext x
        replace cB9_0 := cell_ext (x) cB9_0
        replace cB9_1 := cell_ext (x) cB9_1
        replace cB9_3 := cell_ext (x) cB9_3
        clear x
        go_wp2_with fail
        exact ⟨⟨k + 1, by omega, by rw [HFK.out], by go_num, HEK.out, HX⟩, by simp [intOf]; omega⟩
      · obtain ⟨a, ea, hI⟩ := HI.out _ E k hlt
        subst ea
        have D0 := hI.c0
        have D1 := hI.c1
        have D2 := hI.c2
        have D3 := hI.c3
        have hHE := HE1.out k HU.out
        have hHF := HF1.out k
        clear hI
        generalize ZS k = zk at *
        generalize hx : IT k = x at *
        clear hx
        obtain ⟨kd, nm, ch, bA, bn, bc⟩ := x
        simp only [stE] at *
        have e53 : (kd != fl) = false := by simpa using h1
        have e57 : (kd == 2) = false := by simpa using h2
        rw [if_neg (fun h => h.elim (fun h => h h1) (fun h => h2 h.1)), if_neg h2] at hHE
        rw [h5, Bool.false_and] at hHF
        have HFK : Hid (FF (k + 1) = false) := hHF
        rw [h5]
        clear hHF h1 h2 h5
        have HEK : Hid (EF (k + 1) = 0) := hHE
        clear hHE
        have TB9 : True := trivial
        have TG23 : True := trivial
        go_wp2_with (first | (clear TB9; refine allocsI rfl rfl ?_; intro B9 w9 bB9 cB9 XB9 LB9 RB9; have z22 := XB9.size; replace E := E.trans XB9; replace cB2_0 := cell_ext (XB9) cB2_0; replace cB2_1 := cell_ext (XB9) cB2_1; replace cB2_2 := cell_ext (XB9) cB2_2; replace HX := HX.trans XB9; have cB9_0 := lay_cell LB9 (j := 0) rfl; have cB9_1 := lay_cell LB9 (j := 1) rfl; have cB9_3 := lay_cell LB9 (j := 3) rfl; clear LB9) | (clear TG23; have hRl := (RB9).lt (Nat.zero_lt_succ _); refine storesI (B := B9) rfl rfl rfl (v := (.agg #[.int .i64 kd, .float .f64 nm, .int .i32 ch, .slice bA bn bc])) rfl RB9 (it_flat kd nm ch bA bn bc) ?_; clear cB9_0; clear cB9_1; clear cB9_3; intro s23 G23 LB9 RQ; have z24 := G23.size; replace E := grown_ext E G23 (by omega); replace cB2_0 := cell_grown (G23) cB2_0 (by show B2 ≠ _; omega); replace cB2_1 := cell_grown (G23) cB2_1 (by show B2 ≠ _; omega); replace cB2_2 := cell_grown (G23) cB2_2 (by show B2 ≠ _; omega); replace HX := grown_ext HX G23 (by omega); clear RB9; have RB9 := RQ; clear RQ hRl; have cB9_0 := lay_cell LB9 (j := 0) rfl; have cB9_1 := lay_cell LB9 (j := 1) rfl; have cB9_3 := lay_cell LB9 (j := 3) rfl; clear LB9))
        exact ⟨⟨k + 1, by omega, by rw [HFK.out], by go_num, HEK.out, HX⟩, by simp [intOf]; omega⟩
      · obtain ⟨a, ea, hI⟩ := HI.out _ E k hlt
        subst ea
        have D0 := hI.c0
        have D1 := hI.c1
        have D2 := hI.c2
        have D3 := hI.c3
        have hHE := HE1.out k HU.out
        have hHF := HF1.out k
        clear hI
        generalize ZS k = zk at *
        generalize hx : IT k = x at *
        clear hx
        obtain ⟨kd, nm, ch, bA, bn, bc⟩ := x
        simp only [stE] at *
        have e53 : (kd != fl) = false := by simpa using h1
        have e57 : (kd == 2) = false := by simpa using h2
        rw [if_neg (fun h => h.elim (fun h => h h1) (fun h => h2 h.1)), if_neg h2] at hHE
        have e82 : (kd != 0) = true := by simpa using h6
        rw [h5, decide_eq_true h6] at hHF
        have HFK : Hid (FF (k + 1) = true) := hHF
        rw [h5]
        clear hHF h1 h2 h5 h6
        have HEK : Hid (EF (k + 1) = 0) := hHE
        clear hHE
        have TB9 : True := trivial
        have TG26 : True := trivial
        go_wp2_with (first | (clear TB9; refine allocsI rfl rfl ?_; intro B9 w9 bB9 cB9 XB9 LB9 RB9; have z25 := XB9.size; replace E := E.trans XB9; replace cB2_0 := cell_ext (XB9) cB2_0; replace cB2_1 := cell_ext (XB9) cB2_1; replace cB2_2 := cell_ext (XB9) cB2_2; replace HX := HX.trans XB9; have cB9_0 := lay_cell LB9 (j := 0) rfl; have cB9_1 := lay_cell LB9 (j := 1) rfl; have cB9_3 := lay_cell LB9 (j := 3) rfl; clear LB9) | (clear TG26; have hRl := (RB9).lt (Nat.zero_lt_succ _); refine storesI (B := B9) rfl rfl rfl (v := (.agg #[.int .i64 kd, .float .f64 nm, .int .i32 ch, .slice bA bn bc])) rfl RB9 (it_flat kd nm ch bA bn bc) ?_; clear cB9_0; clear cB9_1; clear cB9_3; intro s26 G26 LB9 RQ; have z27 := G26.size; replace E := grown_ext E G26 (by omega); replace cB2_0 := cell_grown (G26) cB2_0 (by show B2 ≠ _; omega); replace cB2_1 := cell_grown (G26) cB2_1 (by show B2 ≠ _; omega); replace cB2_2 := cell_grown (G26) cB2_2 (by show B2 ≠ _; omega); replace HX := grown_ext HX G26 (by omega); clear RB9; have RB9 := RQ; clear RQ hRl; have cB9_0 := lay_cell LB9 (j := 0) rfl; have cB9_1 := lay_cell LB9 (j := 1) rfl; have cB9_3 := lay_cell LB9 (j := 3) rfl; clear LB9))
        exact ⟨⟨k + 1, by omega, by rw [HFK.out], by go_num, HEK.out, HX⟩, by simp [intOf]; omega⟩
      · obtain ⟨a, ea, hI⟩ := HI.out _ E k hlt
        subst ea
        have D0 := hI.c0
        have D1 := hI.c1
        have D2 := hI.c2
        have D3 := hI.c3
        have hHE := HE1.out k HU.out
        have hHF := HF1.out k
        clear hI
        generalize ZS k = zk at *
        generalize hx : IT k = x at *
        clear hx
        obtain ⟨kd, nm, ch, bA, bn, bc⟩ := x
        simp only [stE] at *
        have e53 : (kd != fl) = false := by simpa using h1
        have e57 : (kd == 2) = false := by simpa using h2
        rw [if_neg (fun h => h.elim (fun h => h h1) (fun h => h2 h.1)), if_neg h2] at hHE
        have e82 : (kd != 0) = false := by simpa using h6
        rw [h5, decide_eq_false (fun h => h h6), Bool.true_and, Bool.false_or] at hHF
        have HFK : Hid (FF (k + 1) = decide (fin nm)) := hHF
        rw [h5]
        have cfx := fun w => cf nm w
        generalize decide (fin nm) = fb at *
        clear hHF h1 h2 h5 h6
        have HEK : Hid (EF (k + 1) = 0) := hHE
        clear hHE
        have TB9 : True := trivial
        have TG29 : True := trivial
        go_wp2_with (first | (clear TB9; refine allocsI rfl rfl ?_; intro B9 w9 bB9 cB9 XB9 LB9 RB9; have z28 := XB9.size; replace E := E.trans XB9; replace cB2_0 := cell_ext (XB9) cB2_0; replace cB2_1 := cell_ext (XB9) cB2_1; replace cB2_2 := cell_ext (XB9) cB2_2; replace HX := HX.trans XB9; have cB9_0 := lay_cell LB9 (j := 0) rfl; have cB9_1 := lay_cell LB9 (j := 1) rfl; have cB9_3 := lay_cell LB9 (j := 3) rfl; clear LB9) | (clear TG29; have hRl := (RB9).lt (Nat.zero_lt_succ _); refine storesI (B := B9) rfl rfl rfl (v := (.agg #[.int .i64 kd, .float .f64 nm, .int .i32 ch, .slice bA bn bc])) rfl RB9 (it_flat kd nm ch bA bn bc) ?_; clear cB9_0; clear cB9_1; clear cB9_3; intro s29 G29 LB9 RQ; have z30 := G29.size; replace E := grown_ext E G29 (by omega); replace cB2_0 := cell_grown (G29) cB2_0 (by show B2 ≠ _; omega); replace cB2_1 := cell_grown (G29) cB2_1 (by show B2 ≠ _; omega); replace cB2_2 := cell_grown (G29) cB2_2 (by show B2 ≠ _; omega); replace HX := grown_ext HX G29 (by omega); clear RB9; have RB9 := RQ; clear RQ hRl; have cB9_0 := lay_cell LB9 (j := 0) rfl; have cB9_1 := lay_cell LB9 (j := 1) rfl; have cB9_3 := lay_cell LB9 (j := 3) rfl; clear LB9 RB9))
        refine (cfx _).mono ?_
        rintro e w86 ⟨rfl, x⟩
        have z31 := x.size
        replace E := E.trans x
        replace cB2_0 := cell_ext (x) cB2_0
        replace cB2_1 := cell_ext (x) cB2_1
        replace cB2_2 := cell_ext (x) cB2_2
        replace HX := HX.trans x
        replace cB9_0 := cell_ext (x) cB9_0
        replace cB9_1 := cell_ext (x) cB9_1
        replace cB9_3 := cell_ext (x) cB9_3
        clear x
        go_wp2_with fail
        exact ⟨⟨k + 1, by omega, by rw [HFK.out], by go_num, HEK.out, HX⟩, by simp [intOf]; omega⟩
      · have hkm : k = m := by omega
        rw [hkm] at HU ⊢
        have hR := HR2.out HU.out
        rw [hR.1]
        have HRR := Lib.hid hR.2
        clear hkm hR HU
        go_wp2_with fail
        go_ret
        exact ⟨by rw [HRR.out]; rfl, E⟩
  · go_enter Try.func48, Try.ntmps48
    have TB2 : True := trivial
    go_wp2_with (clear TB2; refine boxsP (v := (.agg #[.slice sA ns sc, .slice iA m ic, .int .i64 fl])) rfl rfl rfl hF ?_; intro B2 w2 bB2 cB2 XB2 LB2 RB2; have z1 := XB2.size; replace E := E.trans XB2; have cB2_0 := lay_cell LB2 (j := 0) rfl; have cB2_1 := lay_cell LB2 (j := 1) rfl; have cB2_2 := lay_cell LB2 (j := 2) rfl; clear LB2 RB2)
    refine (cp _ E).mono ?_
    rintro e w26 ⟨rfl, x⟩
    have z2 := x.size
    replace E := E.trans x
    replace cB2_0 := cell_ext (x) cB2_0
    replace cB2_1 := cell_ext (x) cB2_1
    replace cB2_2 := cell_ext (x) cB2_2
    clear x
    go_wp2_with fail
    go_loopw [7, 8] (fun z i wr => ∃ k : Nat, k ≤ m ∧ z = .bool (FF k) ∧ i = .int .i64 k ∧ EF k = 0 ∧ Ext w26 wr) (fun _ i _ => m - (intOf i).toNat)
    case atStart => exact ⟨0, Nat.zero_le _, by rw [HF0.out], rfl, HE0.out, Ext.refl _⟩
    case round =>
      obtain ⟨k, hk, rfl, rfl, hef, HX⟩ := hrel
      have HU := Lib.hid hef
      clear hef
      have z3 := HX.size
      replace E := E.trans HX
      replace cB2_0 := cell_ext (HX) cB2_0
      replace cB2_1 := cell_ext (HX) cB2_1
      replace cB2_2 := cell_ext (HX) cB2_2
      rcases split_d (k < m) (IT k).kind fl (IT k).bn (ZS k) (FF k) with ⟨hlt, h1⟩ | ⟨hlt, h1, h2, h3⟩ | ⟨hlt, h1, h2, h3, h4⟩ | ⟨hlt, h1, h2, h3, h4, h5⟩ | ⟨hlt, h1, h2, h3, h4, h5⟩ | ⟨hlt, h1, h2, h5⟩ | ⟨hlt, h1, h2, h5, h6⟩ | ⟨hlt, h1, h2, h5, h6⟩ | hlt
      · obtain ⟨a, ea, hI⟩ := HI.out _ E k hlt
        subst ea
        have D0 := hI.c0
        have D1 := hI.c1
        have D2 := hI.c2
        have D3 := hI.c3
        have hHE := HE1.out k HU.out
        have hHF := HF1.out k
        clear hI
        generalize ZS k = zk at *
        generalize hx : IT k = x at *
        clear hx
        obtain ⟨kd, nm, ch, bA, bn, bc⟩ := x
        simp only [stE] at *
        have e53 : (kd != fl) = true := by simpa using h1
        rw [if_pos (.inl h1)] at hHE
        clear hHF h1
        have HEK : Hid (EF (k + 1) = 1) := hHE
        clear hHE
        generalize FF k = fk at *
        have TB9 : True := trivial
        have TG5 : True := trivial
        go_wp2_with (first | (clear TB9; refine allocsI rfl rfl ?_; intro B9 w9 bB9 cB9 XB9 LB9 RB9; have z4 := XB9.size; replace E := E.trans XB9; replace cB2_0 := cell_ext (XB9) cB2_0; replace cB2_1 := cell_ext (XB9) cB2_1; replace cB2_2 := cell_ext (XB9) cB2_2; replace HX := HX.trans XB9; have cB9_0 := lay_cell LB9 (j := 0) rfl; have cB9_1 := lay_cell LB9 (j := 1) rfl; have cB9_3 := lay_cell LB9 (j := 3) rfl; clear LB9) | (clear TG5; have hRl := (RB9).lt (Nat.zero_lt_succ _); refine storesI (B := B9) rfl rfl rfl (v := (.agg #[.int .i64 kd, .float .f64 nm, .int .i32 ch, .slice bA bn bc])) rfl RB9 (it_flat kd nm ch bA bn bc) ?_; clear cB9_0; clear cB9_1; clear cB9_3; intro s5 G5 LB9 RQ; have z6 := G5.size; replace E := grown_ext E G5 (by omega); replace cB2_0 := cell_grown (G5) cB2_0 (by show B2 ≠ _; omega); replace cB2_1 := cell_grown (G5) cB2_1 (by show B2 ≠ _; omega); replace cB2_2 := cell_grown (G5) cB2_2 (by show B2 ≠ _; omega); replace HX := grown_ext HX G5 (by omega); clear RB9; have RB9 := RQ; clear RQ hRl; have cB9_0 := lay_cell LB9 (j := 0) rfl; have cB9_1 := lay_cell LB9 (j := 1) rfl; have cB9_3 := lay_cell LB9 (j := 3) rfl; clear LB9))
        go_ret
        exact ⟨by rw [HR1.out (k + 1) (by omega) (by rw [HEK.out]; decide), HEK.out]; rfl, E⟩
      · obtain ⟨a, ea, hI⟩ := HI.out _ E k hlt
        subst ea
        have D0 := hI.c0
        have D1 := hI.c1
        have D2 := hI.c2
        have D3 := hI.c3
        have hHE := HE1.out k HU.out
        have hHF := HF1.out k
        clear hI
        generalize ZS k = zk at *
        generalize hx : IT k = x at *
        clear hx
        obtain ⟨kd, nm, ch, bA, bn, bc⟩ := x
        simp only [stE] at *
        have e53 : (kd != fl) = false := by simpa using h1
        have e57 : (kd == 2) = true := by simpa using h2
        have e62 : ((bn : Int) != 1) = true := by simpa using (show ¬ (bn : Int) = 1 by omega)
        rw [if_pos (.inr ⟨h2, h3⟩)] at hHE
        clear hHF h1 h2
        have HEK : Hid (EF (k + 1) = 1) := hHE
        clear hHE
        generalize FF k = fk at *
        have TB9 : True := trivial
        have TG8 : True := trivial
        go_wp2_with (first | (clear TB9; refine allocsI rfl rfl ?_; intro B9 w9 bB9 cB9 XB9 LB9 RB9; have z7 := XB9.size; replace E := E.trans XB9; replace cB2_0 := cell_ext (XB9) cB2_0; replace cB2_1 := cell_ext (XB9) cB2_1; replace cB2_2 := cell_ext (XB9) cB2_2; replace HX := HX.trans XB9; have cB9_0 := lay_cell LB9 (j := 0) rfl; have cB9_1 := lay_cell LB9 (j := 1) rfl; have cB9_3 := lay_cell LB9 (j := 3) rfl; clear LB9) | (clear TG8; have hRl := (RB9).lt (Nat.zero_lt_succ _); refine storesI (B := B9) rfl rfl rfl (v := (.agg #[.int .i64 kd, .float .f64 nm, .int .i32 ch, .slice bA bn bc])) rfl RB9 (it_flat kd nm ch bA bn bc) ?_; clear cB9_0; clear cB9_1; clear cB9_3; intro s8 G8 LB9 RQ; have z9 := G8.size; replace E := grown_ext E G8 (by omega); replace cB2_0 := cell_grown (G8) cB2_0 (by show B2 ≠ _; omega); replace cB2_1 := cell_grown (G8) cB2_1 (by show B2 ≠ _; omega); replace cB2_2 := cell_grown (G8) cB2_2 (by show B2 ≠ _; omega); replace HX := grown_ext HX G8 (by omega); clear RB9; have RB9 := RQ; clear RQ hRl; have cB9_0 := lay_cell LB9 (j := 0) rfl; have cB9_1 := lay_cell LB9 (j := 1) rfl; have cB9_3 := lay_cell LB9 (j := 3) rfl; clear LB9))
        go_ret
        exact ⟨by rw [HR1.out (k + 1) (by omega) (by rw [HEK.out]; decide), HEK.out]; rfl, E⟩
      · obtain ⟨b, q, eb, hPC⟩ := HB.out k hlt h2 h1 h3
        obtain ⟨hP, -⟩ := hPC _ E
        have D4 := hP.c0
        have D5 := hP.c1
        have D6 := hP.c2
        have hbb := World.block_lt_of_cell? _ _ D4
        have cs := fun w' hx => (hPC w' hx).2
        clear hPC hP
        obtain ⟨a, ea, hI⟩ := HI.out _ E k hlt
        subst ea
        have D0 := hI.c0
        have D1 := hI.c1
        have D2 := hI.c2
        have D3 := hI.c3
        have hHE := HE1.out k HU.out
        have hHF := HF1.out k
        clear hI
        generalize ZS k = zk at *
        generalize hx : IT k = x at *
        clear hx
        obtain ⟨kd, nm, ch, bA, bn, bc⟩ := x
        simp only [stE] at *
        try simp only at eb h1 h2 h3
        subst h3
        rw [eb] at D3
        have e53 : (kd != fl) = false := by simpa using h1
        have e57 : (kd == 2) = true := by simpa using h2
        have e76 : (zk != 0) = true := by simpa using h4
        rw [if_neg (fun h => h.elim (fun h => h h1) (fun h => h.2 rfl)), if_pos h2] at hHE
        have HZ := Lib.hid h4
        clear hHF h1 h2 h4
        have HEK : Hid (EF (k + 1) = zk) := hHE
        clear hHE
        generalize FF k = fk at *
        have TB9 : True := trivial
        have TG11 : True := trivial
        go_wp2_with (first | (clear TB9; refine allocsI rfl rfl ?_; intro B9 w9 bB9 cB9 XB9 LB9 RB9; have z10 := XB9.size; replace E := E.trans XB9; replace cB2_0 := cell_ext (XB9) cB2_0; replace cB2_1 := cell_ext (XB9) cB2_1; replace cB2_2 := cell_ext (XB9) cB2_2; replace HX := HX.trans XB9; replace D4 := cell_ext (XB9) D4; replace D5 := cell_ext (XB9) D5; replace D6 := cell_ext (XB9) D6; have cB9_0 := lay_cell LB9 (j := 0) rfl; have cB9_1 := lay_cell LB9 (j := 1) rfl; have cB9_3 := lay_cell LB9 (j := 3) rfl; clear LB9) | (clear TG11; have hRl := (RB9).lt (Nat.zero_lt_succ _); refine storesI (B := B9) rfl rfl rfl (v := (.agg #[.int .i64 kd, .float .f64 nm, .int .i32 ch, .slice (some b) 1 bc])) rfl RB9 (it_flat kd nm ch (some b) 1 bc) ?_; clear cB9_0; clear cB9_1; clear cB9_3; intro s11 G11 LB9 RQ; have z12 := G11.size; replace E := grown_ext E G11 (by omega); replace cB2_0 := cell_grown (G11) cB2_0 (by show B2 ≠ _; omega); replace cB2_1 := cell_grown (G11) cB2_1 (by show B2 ≠ _; omega); replace cB2_2 := cell_grown (G11) cB2_2 (by show B2 ≠ _; omega); replace HX := grown_ext HX G11 (by omega); replace D4 := cell_grown (G11) D4 (by first | omega | (dsimp only; omega)); replace D5 := cell_grown (G11) D5 (by first | omega | (dsimp only; omega)); replace D6 := cell_grown (G11) D6 (by first | omega | (dsimp only; omega)); clear RB9; have RB9 := RQ; clear RQ hRl; have cB9_0 := lay_cell LB9 (j := 0) rfl; have cB9_1 := lay_cell LB9 (j := 1) rfl; have cB9_3 := lay_cell LB9 (j := 3) rfl; clear LB9))
        refine (cs _ E).mono ?_
        rintro e w74 ⟨rfl, x⟩
        have z13 := x.size
        replace E := E.trans x
        replace cB2_0 := cell_ext (x) cB2_0
        replace cB2_1 := cell_ext (x) cB2_1
        replace cB2_2 := cell_ext (x) cB2_2
        replace HX := HX.trans x
        replace D4 := cell_ext (x) D4
        replace D5 := cell_ext (x) D5
        replace D6 := cell_ext (x) D6
        replace RB9 := RB9.ext x
        replace cB9_0 := cell_ext (x) cB9_0
        replace cB9_1 := cell_ext (x) cB9_1
        replace cB9_3 := cell_ext (x) cB9_3
        clear x
        go_wp2_with fail
        go_ret
        exact ⟨by rw [HR1.out (k + 1) (by omega) (by rw [HEK.out]; exact HZ.out), HEK.out]; rfl, E⟩
      · obtain ⟨b, q, eb, hPC⟩ := HB.out k hlt h2 h1 h3
        obtain ⟨hP, -⟩ := hPC _ E
        have D4 := hP.c0
        have D5 := hP.c1
        have D6 := hP.c2
        have hbb := World.block_lt_of_cell? _ _ D4
        have cs := fun w' hx => (hPC w' hx).2
        clear hPC hP
        obtain ⟨a, ea, hI⟩ := HI.out _ E k hlt
        subst ea
        have D0 := hI.c0
        have D1 := hI.c1
        have D2 := hI.c2
        have D3 := hI.c3
        have hHE := HE1.out k HU.out
        have hHF := HF1.out k
        clear hI
        generalize ZS k = zk at *
        generalize hx : IT k = x at *
        clear hx
        obtain ⟨kd, nm, ch, bA, bn, bc⟩ := x
        simp only [stE] at *
        try simp only at eb h1 h2 h3
        subst h3
        rw [eb] at D3
        have e53 : (kd != fl) = false := by simpa using h1
        have e57 : (kd == 2) = true := by simpa using h2
        have e82 : (kd != 0) = true := by simpa using (show ¬ kd = 0 by omega)
        subst h4
        rw [if_neg (fun h => h.elim (fun h => h h1) (fun h => h.2 rfl)), if_pos h2] at hHE
        rw [h5, decide_eq_true (show ¬ kd = 0 by omega)] at hHF
        have HFK : Hid (FF (k + 1) = true) := hHF
        rw [h5]
        clear hHF h1 h2 h5
        have HEK : Hid (EF (k + 1) = 0) := hHE
        clear hHE
        have TB9 : True := trivial
        have TG15 : True := trivial
        go_wp2_with (first | (clear TB9; refine allocsI rfl rfl ?_; intro B9 w9 bB9 cB9 XB9 LB9 RB9; have z14 := XB9.size; replace E := E.trans XB9; replace cB2_0 := cell_ext (XB9) cB2_0; replace cB2_1 := cell_ext (XB9) cB2_1; replace cB2_2 := cell_ext (XB9) cB2_2; replace HX := HX.trans XB9; replace D4 := cell_ext (XB9) D4; replace D5 := cell_ext (XB9) D5; replace D6 := cell_ext (XB9) D6; have cB9_0 := lay_cell LB9 (j := 0) rfl; have cB9_1 := lay_cell LB9 (j := 1) rfl; have cB9_3 := lay_cell LB9 (j := 3) rfl; clear LB9) | (clear TG15; have hRl := (RB9).lt (Nat.zero_lt_succ _); refine storesI (B := B9) rfl rfl rfl (v := (.agg #[.int .i64 kd, .float .f64 nm, .int .i32 ch, .slice (some b) 1 bc])) rfl RB9 (it_flat kd nm ch (some b) 1 bc) ?_; clear cB9_0; clear cB9_1; clear cB9_3; intro s15 G15 LB9 RQ; have z16 := G15.size; replace E := grown_ext E G15 (by omega); replace cB2_0 := cell_grown (G15) cB2_0 (by show B2 ≠ _; omega); replace cB2_1 := cell_grown (G15) cB2_1 (by show B2 ≠ _; omega); replace cB2_2 := cell_grown (G15) cB2_2 (by show B2 ≠ _; omega); replace HX := grown_ext HX G15 (by omega); replace D4 := cell_grown (G15) D4 (by first | omega | (dsimp only; omega)); replace D5 := cell_grown (G15) D5 (by first | omega | (dsimp only; omega)); replace D6 := cell_grown (G15) D6 (by first | omega | (dsimp only; omega)); clear RB9; have RB9 := RQ; clear RQ hRl; have cB9_0 := lay_cell LB9 (j := 0) rfl; have cB9_1 := lay_cell LB9 (j := 1) rfl; have cB9_3 := lay_cell LB9 (j := 3) rfl; clear LB9))
        refine (cs _ E).mono ?_
        rintro e w74 ⟨rfl, x⟩
        have z17 := x.size
        replace E := E.trans x
        replace cB2_0 := cell_ext (x) cB2_0
        replace cB2_1 := cell_ext (x) cB2_1
        replace cB2_2 := cell_ext (x) cB2_2
        replace HX := HX.trans x
        replace D4 := cell_ext (x) D4
        replace D5 := cell_ext (x) D5
        replace D6 := cell_ext (x) D6
        replace RB9 := RB9.ext x
        replace cB9_0 := cell_ext (x) cB9_0
        replace cB9_1 := cell_ext (x) cB9_1
        replace cB9_3 := cell_ext (x) cB9_3
        clear x
        go_wp2_with fail
        exact ⟨⟨k + 1, by omega, by rw [HFK.out], by go_num, HEK.out, HX⟩, by simp [intOf]; omega⟩
      · obtain ⟨b, q, eb, hPC⟩ := HB.out k hlt h2 h1 h3
        obtain ⟨hP, -⟩ := hPC _ E
        have D4 := hP.c0
        have D5 := hP.c1
        have D6 := hP.c2
        have hbb := World.block_lt_of_cell? _ _ D4
        have cs := fun w' hx => (hPC w' hx).2
        clear hPC hP
        obtain ⟨a, ea, hI⟩ := HI.out _ E k hlt
        subst ea
        have D0 := hI.c0
        have D1 := hI.c1
        have D2 := hI.c2
        have D3 := hI.c3
        have hHE := HE1.out k HU.out
        have hHF := HF1.out k
        clear hI
        generalize ZS k = zk at *
        generalize hx : IT k = x at *
        clear hx
        obtain ⟨kd, nm, ch, bA, bn, bc⟩ := x
        simp only [stE] at *
        try simp only at eb h1 h2 h3
        subst h3
        rw [eb] at D3
        have e53 : (kd != fl) = false := by simpa using h1
        have e57 : (kd == 2) = true := by simpa using h2
        have e82 : (kd != 0) = true := by simpa using (show ¬ kd = 0 by omega)
        subst h4
        rw [if_neg (fun h => h.elim (fun h => h h1) (fun h => h.2 rfl)), if_pos h2] at hHE
        rw [h5, decide_eq_true (show ¬ kd = 0 by omega)] at hHF
        have HFK : Hid (FF (k + 1) = false) := hHF
        rw [h5]
        clear hHF h1 h2 h5
        have HEK : Hid (EF (k + 1) = 0) := hHE
        clear hHE
        have TB9 : True := trivial
        have TG19 : True := trivial
        go_wp2_with (first | (clear TB9; refine allocsI rfl rfl ?_; intro B9 w9 bB9 cB9 XB9 LB9 RB9; have z18 := XB9.size; replace E := E.trans XB9; replace cB2_0 := cell_ext (XB9) cB2_0; replace cB2_1 := cell_ext (XB9) cB2_1; replace cB2_2 := cell_ext (XB9) cB2_2; replace HX := HX.trans XB9; replace D4 := cell_ext (XB9) D4; replace D5 := cell_ext (XB9) D5; replace D6 := cell_ext (XB9) D6; have cB9_0 := lay_cell LB9 (j := 0) rfl; have cB9_1 := lay_cell LB9 (j := 1) rfl; have cB9_3 := lay_cell LB9 (j := 3) rfl; clear LB9) | (clear TG19; have hRl := (RB9).lt (Nat.zero_lt_succ _); refine storesI (B := B9) rfl rfl rfl (v := (.agg #[.int .i64 kd, .float .f64 nm, .int .i32 ch, .slice (some b) 1 bc])) rfl RB9 (it_flat kd nm ch (some b) 1 bc) ?_; clear cB9_0; clear cB9_1; clear cB9_3; intro s19 G19 LB9 RQ; have z20 := G19.size; replace E := grown_ext E G19 (by omega); replace cB2_0 := cell_grown (G19) cB2_0 (by show B2 ≠ _; omega); replace cB2_1 := cell_grown (G19) cB2_1 (by show B2 ≠ _; omega); replace cB2_2 := cell_grown (G19) cB2_2 (by show B2 ≠ _; omega); replace HX := grown_ext HX G19 (by omega); replace D4 := cell_grown (G19) D4 (by first | omega | (dsimp only; omega)); replace D5 := cell_grown (G19) D5 (by first | omega | (dsimp only; omega)); replace D6 := cell_grown (G19) D6 (by first | omega | (dsimp only; omega)); clear RB9; have RB9 := RQ; clear RQ hRl; have cB9_0 := lay_cell LB9 (j := 0) rfl; have cB9_1 := lay_cell LB9 (j := 1) rfl; have cB9_3 := lay_cell LB9 (j := 3) rfl; clear LB9))
        refine (cs _ E).mono ?_
        rintro e w74 ⟨rfl, x⟩
        have z21 := x.size
        replace E := E.trans x
        replace cB2_0 := cell_ext (x) cB2_0
        replace cB2_1 := cell_ext (x) cB2_1
        replace cB2_2 := cell_ext (x) cB2_2
        replace HX := HX.trans x
        replace D4 := cell_ext (x) D4
        replace D5 := cell_ext (x) D5
        replace D6 := cell_ext (x) D6
        replace RB9 := RB9.ext x
        replace cB9_0 := cell_ext (x) cB9_0
        replace cB9_1 := cell_ext (x) cB9_1
        replace cB9_3 := cell_ext (x) cB9_3
        clear x
        go_wp2_with fail
        exact ⟨⟨k + 1, by omega, by rw [HFK.out], by go_num, HEK.out, HX⟩, by simp [intOf]; omega⟩
      · obtain ⟨a, ea, hI⟩ := HI.out _ E k hlt
        subst ea
        have D0 := hI.c0
        have D1 := hI.c1
        have D2 := hI.c2
        have D3 := hI.c3
        have hHE := HE1.out k HU.out
        have hHF := HF1.out k
        clear hI
        generalize ZS k = zk at *
        generalize hx : IT k = x at *
        clear hx
        obtain ⟨kd, nm, ch, bA, bn, bc⟩ := x
        simp only [stE] at *
        have e53 : (kd != fl) = false := by simpa using h1
        have e57 : (kd == 2) = false := by simpa using h2
        rw [if_neg (fun h => h.elim (fun h => h h1) (fun h => h2 h.1)), if_neg h2] at hHE
        rw [h5, Bool.false_and] at hHF
        have HFK : Hid (FF (k + 1) = false) := hHF
        rw [h5]
        clear hHF h1 h2 h5
        have HEK : Hid (EF (k + 1) = 0) := hHE
        clear hHE
        have TB9 : True := trivial
        have TG23 : True := trivial
        go_wp2_with (first | (clear TB9; refine allocsI rfl rfl ?_; intro B9 w9 bB9 cB9 XB9 LB9 RB9; have z22 := XB9.size; replace E := E.trans XB9; replace cB2_0 := cell_ext (XB9) cB2_0; replace cB2_1 := cell_ext (XB9) cB2_1; replace cB2_2 := cell_ext (XB9) cB2_2; replace HX := HX.trans XB9; have cB9_0 := lay_cell LB9 (j := 0) rfl; have cB9_1 := lay_cell LB9 (j := 1) rfl; have cB9_3 := lay_cell LB9 (j := 3) rfl; clear LB9) | (clear TG23; have hRl := (RB9).lt (Nat.zero_lt_succ _); refine storesI (B := B9) rfl rfl rfl (v := (.agg #[.int .i64 kd, .float .f64 nm, .int .i32 ch, .slice bA bn bc])) rfl RB9 (it_flat kd nm ch bA bn bc) ?_; clear cB9_0; clear cB9_1; clear cB9_3; intro s23 G23 LB9 RQ; have z24 := G23.size; replace E := grown_ext E G23 (by omega); replace cB2_0 := cell_grown (G23) cB2_0 (by show B2 ≠ _; omega); replace cB2_1 := cell_grown (G23) cB2_1 (by show B2 ≠ _; omega); replace cB2_2 := cell_grown (G23) cB2_2 (by show B2 ≠ _; omega); replace HX := grown_ext HX G23 (by omega); clear RB9; have RB9 := RQ; clear RQ hRl; have cB9_0 := lay_cell LB9 (j := 0) rfl; have cB9_1 := lay_cell LB9 (j := 1) rfl; have cB9_3 := lay_cell LB9 (j := 3) rfl; clear LB9))
        exact ⟨⟨k + 1, by omega, by rw [HFK.out], by go_num, HEK.out, HX⟩, by simp [intOf]; omega⟩
      · obtain ⟨a, ea, hI⟩ := HI.out _ E k hlt
        subst ea
        have D0 := hI.c0
        have D1 := hI.c1
        have D2 := hI.c2
        have D3 := hI.c3
        have hHE := HE1.out k HU.out
        have hHF := HF1.out k
        clear hI
        generalize ZS k = zk at *
        generalize hx : IT k = x at *
        clear hx
        obtain ⟨kd, nm, ch, bA, bn, bc⟩ := x
        simp only [stE] at *
        have e53 : (kd != fl) = false := by simpa using h1
        have e57 : (kd == 2) = false := by simpa using h2
        rw [if_neg (fun h => h.elim (fun h => h h1) (fun h => h2 h.1)), if_neg h2] at hHE
        have e82 : (kd != 0) = true := by simpa using h6
        rw [h5, decide_eq_true h6] at hHF
        have HFK : Hid (FF (k + 1) = true) := hHF
        rw [h5]
        clear hHF h1 h2 h5 h6
        have HEK : Hid (EF (k + 1) = 0) := hHE
        clear hHE
        have TB9 : True := trivial
        have TG26 : True := trivial
        go_wp2_with (first | (clear TB9; refine allocsI rfl rfl ?_; intro B9 w9 bB9 cB9 XB9 LB9 RB9; have z25 := XB9.size; replace E := E.trans XB9; replace cB2_0 := cell_ext (XB9) cB2_0; replace cB2_1 := cell_ext (XB9) cB2_1; replace cB2_2 := cell_ext (XB9) cB2_2; replace HX := HX.trans XB9; have cB9_0 := lay_cell LB9 (j := 0) rfl; have cB9_1 := lay_cell LB9 (j := 1) rfl; have cB9_3 := lay_cell LB9 (j := 3) rfl; clear LB9) | (clear TG26; have hRl := (RB9).lt (Nat.zero_lt_succ _); refine storesI (B := B9) rfl rfl rfl (v := (.agg #[.int .i64 kd, .float .f64 nm, .int .i32 ch, .slice bA bn bc])) rfl RB9 (it_flat kd nm ch bA bn bc) ?_; clear cB9_0; clear cB9_1; clear cB9_3; intro s26 G26 LB9 RQ; have z27 := G26.size; replace E := grown_ext E G26 (by omega); replace cB2_0 := cell_grown (G26) cB2_0 (by show B2 ≠ _; omega); replace cB2_1 := cell_grown (G26) cB2_1 (by show B2 ≠ _; omega); replace cB2_2 := cell_grown (G26) cB2_2 (by show B2 ≠ _; omega); replace HX := grown_ext HX G26 (by omega); clear RB9; have RB9 := RQ; clear RQ hRl; have cB9_0 := lay_cell LB9 (j := 0) rfl; have cB9_1 := lay_cell LB9 (j := 1) rfl; have cB9_3 := lay_cell LB9 (j := 3) rfl; clear LB9))
        exact ⟨⟨k + 1, by omega, by rw [HFK.out], by go_num, HEK.out, HX⟩, by simp [intOf]; omega⟩
      · obtain ⟨a, ea, hI⟩ := HI.out _ E k hlt
        subst ea
        have D0 := hI.c0
        have D1 := hI.c1
        have D2 := hI.c2
        have D3 := hI.c3
        have hHE := HE1.out k HU.out
        have hHF := HF1.out k
        clear hI
        generalize ZS k = zk at *
        generalize hx : IT k = x at *
        clear hx
        obtain ⟨kd, nm, ch, bA, bn, bc⟩ := x
        simp only [stE] at *
        have e53 : (kd != fl) = false := by simpa using h1
        have e57 : (kd == 2) = false := by simpa using h2
        rw [if_neg (fun h => h.elim (fun h => h h1) (fun h => h2 h.1)), if_neg h2] at hHE
        have e82 : (kd != 0) = false := by simpa using h6
        rw [h5, decide_eq_false (fun h => h h6), Bool.true_and, Bool.false_or] at hHF
        have HFK : Hid (FF (k + 1) = decide (fin nm)) := hHF
        rw [h5]
        have cfx := fun w => cf nm w
        generalize decide (fin nm) = fb at *
        clear hHF h1 h2 h5 h6
        have HEK : Hid (EF (k + 1) = 0) := hHE
        clear hHE
        have TB9 : True := trivial
        have TG29 : True := trivial
        go_wp2_with (first | (clear TB9; refine allocsI rfl rfl ?_; intro B9 w9 bB9 cB9 XB9 LB9 RB9; have z28 := XB9.size; replace E := E.trans XB9; replace cB2_0 := cell_ext (XB9) cB2_0; replace cB2_1 := cell_ext (XB9) cB2_1; replace cB2_2 := cell_ext (XB9) cB2_2; replace HX := HX.trans XB9; have cB9_0 := lay_cell LB9 (j := 0) rfl; have cB9_1 := lay_cell LB9 (j := 1) rfl; have cB9_3 := lay_cell LB9 (j := 3) rfl; clear LB9) | (clear TG29; have hRl := (RB9).lt (Nat.zero_lt_succ _); refine storesI (B := B9) rfl rfl rfl (v := (.agg #[.int .i64 kd, .float .f64 nm, .int .i32 ch, .slice bA bn bc])) rfl RB9 (it_flat kd nm ch bA bn bc) ?_; clear cB9_0; clear cB9_1; clear cB9_3; intro s29 G29 LB9 RQ; have z30 := G29.size; replace E := grown_ext E G29 (by omega); replace cB2_0 := cell_grown (G29) cB2_0 (by show B2 ≠ _; omega); replace cB2_1 := cell_grown (G29) cB2_1 (by show B2 ≠ _; omega); replace cB2_2 := cell_grown (G29) cB2_2 (by show B2 ≠ _; omega); replace HX := grown_ext HX G29 (by omega); clear RB9; have RB9 := RQ; clear RQ hRl; have cB9_0 := lay_cell LB9 (j := 0) rfl; have cB9_1 := lay_cell LB9 (j := 1) rfl; have cB9_3 := lay_cell LB9 (j := 3) rfl; clear LB9 RB9))
        refine (cfx _).mono ?_
        rintro e w86 ⟨rfl, x⟩
        have z31 := x.size
        replace E := E.trans x
        replace cB2_0 := cell_ext (x) cB2_0
        replace cB2_1 := cell_ext (x) cB2_1
        replace cB2_2 := cell_ext (x) cB2_2
        replace HX := HX.trans x
        replace cB9_0 := cell_ext (x) cB9_0
        replace cB9_1 := cell_ext (x) cB9_1
        replace cB9_3 := cell_ext (x) cB9_3
        clear x
        go_wp2_with fail
        exact ⟨⟨k + 1, by omega, by rw [HFK.out], by go_num, HEK.out, HX⟩, by simp [intOf]; omega⟩
      · have hkm : k = m := by omega
        rw [hkm] at HU ⊢
        have hR := HR2.out HU.out
        rw [hR.1]
        have HRR := Lib.hid hR.2
        clear hkm hR HU
        go_wp2_with fail
        go_ret
        exact ⟨by rw [HRR.out]; rfl, E⟩
end
end Go.Proofs.Ytidnikndjhfgaaa
