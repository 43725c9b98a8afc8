/- relate.One, rebusref11.One, relate.table, relate.at. -/
import Derived.Test.YtdfhefnjoekgbaaRb
namespace Go.Proofs.Ytdfhefnjoekgbaa
open Go.ChangeShapes Go.WideShapes Go.RowKit Bv Fl
theorem c_le {a b : Nat} (ha : nn a) (hb : nn b) : (FloatKind.f64.format.order a b == some .lt || FloatKind.f64.format.order a b == some .eq) = decide (key a ≤ key b) := by
  rw [c_lt ha hb, c_eq ha hb, Bool.eq_iff_iff]; simp; omega
theorem c_ge {a b : Nat} (ha : nn a) (hb : nn b) : (FloatKind.f64.format.order a b == some .gt || FloatKind.f64.format.order a b == some .eq) = decide (key b ≤ key a) := by
  rw [c_gt ha hb, c_eq ha hb, Bool.eq_iff_iff]; simp; omega
/-- does a relation hold of two numbers? -/
def relB (f : Int) (a b : Nat) : Bool := if f = 11 then decide (key a < key b) else if f = 12 then decide (key a ≤ key b) else if f = 13 then decide (key a = key b) else if f = 14 then decide (key b ≤ key a) else if f = 15 then decide (key b < key a) else if f = 16 then !decide (key a = key b) else false
def okR (f : Int) : Bool := decide (11 ≤ f ∧ f ≤ 16)
theorem okR_cases (f : Int) : f = 11 ∨ f = 12 ∨ f = 13 ∨ f = 14 ∨ f = 15 ∨ f = 16 ∨ okR f = false := by
  unfold okR
  by_cases h : 11 ≤ f ∧ f ≤ 16
  · omega
  · right; right; right; right; right; right; exact decide_eq_false h
structure NotR (f : Int) : Prop where
  e1 : (f == 11) = false
  e2 : (f == 12) = false
  e3 : (f == 13) = false
  e4 : (f == 14) = false
  e5 : (f == 15) = false
  e6 : (f == 16) = false
theorem okR_not {f : Int} (h : okR f = false) : NotR f := by
  have := of_decide_eq_false h
  refine ⟨?_, ?_, ?_, ?_, ?_, ?_⟩ <;> (simp; omega)
theorem relB_not {f : Int} (h : okR f = false) (a b : Nat) : relB f a b = false := by
  have := of_decide_eq_false h
  unfold relB
  rw [if_neg (by omega), if_neg (by omega), if_neg (by omega), if_neg (by omega), if_neg (by omega), if_neg (by omega)]
set_option maxHeartbeats 1000000
theorem ro_any (f : Int) (a b : Nat) (ha : nn a) (hb : nn b) (w : World) : Calls Try.prog 47 #[.int .i64 f, .float .f64 a, .float .f64 b] w fun e w' => e = .returned (.tuple #[.bool (relB f a b), .int .i64 (if okR f then 0 else 1)]) ∧ w = w' := by
  have C1 := Lib.hid (c_lt ha hb)
  have C2 := Lib.hid (c_le ha hb)
  have C3 := Lib.hid (c_eq ha hb)
  have C4 := Lib.hid (c_ge ha hb)
  have C5 := Lib.hid (c_gt ha hb)
  have C6 := Lib.hid (c_ne ha hb)
  have D1 := Lib.hid (c_lt hb ha)
  have C7 := Lib.hid (show (FloatKind.f64.format.order b a == some .lt || FloatKind.f64.format.order a b == some .eq) = decide (key b ≤ key a) by rw [c_lt hb ha, c_eq ha hb, Bool.eq_iff_iff]; simp; omega)
  have D6 := Lib.hid (show (!(FloatKind.f64.format.order a b == some .eq)) = !decide (key a = key b) by rw [c_eq ha hb])
  clear ha hb
  rcases okR_cases f with rfl | rfl | rfl | rfl | rfl | rfl | h
  · go_enter Try.func47, Try.ntmps47
    go_wp2
    go_ret2
    exact ⟨by rw [C1.out]; rfl, rfl⟩
  · go_enter Try.func47, Try.ntmps47
    go_wp2
    go_ret2
    exact ⟨by rw [C2.out]; rfl, rfl⟩
  · go_enter Try.func47, Try.ntmps47
    go_wp2
    go_ret2
    exact ⟨by rw [C3.out]; rfl, rfl⟩
  · go_enter Try.func47, Try.ntmps47
    go_wp2
    go_ret2
    exact ⟨by rw [C4.out]; rfl, rfl⟩
  · go_enter Try.func47, Try.ntmps47
    go_wp2
    go_ret2
    exact ⟨by rw [C5.out]; rfl, rfl⟩
  · go_enter Try.func47, Try.ntmps47
    go_wp2
    go_ret2
    exact ⟨by rw [C6.out]; rfl, rfl⟩
  · rw [relB_not h, h]
    obtain ⟨e1, e2, e3, e4, e5, e6⟩ := okR_not h
    clear h
    go_enter Try.func47, Try.ntmps47
    go_wp2
    go_ret2
    exact ⟨rfl, rfl⟩
theorem rro_any (f : Int) (a b : Nat) (ha : nn a) (hb : nn b) (w : World) : Calls Try.prog 48 #[.int .i64 f, .float .f64 a, .float .f64 b] w fun e w' => e = .returned (.tuple #[.bool (relB f a b), .int .i64 (if okR f then 0 else 1)]) ∧ w = w' := by
  have C1 := Lib.hid (c_lt ha hb)
  have C2 := Lib.hid (c_le ha hb)
  have C3 := Lib.hid (c_eq ha hb)
  have C4 := Lib.hid (c_ge ha hb)
  have C5 := Lib.hid (c_gt ha hb)
  have C6 := Lib.hid (c_ne ha hb)
  have D1 := Lib.hid (c_lt hb ha)
  have C7 := Lib.hid (show (FloatKind.f64.format.order b a == some .lt || FloatKind.f64.format.order a b == some .eq) = decide (key b ≤ key a) by rw [c_lt hb ha, c_eq ha hb, Bool.eq_iff_iff]; simp; omega)
  have D6 := Lib.hid (show (!(FloatKind.f64.format.order a b == some .eq)) = !decide (key a = key b) by rw [c_eq ha hb])
  clear ha hb
  rcases okR_cases f with rfl | rfl | rfl | rfl | rfl | rfl | h
  · go_enter Try.func48, Try.ntmps48
    go_wp2
    go_ret2
    exact ⟨by rw [C1.out]; rfl, rfl⟩
  · have HC := Lib.hid (show relB 12 a b = (FloatKind.f64.format.order a b == some .lt || FloatKind.f64.format.order a b == some .eq) from C2.out.symm)
    cases h1 : (FloatKind.f64.format.order a b == some .lt) <;> cases h2 : (FloatKind.f64.format.order a b == some .eq)
    all_goals
      rw [h1, h2] at HC
      go_enter Try.func48, Try.ntmps48
      go_wp2
      go_ret2
      exact ⟨by rw [HC.out]; rfl, rfl⟩
  · go_enter Try.func48, Try.ntmps48
    go_wp2
    go_ret2
    exact ⟨by rw [C3.out]; rfl, rfl⟩
  · have HC := Lib.hid (show relB 14 a b = (FloatKind.f64.format.order b a == some .lt || FloatKind.f64.format.order a b == some .eq) from C7.out.symm)
    cases h1 : (FloatKind.f64.format.order b a == some .lt) <;> cases h2 : (FloatKind.f64.format.order a b == some .eq)
    all_goals
      rw [h1, h2] at HC
      go_enter Try.func48, Try.ntmps48
      go_wp2
      go_ret2
      exact ⟨by rw [HC.out]; rfl, rfl⟩
  · go_enter Try.func48, Try.ntmps48
    go_wp2
    go_ret2
    exact ⟨by rw [D1.out]; rfl, rfl⟩
  · go_enter Try.func48, Try.ntmps48
    go_wp2
    go_ret2
    exact ⟨by rw [D6.out]; rfl, rfl⟩
  · rw [relB_not h, h]
    obtain ⟨e1, e2, e3, e4, e5, e6⟩ := okR_not h
    clear h
    go_enter Try.func48, Try.ntmps48
    go_wp2
    go_ret2
    exact ⟨rfl, rfl⟩
/-- a relation of truths as a table -/
def tblR (f : Int) : Nat := (relB f 0 0).toNat + 2 * (relB f 0 4607182418800017408).toNat + 4 * (relB f 4607182418800017408 0).toNat + 8 * (relB f 4607182418800017408 4607182418800017408).toNat
theorem tblR_lt (f : Int) : tblR f < 256 := by
  unfold tblR
  cases relB f 0 0 <;> cases relB f 0 4607182418800017408 <;> cases relB f 4607182418800017408 0 <;> cases relB f 4607182418800017408 4607182418800017408 <;> decide
theorem ttb_rel (f : Int) (x y : Bool) : ttb (tblR f) x y = relB f (bitW x) (bitW y) := by
  unfold ttb tblR
  have e0 : bitW false = 0 := rfl
  have e1 : bitW true = 4607182418800017408 := rfl
  cases x <;> cases y
  all_goals
    simp only [e0, e1]
    generalize relB f 0 0 = p
    generalize relB f 0 4607182418800017408 = q
    generalize relB f 4607182418800017408 0 = r
    generalize relB f 4607182418800017408 4607182418800017408 = s
    cases p <;> cases q <;> cases r <;> cases s <;> rfl
/-- which place goes with a place -/
def ixN (n k : Nat) : Nat := if n = 1 then 0 else k
theorem at_r (v : Value) (d : VD) (k : Nat) (w : World) (h : IsVec w v d) : Calls Try.prog 94 #[v, .int .i64 (k : Int)] w fun e w' => e = .returned (.int .i64 (ixN d.len k : Int)) ∧ Ext w w' := by
  have hF := h.flat
  have cl : ∀ w', Ext w w' → Calls Try.prog 30 #[v] w' fun e w2 => e = .returned (.int .i64 (d.len : Int)) ∧ Ext w' w2 := fun w' hx => vlen_any v d w' (h.ext hx)
  clear h
  have E := Ext.refl w
  by_cases h1 : d.len = 1
  · rw [show ixN d.len k = 0 from if_pos h1]
    rw [h1] at cl
    go_enter Try.func94, Try.ntmps94
    have TB2 : True := trivial
    go_wp2_with (first | (clear TB2; refine boxsV (v := v) rfl rfl rfl hF ?_; intro B2 w2 bB2 cB2 XB2 LB2 RB2; have z1 := XB2.size; replace E := E.trans XB2; clear RB2) | (refine loadsV (B := B2) (by rfl) rfl rfl LB2 ?_))
    clear LB2
    refine (cl _ E).mono ?_
    rintro e w6 ⟨rfl, x⟩
    have z2 := x.size
    replace E := E.trans x
    clear x
    go_wp2_with fail
    go_ret
    exact ⟨rfl, E⟩
  · rw [show ixN d.len k = k from if_neg h1]
    have h2 : ((d.len : Int) == 1) = false := by simp; omega
    clear h1
    generalize (d.len : Int) = m at *
    go_enter Try.func94, Try.ntmps94
    have TB2 : True := trivial
    go_wp2_with (first | (clear TB2; refine boxsV (v := v) rfl rfl rfl hF ?_; intro B2 w2 bB2 cB2 XB2 LB2 RB2; have z1 := XB2.size; replace E := E.trans XB2; clear RB2) | (refine loadsV (B := B2) (by rfl) rfl rfl LB2 ?_))
    clear LB2
    refine (cl _ E).mono ?_
    rintro e w6 ⟨rfl, x⟩
    have z2 := x.size
    replace E := E.trans x
    clear x
    go_wp2_with fail
    go_ret
    exact ⟨rfl, E⟩
theorem rtable_any (f : Int) (w : World) : Calls Try.prog 80 #[.int .i64 f] w fun e w' => e = .returned (.int .u8 (tblR f : Int)) ∧ w = w' := by
  have c := fun a b ha hb w => ro_any f a b ha hb w
  have c00 := c 0 0 (by decide) (by decide)
  have c01 := c 0 4607182418800017408 (by decide) (by decide)
  have c10 := c 4607182418800017408 0 (by decide) (by decide)
  have c11 := c 4607182418800017408 4607182418800017408 (by decide) (by decide)
  unfold tblR
  clear c
  generalize relB f 0 0 = r0 at *
  generalize relB f 0 4607182418800017408 = r1 at *
  generalize relB f 4607182418800017408 0 = r2 at *
  generalize relB f 4607182418800017408 4607182418800017408 = r3 at *
  generalize (if okR f then (0 : Int) else 1) = k at *
  go_enter Try.func80, Try.ntmps80
  go_wp2_with fail
  go_loopw [3, 7] (fun t i wr => w = wr ∧ ((i = .int .i64 0 ∧ t = .int .u8 0) ∨ (i = .int .i64 1 ∧ t = .int .u8 (r0.toNat : Int)) ∨ (i = .int .i64 2 ∧ t = .int .u8 (r0.toNat + 2 * r1.toNat : Nat)) ∨ (i = .int .i64 3 ∧ t = .int .u8 (r0.toNat + 2 * r1.toNat + 4 * r2.toNat : Nat)) ∨ (i = .int .i64 4 ∧ t = .int .u8 (r0.toNat + 2 * r1.toNat + 4 * r2.toNat + 8 * r3.toNat : Nat)))) (fun _ i _ => 4 - (intOf i).toNat)
  case atStart => exact ⟨rfl, .inl ⟨rfl, rfl⟩⟩
  case round =>
    obtain ⟨rfl, hrel⟩ := hrel
    rcases hrel with ⟨rfl, rfl⟩ | ⟨rfl, rfl⟩ | ⟨rfl, rfl⟩ | ⟨rfl, rfl⟩ | ⟨rfl, rfl⟩
    · go_wp2_with fail
      refine (c00 _).mono ?_
      rintro e w1 ⟨rfl, rfl⟩
      cases r0
      all_goals
        go_wp2
        exact ⟨⟨by trivial, .inr <| .inl ⟨rfl, rfl⟩⟩, by simp [intOf]⟩
    · go_wp2_with fail
      refine (c01 _).mono ?_
      rintro e w1 ⟨rfl, rfl⟩
      cases r0 <;> cases r1
      all_goals
        go_wp2
        exact ⟨⟨by trivial, .inr <| .inr <| .inl ⟨rfl, rfl⟩⟩, by simp [intOf]⟩
    · go_wp2_with fail
      refine (c10 _).mono ?_
      rintro e w1 ⟨rfl, rfl⟩
      cases r0 <;> cases r1 <;> cases r2
      all_goals
        go_wp2
        exact ⟨⟨by trivial, .inr <| .inr <| .inr <| .inl ⟨rfl, rfl⟩⟩, by simp [intOf]⟩
    · go_wp2_with fail
      refine (c11 _).mono ?_
      rintro e w1 ⟨rfl, rfl⟩
      cases r0 <;> cases r1 <;> cases r2 <;> cases r3
      all_goals
        go_wp2
        exact ⟨⟨by trivial, .inr <| .inr <| .inr <| .inr <| ⟨rfl, rfl⟩⟩, by simp [intOf]⟩
    · go_wp2
      go_ret
      exact ⟨by rfl, rfl⟩
end Go.Proofs.Ytdfhefnjoekgbaa
