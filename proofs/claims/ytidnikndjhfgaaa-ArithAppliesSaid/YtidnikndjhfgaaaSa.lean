/- arith.One, rebusref10.One, arith.whole, arith.at. -/
import Derived.Test.YtidnikndjhfgaaaQ
import Derived.Test.YtidnikndjhfgaaaQk
import Derived.Test.YtidnikndjhfgaaaNh
namespace Go.Proofs.Ytidnikndjhfgaaa
open Go.ChangeShapes Go.WideShapes Go.RowKit Bv Fl
theorem fin_of_key' {a b : Nat} (hb : fin b) (h : key a = key b) : fin a := by
  have h1 : rung a = rung b := by
    unfold key at h
    cases h2 : neg a <;> cases h3 : neg b <;> simp [h2, h3] at h <;> omega
  unfold fin at *
  omega
/-- what the float's way of a whole result tells -/
theorem fi_way' {r : Nat} {n : Int} (hr : r < 18446744073709551616) (hn : G n) (hk : key r = key (fi n)) : dn r = fi n ∧ de r = 0 := by
  have hf := fin_of_key' (fi_fin hn.1 hn.2) hk
  rw [dn_of hf, show de r = 0 from if_pos hf]
  refine ⟨?_, rfl⟩
  rw [norm_key hr (fi_lt64 n) hk, norm_tidy (fi_tidy hn.1 hn.2)]
/-- what a function makes of two numbers; its error -/
def valA (f : Int) (a b : Nat) : Nat := if f = 1 then dn (fadd a b) else if f = 2 then dn (fsub a b) else if f = 3 then dn (fmul a b) else if f = 4 then dvN a b else if f = 5 then fmax a b else if f = 6 then fmin a b else if f = 7 then rsN a b else if f = 8 then pwN a b else 0
def errA (f : Int) (a b : Nat) : Int := if f = 1 then de (fadd a b) else if f = 2 then de (fsub a b) else if f = 3 then de (fmul a b) else if f = 4 then dvE a b else if f = 5 then 0 else if f = 6 then 0 else if f = 7 then rsE a b else if f = 8 then pwE a b else 1
def okA (f : Int) : Bool := decide (1 ≤ f ∧ f ≤ 8)
structure NotA (f : Int) : Prop where
  e1 : (f == 1) = false
  e2 : (f == 2) = false
  e3 : (f == 3) = false
  e4 : (f == 4) = false
  e5 : (f == 5) = false
  e6 : (f == 6) = false
  e7 : (f == 7) = false
  e8 : (f == 8) = false
theorem okA_cases (f : Int) : f = 1 ∨ f = 2 ∨ f = 3 ∨ f = 4 ∨ f = 5 ∨ f = 6 ∨ f = 7 ∨ f = 8 ∨ okA f = false := by
  unfold okA
  by_cases h : 1 ≤ f ∧ f ≤ 8
  · omega
  · right; right; right; right; right; right; right; right; exact decide_eq_false h
theorem okA_not {f : Int} (h : okA f = false) : NotA f := by
  have := of_decide_eq_false h
  refine ⟨?_, ?_, ?_, ?_, ?_, ?_, ?_, ?_⟩ <;> (simp; omega)
theorem valA_not {f : Int} (h : okA f = false) (a b : Nat) : valA f a b = 0 ∧ errA f a b = 1 := by
  have := of_decide_eq_false h
  unfold valA errA
  constructor <;> rw [if_neg (by omega), if_neg (by omega), if_neg (by omega), if_neg (by omega), if_neg (by omega), if_neg (by omega), if_neg (by omega), if_neg (by omega)]
set_option maxHeartbeats 1000000
theorem ao_any (f : Int) (a b : Nat) (ha : tidy a) (hb : tidy b) (w : World) : Calls Try.prog 33 #[.int .i64 f, .float .f64 a, .float .f64 b] w fun e w' => e = .returned (.tuple #[.float .f64 (valA f a b), .int .i64 (errA f a b)]) ∧ w = w' := by
  rcases okA_cases f with rfl | rfl | rfl | rfl | rfl | rfl | rfl | rfl | h
  · have c := fun w => add_any a b ha.1 hb.1 w
    clear ha hb
    show Calls Try.prog 33 #[.int .i64 1, .float .f64 a, .float .f64 b] w fun e w' => e = .returned (.tuple #[.float .f64 (dn (fadd a b)), .int .i64 (de (fadd a b))]) ∧ w = w'
    go_enter Try.func33, Try.ntmps33
    go_wp2_with fail
    refine (c _).mono ?_
    rintro e w13 ⟨rfl, rfl⟩
    go_wp2_with fail
    go_ret2
    exact ⟨rfl, rfl⟩
  · have c := fun w => sub_any a b ha.1 hb.1 w
    clear ha hb
    show Calls Try.prog 33 #[.int .i64 2, .float .f64 a, .float .f64 b] w fun e w' => e = .returned (.tuple #[.float .f64 (dn (fsub a b)), .int .i64 (de (fsub a b))]) ∧ w = w'
    go_enter Try.func33, Try.ntmps33
    go_wp2_with fail
    refine (c _).mono ?_
    rintro e w20 ⟨rfl, rfl⟩
    go_wp2_with fail
    go_ret2
    exact ⟨rfl, rfl⟩
  · have c := fun w => mul_any a b ha.1 hb.1 w
    clear ha hb
    show Calls Try.prog 33 #[.int .i64 3, .float .f64 a, .float .f64 b] w fun e w' => e = .returned (.tuple #[.float .f64 (dn (fmul a b)), .int .i64 (de (fmul a b))]) ∧ w = w'
    go_enter Try.func33, Try.ntmps33
    go_wp2_with fail
    refine (c _).mono ?_
    rintro e w27 ⟨rfl, rfl⟩
    go_wp2_with fail
    go_ret2
    exact ⟨rfl, rfl⟩
  · have c := fun w => div_any a b ha.1 hb.1 w
    clear ha hb
    show Calls Try.prog 33 #[.int .i64 4, .float .f64 a, .float .f64 b] w fun e w' => e = .returned (.tuple #[.float .f64 (dvN a b), .int .i64 (dvE a b)]) ∧ w = w'
    go_enter Try.func33, Try.ntmps33
    go_wp2_with fail
    refine (c _).mono ?_
    rintro e w34 ⟨rfl, rfl⟩
    go_wp2_with fail
    go_ret2
    exact ⟨rfl, rfl⟩
  · have c := fun w => max_any a b ha.1.nn hb.1.nn w
    clear ha hb
    show Calls Try.prog 33 #[.int .i64 5, .float .f64 a, .float .f64 b] w fun e w' => e = .returned (.tuple #[.float .f64 (fmax a b), .int .i64 (0)]) ∧ w = w'
    go_enter Try.func33, Try.ntmps33
    go_wp2_with fail
    refine (c _).mono ?_
    rintro e w41 ⟨rfl, rfl⟩
    go_wp2_with fail
    go_ret2
    exact ⟨rfl, rfl⟩
  · have c := fun w => min_any a b ha.1.nn hb.1.nn w
    clear ha hb
    show Calls Try.prog 33 #[.int .i64 6, .float .f64 a, .float .f64 b] w fun e w' => e = .returned (.tuple #[.float .f64 (fmin a b), .int .i64 (0)]) ∧ w = w'
    go_enter Try.func33, Try.ntmps33
    go_wp2_with fail
    refine (c _).mono ?_
    rintro e w46 ⟨rfl, rfl⟩
    go_wp2_with fail
    go_ret2
    exact ⟨rfl, rfl⟩
  · have c := fun w => rest_any a b w
    clear ha hb
    show Calls Try.prog 33 #[.int .i64 7, .float .f64 a, .float .f64 b] w fun e w' => e = .returned (.tuple #[.float .f64 (rsN a b), .int .i64 (rsE a b)]) ∧ w = w'
    go_enter Try.func33, Try.ntmps33
    go_wp2_with fail
    refine (c _).mono ?_
    rintro e w51 ⟨rfl, rfl⟩
    go_wp2_with fail
    go_ret2
    exact ⟨rfl, rfl⟩
  · have c := fun w => power_any a b ha.1.nn ha.2.1 w
    clear ha hb
    show Calls Try.prog 33 #[.int .i64 8, .float .f64 a, .float .f64 b] w fun e w' => e = .returned (.tuple #[.float .f64 (pwN a b), .int .i64 (pwE a b)]) ∧ w = w'
    go_enter Try.func33, Try.ntmps33
    go_wp2_with fail
    refine (c _).mono ?_
    rintro e w58 ⟨rfl, rfl⟩
    go_wp2_with fail
    go_ret2
    exact ⟨rfl, rfl⟩
  · rw [(valA_not h a b).1, (valA_not h a b).2]
    obtain ⟨e1, e2, e3, e4, e5, e6, e7, e8⟩ := okA_not h
    clear h ha hb
    go_enter Try.func33, Try.ntmps33
    go_wp2_with fail
    go_ret2
    exact ⟨rfl, rfl⟩
theorem rao_any (f : Int) (a b : Nat) (ha : tidy a) (hb : tidy b) (w : World) : Calls Try.prog 34 #[.int .i64 f, .float .f64 a, .float .f64 b] w fun e w' => e = .returned (.tuple #[.float .f64 (valA f a b), .int .i64 (errA f a b)]) ∧ w = w' := by
  rcases okA_cases f with rfl | rfl | rfl | rfl | rfl | rfl | rfl | rfl | h
  · have c := fun w => reckon_add a b ha.1 hb.1 w
    clear ha hb
    show Calls Try.prog 34 #[.int .i64 1, .float .f64 a, .float .f64 b] w fun e w' => e = .returned (.tuple #[.float .f64 (dn (fadd a b)), .int .i64 (de (fadd a b))]) ∧ w = w'
    go_enter Try.func34, Try.ntmps34
    go_wp2_with fail
    refine (c _).mono ?_
    rintro e w18 ⟨rfl, rfl⟩
    go_wp2_with fail
    go_ret2
    exact ⟨rfl, rfl⟩
  · have c := fun w => reckon_sub a b ha.1 hb.1 w
    clear ha hb
    show Calls Try.prog 34 #[.int .i64 2, .float .f64 a, .float .f64 b] w fun e w' => e = .returned (.tuple #[.float .f64 (dn (fsub a b)), .int .i64 (de (fsub a b))]) ∧ w = w'
    go_enter Try.func34, Try.ntmps34
    go_wp2_with fail
    refine (c _).mono ?_
    rintro e w18 ⟨rfl, rfl⟩
    go_wp2_with fail
    go_ret2
    exact ⟨rfl, rfl⟩
  · have c := fun w => reckon_mul a b ha.1 hb.1 w
    clear ha hb
    show Calls Try.prog 34 #[.int .i64 3, .float .f64 a, .float .f64 b] w fun e w' => e = .returned (.tuple #[.float .f64 (dn (fmul a b)), .int .i64 (de (fmul a b))]) ∧ w = w'
    go_enter Try.func34, Try.ntmps34
    go_wp2_with fail
    refine (c _).mono ?_
    rintro e w18 ⟨rfl, rfl⟩
    go_wp2_with fail
    go_ret2
    exact ⟨rfl, rfl⟩
  · have c := fun w => reckon_div a b ha.1 hb.1 w
    clear ha hb
    show Calls Try.prog 34 #[.int .i64 4, .float .f64 a, .float .f64 b] w fun e w' => e = .returned (.tuple #[.float .f64 (dvN a b), .int .i64 (dvE a b)]) ∧ w = w'
    go_enter Try.func34, Try.ntmps34
    go_wp2_with fail
    refine (c _).mono ?_
    rintro e w18 ⟨rfl, rfl⟩
    go_wp2_with fail
    go_ret2
    exact ⟨rfl, rfl⟩
  · have c := c_lt ha.1.nn hb.1.nn
    clear ha hb
    show Calls Try.prog 34 #[.int .i64 5, .float .f64 a, .float .f64 b] w fun e w' => e = .returned (.tuple #[.float .f64 (fmax a b), .int .i64 (0)]) ∧ w = w'
    by_cases h : key a < key b
    · rw [decide_eq_true h] at c
      rw [show fmax a b = b from if_pos h]
      clear h
      go_enter Try.func34, Try.ntmps34
      go_wp2_with fail
      go_ret2
      exact ⟨rfl, rfl⟩
    · rw [decide_eq_false h] at c
      rw [show fmax a b = a from if_neg h]
      clear h
      go_enter Try.func34, Try.ntmps34
      go_wp2_with fail
      go_ret2
      exact ⟨rfl, rfl⟩
  · have c := c_gt ha.1.nn hb.1.nn
    clear ha hb
    show Calls Try.prog 34 #[.int .i64 6, .float .f64 a, .float .f64 b] w fun e w' => e = .returned (.tuple #[.float .f64 (fmin a b), .int .i64 (0)]) ∧ w = w'
    by_cases h : key b < key a
    · rw [decide_eq_true h] at c
      rw [show fmin a b = b from if_pos h]
      clear h
      go_enter Try.func34, Try.ntmps34
      go_wp2_with fail
      go_ret2
      exact ⟨rfl, rfl⟩
    · rw [decide_eq_false h] at c
      rw [show fmin a b = a from if_neg h]
      clear h
      go_enter Try.func34, Try.ntmps34
      go_wp2_with fail
      go_ret2
      exact ⟨rfl, rfl⟩
  · have ca := fun w => rwhole_any a w
    have cb := fun w => rwhole_any b w
    clear ha hb
    show Calls Try.prog 34 #[.int .i64 7, .float .f64 a, .float .f64 b] w fun e w' => e = .returned (.tuple #[.float .f64 (rsN a b), .int .i64 (rsE a b)]) ∧ w = w'
    unfold rsN rsE
    by_cases ha : whole a
    · rw [decide_eq_true ha] at ca
      by_cases hb : whole b
      · rw [decide_eq_true hb] at cb
        rw [if_pos ⟨ha, hb⟩, if_pos ⟨ha, hb⟩]
        have ta := trn_le ha.1
        have tb := trn_le hb.1
        have c := fun w => rrest_any (trn a) (trn b) (by omega) (by omega) (by omega) (by omega) w
        have r1 := @run_toInt Try.prog a ha.1 56 2 (by kernel_rfl) (by kernel_rfl)
        have r2 := @run_toInt Try.prog b hb.1 56 2 (by kernel_rfl) (by kernel_rfl)
        clear ha hb ta tb
        go_enter Try.func34, Try.ntmps34
        go_wp2_with fail
        refine (ca _).mono ?_
        rintro e w38 ⟨rfl, rfl⟩
        go_wp2_with fail
        refine (cb _).mono ?_
        rintro e w42 ⟨rfl, rfl⟩
        go_wp2_with fail
        refine (c _).mono ?_
        rintro e w49 ⟨rfl, rfl⟩
        go_wp2_with fail
        go_ret2
        exact ⟨by rfl, rfl⟩
      · rw [decide_eq_false hb] at cb
        rw [if_neg (fun h => hb h.2), if_neg (fun h => hb h.2)]
        clear ha hb
        go_enter Try.func34, Try.ntmps34
        go_wp2_with fail
        refine (ca _).mono ?_
        rintro e w38 ⟨rfl, rfl⟩
        go_wp2_with fail
        refine (cb _).mono ?_
        rintro e w42 ⟨rfl, rfl⟩
        go_wp2_with fail
        go_ret2
        exact ⟨by rfl, rfl⟩
    · rw [decide_eq_false ha] at ca
      rw [if_neg (fun h => ha h.1), if_neg (fun h => ha h.1)]
      clear ha
      go_enter Try.func34, Try.ntmps34
      go_wp2_with fail
      refine (ca _).mono ?_
      rintro e w38 ⟨rfl, rfl⟩
      go_wp2_with fail
      go_ret2
      exact ⟨by rfl, rfl⟩
  · have c := fun w => rpower_any a b ha.1.nn ha.2.1 w
    clear ha hb
    show Calls Try.prog 34 #[.int .i64 8, .float .f64 a, .float .f64 b] w fun e w' => e = .returned (.tuple #[.float .f64 (pwN a b), .int .i64 (pwE a b)]) ∧ w = w'
    go_enter Try.func34, Try.ntmps34
    go_wp2_with fail
    refine (c _).mono ?_
    rintro e w55 ⟨rfl, rfl⟩
    go_wp2_with fail
    go_ret2
    exact ⟨rfl, rfl⟩
  · rw [(valA_not h a b).1, (valA_not h a b).2]
    obtain ⟨e1, e2, e3, e4, e5, e6, e7, e8⟩ := okA_not h
    clear h ha hb
    go_enter Try.func34, Try.ntmps34
    go_wp2_with fail
    go_ret2
    exact ⟨rfl, rfl⟩
/-- the same to whole numbers -/
def whV (f : Int) (a b : Int) : Int := if f = 1 then gN (a + b) else if f = 2 then gN (a - b) else if f = 3 then gN (a * b) else if f = 5 then max a b else if f = 6 then min a b else restI a b
def whO (f : Int) (a b : Int) : Bool := if f = 1 then decide (G (a + b)) else if f = 2 then decide (G (a - b)) else if f = 3 then decide (G (a * b)) else true
theorem whole_r (f : Int) (a b : Int) (ha : G a) (hb : G b) (hf : f = 1 ∨ f = 2 ∨ f = 3 ∨ f = 5 ∨ f = 6 ∨ f = 7) (w : World) : Calls Try.prog 94 #[.int .i64 f, .int .i64 a, .int .i64 b] w fun e w' => e = .returned (.tuple #[.int .i64 (whV f a b), .bool (whO f a b)]) ∧ w = w' := by
  rcases hf with rfl | rfl | rfl | rfl | rfl | rfl
  · have c := fun w => addInt_any a b w
    rw [if_pos ⟨ha, hb⟩, show decide (G a ∧ G b ∧ G (a + b)) = decide (G (a + b)) by simp [ha, hb]] at c
    clear ha hb
    show Calls Try.prog 94 #[.int .i64 1, .int .i64 a, .int .i64 b] w fun e w' => e = .returned (.tuple #[.int .i64 (gN (a + b)), .bool (decide (G (a + b)))]) ∧ w = w'
    go_enter Try.func94, Try.ntmps94
    go_wp2_with fail
    refine (c _).mono ?_
    rintro e w13 ⟨rfl, rfl⟩
    go_wp2_with fail
    go_ret2
    exact ⟨rfl, rfl⟩
  · have c := fun w => subInt_any a b w
    rw [if_pos ⟨ha, hb⟩, show decide (G a ∧ G b ∧ G (a - b)) = decide (G (a - b)) by simp [ha, hb]] at c
    clear ha hb
    show Calls Try.prog 94 #[.int .i64 2, .int .i64 a, .int .i64 b] w fun e w' => e = .returned (.tuple #[.int .i64 (gN (a - b)), .bool (decide (G (a - b)))]) ∧ w = w'
    go_enter Try.func94, Try.ntmps94
    go_wp2_with fail
    refine (c _).mono ?_
    rintro e w20 ⟨rfl, rfl⟩
    go_wp2_with fail
    go_ret2
    exact ⟨rfl, rfl⟩
  · have c := fun w => mulInt_any a b w
    rw [if_pos ⟨ha, hb⟩, show decide (G a ∧ G b ∧ G (a * b)) = decide (G (a * b)) by simp [ha, hb]] at c
    clear ha hb
    show Calls Try.prog 94 #[.int .i64 3, .int .i64 a, .int .i64 b] w fun e w' => e = .returned (.tuple #[.int .i64 (gN (a * b)), .bool (decide (G (a * b)))]) ∧ w = w'
    go_enter Try.func94, Try.ntmps94
    go_wp2_with fail
    refine (c _).mono ?_
    rintro e w27 ⟨rfl, rfl⟩
    go_wp2_with fail
    go_ret2
    exact ⟨rfl, rfl⟩
  · clear ha hb
    show Calls Try.prog 94 #[.int .i64 5, .int .i64 a, .int .i64 b] w fun e w' => e = .returned (.tuple #[.int .i64 (max a b), .bool true]) ∧ w = w'
    by_cases h : a ≤ b
    · rw [show max a b = b by omega]
      go_enter Try.func94, Try.ntmps94
      go_wp2_with fail
      all_goals (go_ret2; exact ⟨by first | rfl | (obtain rfl : a = b := (by omega); rfl), rfl⟩)
    · rw [show max a b = a by omega]
      go_enter Try.func94, Try.ntmps94
      go_wp2_with fail
      all_goals (go_ret2; exact ⟨by first | rfl | (obtain rfl : a = b := (by omega); rfl), rfl⟩)
  · clear ha hb
    show Calls Try.prog 94 #[.int .i64 6, .int .i64 a, .int .i64 b] w fun e w' => e = .returned (.tuple #[.int .i64 (min a b), .bool true]) ∧ w = w'
    by_cases h : a ≤ b
    · rw [show min a b = a by omega]
      go_enter Try.func94, Try.ntmps94
      go_wp2_with fail
      all_goals (go_ret2; exact ⟨by first | rfl | (obtain rfl : a = b := (by omega); rfl), rfl⟩)
    · rw [show min a b = b by omega]
      go_enter Try.func94, Try.ntmps94
      go_wp2_with fail
      all_goals (go_ret2; exact ⟨by first | rfl | (obtain rfl : a = b := (by omega); rfl), rfl⟩)
  · have c := fun w => restInt_any a b (by have := ha.1; omega) (by have := ha.2; omega) w
    clear ha hb
    show Calls Try.prog 94 #[.int .i64 7, .int .i64 a, .int .i64 b] w fun e w' => e = .returned (.tuple #[.int .i64 (restI a b), .bool true]) ∧ w = w'
    go_enter Try.func94, Try.ntmps94
    go_wp2_with fail
    refine (c _).mono ?_
    rintro e w44 ⟨rfl, rfl⟩
    go_wp2_with fail
    go_ret2
    exact ⟨rfl, rfl⟩
/-- which place goes with a place -/
def ixN (n k : Nat) : Nat := if n = 1 then 0 else k
theorem at_r (v : Value) (d : VD) (k : Nat) (w : World) (h : IsVec w v d) : Calls Try.prog 95 #[v, .int .i64 (k : Int)] w fun e w' => e = .returned (.int .i64 (ixN d.len k : Int)) ∧ Ext w w' := by
  have hF := h.flat
  have cl : ∀ w', Ext w w' → Calls Try.prog 47 #[v] w' fun e w2 => e = .returned (.int .i64 (d.len : Int)) ∧ Ext w' w2 := fun w' hx => vlen_any v d w' (h.ext hx)
  clear h
  have E := Ext.refl w
  by_cases h1 : d.len = 1
  · rw [show ixN d.len k = 0 from if_pos h1]
    rw [h1] at cl
    go_enter Try.func95, Try.ntmps95
    have TB2 : True := trivial
    go_wp2_with (first | (clear TB2; refine boxsV (v := v) rfl rfl rfl hF ?_; intro B2 w2 bB2 cB2 XB2 LB2 RB2; have z1 := XB2.size; replace E := E.trans XB2; clear RB2) | (refine loadsV (B := B2) (by rfl) rfl rfl LB2 ?_))
    clear LB2
    refine (cl _ E).mono ?_
    rintro e w6 ⟨rfl, x⟩
    have z2 := x.size
    replace E := E.trans x
    clear x
    go_wp2_with fail
    go_ret
    exact ⟨rfl, E⟩
  · rw [show ixN d.len k = k from if_neg h1]
    have h2 : ((d.len : Int) == 1) = false := by simp; omega
    clear h1
    generalize (d.len : Int) = m at *
    go_enter Try.func95, Try.ntmps95
    have TB2 : True := trivial
    go_wp2_with (first | (clear TB2; refine boxsV (v := v) rfl rfl rfl hF ?_; intro B2 w2 bB2 cB2 XB2 LB2 RB2; have z1 := XB2.size; replace E := E.trans XB2; clear RB2) | (refine loadsV (B := B2) (by rfl) rfl rfl LB2 ?_))
    clear LB2
    refine (cl _ E).mono ?_
    rintro e w6 ⟨rfl, x⟩
    have z2 := x.size
    replace E := E.trans x
    clear x
    go_wp2_with fail
    go_ret
    exact ⟨rfl, E⟩
end Go.Proofs.Ytidnikndjhfgaaa
