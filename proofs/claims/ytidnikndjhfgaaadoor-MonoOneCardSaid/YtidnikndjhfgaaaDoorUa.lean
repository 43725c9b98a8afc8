/- mono.One, rebusref09.One; what they make of whole numbers. -/
import Derived.Test.YtidnikndjhfgaaaDoorQ
import Derived.Test.YtidnikndjhfgaaaDoorQi
import Derived.Test.YtidnikndjhfgaaaDoorQk
import Derived.Test.YtidnikndjhfgaaaDoorNk
import Derived.Test.YtidnikndjhfgaaaDoorNh
import Derived.Test.YtidnikndjhfgaaaDoorRr
import Derived.Test.YtidnikndjhfgaaaDoorSl
namespace Go.Proofs.YtidnikndjhfgaaaDoor
open Go.ChangeShapes Go.WideShapes Go.RowKit Bv Fl
set_option maxHeartbeats 1000000
/-- what a function makes of a number; its error -/
def valM (f : Int) (x : Nat) : Nat := if f = 1 then x else if f = 2 then ng x else if f = 3 then sgN x else if f = 4 then (if x = 0 then 0 else dvN 4607182418800017408 x) else if f = 5 then ceN x else if f = 6 then flN x else if f = 7 then absN x else if f = 8 then (if x = 0 then 4607182418800017408 else 0) else 0
def errM (f : Int) (x : Nat) : Int := if f = 4 then (if x = 0 then 24 else dvE 4607182418800017408 x) else if f = 8 then (if x = 0 ∨ x = 4607182418800017408 then 0 else 24) else if 1 ≤ f ∧ f ≤ 8 then 0 else 1
def okM (f : Int) : Bool := decide (1 ≤ f ∧ f ≤ 8)
structure NotM (f : Int) : Prop where
  e1 : (f == 1) = false
  e2 : (f == 2) = false
  e3 : (f == 3) = false
  e4 : (f == 4) = false
  e5 : (f == 5) = false
  e6 : (f == 6) = false
  e7 : (f == 7) = false
  e8 : (f == 8) = false
theorem okM_cases (f : Int) : f = 1 ∨ f = 2 ∨ f = 3 ∨ f = 4 ∨ f = 5 ∨ f = 6 ∨ f = 7 ∨ f = 8 ∨ okM f = false := by
  unfold okM
  by_cases h : 1 ≤ f ∧ f ≤ 8
  · omega
  · right; right; right; right; right; right; right; right; exact decide_eq_false h
theorem okM_not {f : Int} (h : okM f = false) : NotM f := by
  have := of_decide_eq_false h
  refine ⟨?_, ?_, ?_, ?_, ?_, ?_, ?_, ?_⟩ <;> (simp; omega)
theorem valM_not {f : Int} (h : okM f = false) (x : Nat) : valM f x = 0 ∧ errM f x = 1 := by
  have := of_decide_eq_false h
  unfold valM errM
  constructor <;> repeat (first | rw [if_neg (by omega)] | rfl)
theorem valM_1 (x : Nat) : valM 1 x = x ∧ errM 1 x = 0 := ⟨rfl, rfl⟩
theorem valM_2 (x : Nat) : valM 2 x = ng x ∧ errM 2 x = 0 := ⟨rfl, rfl⟩
theorem valM_3 (x : Nat) : valM 3 x = sgN x ∧ errM 3 x = 0 := ⟨rfl, rfl⟩
theorem valM_4 (x : Nat) : valM 4 x = (if x = 0 then 0 else dvN 4607182418800017408 x) ∧ errM 4 x = (if x = 0 then 24 else dvE 4607182418800017408 x) := ⟨rfl, rfl⟩
theorem valM_5 (x : Nat) : valM 5 x = ceN x ∧ errM 5 x = 0 := ⟨rfl, rfl⟩
theorem valM_6 (x : Nat) : valM 6 x = flN x ∧ errM 6 x = 0 := ⟨rfl, rfl⟩
theorem valM_7 (x : Nat) : valM 7 x = absN x ∧ errM 7 x = 0 := ⟨rfl, rfl⟩
theorem valM_8 (x : Nat) : valM 8 x = (if x = 0 then 4607182418800017408 else 0) ∧ errM 8 x = (if x = 0 ∨ x = 4607182418800017408 then 0 else 24) := ⟨rfl, rfl⟩
theorem ng_dn {x : Nat} (h : tidy x) : dn (fsub 0 x) = ng x ∧ de (fsub 0 x) = 0 := by
  rw [zero_sub h]
  exact ⟨dn_tidy_eq (ng_tidy h.1), if_pos (ng_tidy h.1).1⟩
theorem abs_ng {x : Nat} (h : tidy x) (hk : key x < 0) : absN x = ng x := by
  unfold absN ng norm
  rw [if_pos hk, if_neg]
  rw [opp_rung h.1.nn]
  intro e
  rw [h.2.2 e, key_zero] at hk
  omega
theorem moturn_any (x : Nat) (h : tidy x) (w : World) : Calls Tryd.prog 26 #[.float .f64 x] w fun e w' => e = .returned (.tuple #[.float .f64 (valM 4 x), .int .i64 (errM 4 x)]) ∧ w = w' := by
  rw [(valM_4 x).1, (valM_4 x).2]
  have t := eq_zero' h
  have c := fun w => div_any 4607182418800017408 x fin_one h.1 w
  clear h
  by_cases h0 : x = 0
  · rw [if_pos h0, if_pos h0]
    rw [decide_eq_true h0] at t
    clear h0 c
    go_enter Tryd.func26, Tryd.ntmps26
    go_wp2_with fail
    go_ret2
    exact ⟨rfl, rfl⟩
  · rw [if_neg h0, if_neg h0]
    rw [decide_eq_false h0] at t
    clear h0
    generalize dvN 4607182418800017408 x = d at *
    generalize dvE 4607182418800017408 x = e at *
    go_enter Tryd.func26, Tryd.ntmps26
    go_wp2_with fail
    refine (c _).mono ?_
    rintro e w7 ⟨rfl, rfl⟩
    go_wp2_with fail
    go_ret2
    exact ⟨rfl, rfl⟩
theorem mo_any (f : Int) (x : Nat) (hx : tidy x) (w : World) : Calls Tryd.prog 8 #[.int .i64 f, .float .f64 x] w fun e w' => e = .returned (.tuple #[.float .f64 (valM f x), .int .i64 (errM f x)]) ∧ w = w' := by
  rcases okM_cases f with rfl | rfl | rfl | rfl | rfl | rfl | rfl | rfl | h
  · rw [(valM_1 x).1, (valM_1 x).2]
    clear hx
    go_enter Tryd.func8, Tryd.ntmps8
    go_wp2_with fail
    go_ret2
    exact ⟨rfl, rfl⟩
  · have c := fun w => sub_any 0 x (by decide) hx.1 w
    rw [(ng_dn hx).1, (ng_dn hx).2] at c
    rw [(valM_2 x).1, (valM_2 x).2]
    clear hx
    generalize ng x = d at *
    go_enter Tryd.func8, Tryd.ntmps8
    go_wp2_with fail
    refine (c _).mono ?_
    rintro e w15 ⟨rfl, rfl⟩
    go_wp2_with fail
    go_ret2
    exact ⟨rfl, rfl⟩
  · have c := fun w => sign_any x hx.1.nn w
    rw [(valM_3 x).1, (valM_3 x).2]
    clear hx
    generalize sgN x = d at *
    go_enter Tryd.func8, Tryd.ntmps8
    go_wp2_with fail
    refine (c _).mono ?_
    rintro e w21 ⟨rfl, rfl⟩
    go_wp2_with fail
    go_ret2
    exact ⟨rfl, rfl⟩
  · have c := fun w => moturn_any x hx w
    clear hx
    generalize valM 4 x = d at *
    generalize errM 4 x = e at *
    go_enter Tryd.func8, Tryd.ntmps8
    go_wp2_with fail
    refine (c _).mono ?_
    rintro e w25 ⟨rfl, rfl⟩
    go_wp2_with fail
    go_ret2
    exact ⟨rfl, rfl⟩
  · have c := fun w => numCeil_any x hx w
    rw [(valM_5 x).1, (valM_5 x).2]
    clear hx
    generalize ceN x = d at *
    go_enter Tryd.func8, Tryd.ntmps8
    go_wp2_with fail
    refine (c _).mono ?_
    rintro e w31 ⟨rfl, rfl⟩
    go_wp2_with fail
    go_ret2
    exact ⟨rfl, rfl⟩
  · have c := fun w => numFloor_any x hx w
    rw [(valM_6 x).1, (valM_6 x).2]
    clear hx
    generalize flN x = d at *
    go_enter Tryd.func8, Tryd.ntmps8
    go_wp2_with fail
    refine (c _).mono ?_
    rintro e w35 ⟨rfl, rfl⟩
    go_wp2_with fail
    go_ret2
    exact ⟨rfl, rfl⟩
  · have c := fun w => abs_any x hx.1.nn hx.2.1 w
    rw [(valM_7 x).1, (valM_7 x).2]
    clear hx
    generalize absN x = d at *
    go_enter Tryd.func8, Tryd.ntmps8
    go_wp2_with fail
    refine (c _).mono ?_
    rintro e w39 ⟨rfl, rfl⟩
    go_wp2_with fail
    go_ret2
    exact ⟨rfl, rfl⟩
  · have c := fun w => truth_any x hx w
    have cf := fun w => flag_any true w
    have ct := fun w => flag_any false w
    rw [(valM_8 x).1, (valM_8 x).2]
    clear hx
    by_cases h0 : x = 0
    · rw [if_pos h0, if_pos (.inl h0)]
      rw [show decide (x = 0 ∨ x = 4607182418800017408) = true from decide_eq_true (.inl h0), show decide (x = 4607182418800017408) = false from decide_eq_false (by rw [h0]; decide)] at c
      clear h0
      go_enter Tryd.func8, Tryd.ntmps8
      go_wp2_with fail
      refine (c _).mono ?_
      rintro e w44 ⟨rfl, rfl⟩
      go_wp2_with fail
      refine (cf _).mono ?_
      rintro e w51 ⟨rfl, rfl⟩
      go_wp2_with fail
      go_ret2
      exact ⟨rfl, rfl⟩
    · rw [if_neg h0]
      by_cases h1 : x = 4607182418800017408
      · rw [if_pos (.inr h1)]
        rw [show decide (x = 0 ∨ x = 4607182418800017408) = true from decide_eq_true (.inr h1), show decide (x = 4607182418800017408) = true from decide_eq_true h1] at c
        clear h0 h1
        go_enter Tryd.func8, Tryd.ntmps8
        go_wp2_with fail
        refine (c _).mono ?_
        rintro e w44 ⟨rfl, rfl⟩
        go_wp2_with fail
        refine (ct _).mono ?_
        rintro e w51 ⟨rfl, rfl⟩
        go_wp2_with fail
        go_ret2
        exact ⟨rfl, rfl⟩
      · rw [if_neg (fun h => h.elim h0 h1)]
        rw [show decide (x = 0 ∨ x = 4607182418800017408) = false from decide_eq_false (fun h => h.elim h0 h1)] at c
        clear h0 h1
        generalize decide (x = 4607182418800017408) = d at *
        go_enter Tryd.func8, Tryd.ntmps8
        go_wp2_with fail
        refine (c _).mono ?_
        rintro e w44 ⟨rfl, rfl⟩
        go_wp2_with fail
        go_ret2
        exact ⟨rfl, rfl⟩
  · rw [(valM_not h x).1, (valM_not h x).2]
    obtain ⟨e1, e2, e3, e4, e5, e6, e7, e8⟩ := okM_not h
    clear h hx
    go_enter Tryd.func8, Tryd.ntmps8
    go_wp2_with fail
    go_ret2
    exact ⟨rfl, rfl⟩
theorem rmo_any (f : Int) (x : Nat) (hx : tidy x) (w : World) : Calls Tryd.prog 9 #[.int .i64 f, .float .f64 x] w fun e w' => e = .returned (.tuple #[.float .f64 (valM f x), .int .i64 (errM f x)]) ∧ w = w' := by
  rcases okM_cases f with rfl | rfl | rfl | rfl | rfl | rfl | rfl | rfl | h
  · rw [(valM_1 x).1, (valM_1 x).2]
    clear hx
    go_enter Tryd.func9, Tryd.ntmps9
    go_wp2_with fail
    go_ret2
    exact ⟨rfl, rfl⟩
  · have c := fun w => reckon_sub 0 x (by decide) hx.1 w
    rw [(ng_dn hx).1, (ng_dn hx).2] at c
    rw [(valM_2 x).1, (valM_2 x).2]
    clear hx
    generalize ng x = d at *
    go_enter Tryd.func9, Tryd.ntmps9
    go_wp2_with fail
    refine (c _).mono ?_
    rintro e w13 ⟨rfl, rfl⟩
    go_wp2_with fail
    go_ret2
    exact ⟨rfl, rfl⟩
  · rw [(valM_3 x).1, (valM_3 x).2]
    have c1 := gt_zero hx.1.nn
    have c2 := lt_zero hx.1.nn
    clear hx
    unfold sgN
    by_cases h1 : 0 < key x
    · rw [if_pos h1]
      rw [decide_eq_true h1] at c1
      clear h1 c2
      go_enter Tryd.func9, Tryd.ntmps9
      go_wp2_with fail
      go_ret2
      exact ⟨rfl, rfl⟩
    · rw [if_neg h1]
      rw [decide_eq_false h1] at c1
      by_cases h2 : key x < 0
      · rw [if_pos h2]
        rw [decide_eq_true h2] at c2
        clear h1 h2
        go_enter Tryd.func9, Tryd.ntmps9
        go_wp2_with fail
        go_ret2
        exact ⟨rfl, rfl⟩
      · rw [if_neg h2]
        rw [decide_eq_false h2] at c2
        clear h1 h2
        go_enter Tryd.func9, Tryd.ntmps9
        go_wp2_with fail
        go_ret2
        exact ⟨rfl, rfl⟩
  · rw [(valM_4 x).1, (valM_4 x).2]
    have t := eq_zero' hx
    have c := fun w => reckon_div 4607182418800017408 x fin_one hx.1 w
    clear hx
    by_cases h0 : x = 0
    · rw [if_pos h0, if_pos h0]
      rw [decide_eq_true h0] at t
      clear h0 c
      go_enter Tryd.func9, Tryd.ntmps9
      go_wp2_with fail
      go_ret2
      exact ⟨rfl, rfl⟩
    · rw [if_neg h0, if_neg h0]
      rw [decide_eq_false h0] at t
      clear h0
      generalize dvN 4607182418800017408 x = d at *
      generalize dvE 4607182418800017408 x = e at *
      go_enter Tryd.func9, Tryd.ntmps9
      go_wp2_with fail
      refine (c _).mono ?_
      rintro e w27 ⟨rfl, rfl⟩
      go_wp2_with fail
      go_ret2
      exact ⟨rfl, rfl⟩
  · have c := fun w => rceil_any x hx w
    rw [(valM_5 x).1, (valM_5 x).2]
    clear hx
    generalize ceN x = d at *
    go_enter Tryd.func9, Tryd.ntmps9
    go_wp2_with fail
    refine (c _).mono ?_
    rintro e w33 ⟨rfl, rfl⟩
    go_wp2_with fail
    go_ret2
    exact ⟨rfl, rfl⟩
  · have c := fun w => rfloor_any x hx w
    rw [(valM_6 x).1, (valM_6 x).2]
    clear hx
    generalize flN x = d at *
    go_enter Tryd.func9, Tryd.ntmps9
    go_wp2_with fail
    refine (c _).mono ?_
    rintro e w37 ⟨rfl, rfl⟩
    go_wp2_with fail
    go_ret2
    exact ⟨rfl, rfl⟩
  · rw [(valM_7 x).1, (valM_7 x).2]
    have c2 := lt_zero hx.1.nn
    have r0 := @run_sub Tryd.prog 0 x (by decide) hx.1
    rw [zero_sub hx] at r0
    by_cases h1 : key x < 0
    · rw [abs_ng hx h1]
      rw [decide_eq_true h1] at c2
      clear h1 hx
      generalize ng x = d at *
      go_enter Tryd.func9, Tryd.ntmps9
      go_wp2_with fail
      go_ret2
      exact ⟨rfl, rfl⟩
    · rw [show absN x = x from if_neg h1]
      rw [decide_eq_false h1] at c2
      clear h1 hx r0
      go_enter Tryd.func9, Tryd.ntmps9
      go_wp2_with fail
      go_ret2
      exact ⟨rfl, rfl⟩
  · rw [(valM_8 x).1, (valM_8 x).2]
    have t := eq_zero' hx
    have t1 := eq_one hx
    clear hx
    by_cases h0 : x = 0
    · rw [if_pos h0, if_pos (.inl h0)]
      rw [decide_eq_true h0] at t
      clear h0 t1
      go_enter Tryd.func9, Tryd.ntmps9
      go_wp2_with fail
      go_ret2
      exact ⟨rfl, rfl⟩
    · rw [if_neg h0]
      rw [decide_eq_false h0] at t
      by_cases h1 : x = 4607182418800017408
      · rw [if_pos (.inr h1)]
        rw [decide_eq_true h1] at t1
        clear h0 h1
        go_enter Tryd.func9, Tryd.ntmps9
        go_wp2_with fail
        go_ret2
        exact ⟨rfl, rfl⟩
      · rw [if_neg (fun h => h.elim h0 h1)]
        rw [decide_eq_false h1] at t1
        clear h0 h1
        go_enter Tryd.func9, Tryd.ntmps9
        go_wp2_with fail
        go_ret2
        exact ⟨rfl, rfl⟩
  · rw [(valM_not h x).1, (valM_not h x).2]
    obtain ⟨e1, e2, e3, e4, e5, e6, e7, e8⟩ := okM_not h
    clear h hx
    go_enter Tryd.func9, Tryd.ntmps9
    go_wp2_with fail
    go_ret2
    exact ⟨rfl, rfl⟩
/-! what they make of whole numbers -/
theorem fi_m1 : 13830554455654793216 = fi (-1) := by kernel_rfl
theorem flI_fi {n : Int} (h : G n) : flI (fi n) = n := by
  unfold flI
  rw [fi_sv h.1 h.2]
  exact Int.mul_ediv_cancel _ (by have := U_pos; omega)
theorem flN_fi {n : Int} (h : G n) : flN (fi n) = fi n := by
  unfold flN
  rw [if_pos (show small (fi n) from (fi_rung h.1 h.2).2), flI_fi h]
theorem G_neg {n : Int} (h : G n) : G (-n) := by unfold G at *; omega
theorem ceN_fi {n : Int} (h : G n) : ceN (fi n) = fi n := by
  unfold ceN
  rw [ng_fi h, flN_fi (G_neg h), ng_fi (G_neg h), Int.neg_neg]
theorem key_fi_lt {n : Int} (h : G n) : key (fi n) < 0 ↔ n < 0 := by
  have := @fi_lt n 0 h.1 h.2 (by decide) (by decide)
  rwa [fi_zero, key_zero] at this
theorem key_fi_gt {n : Int} (h : G n) : 0 < key (fi n) ↔ 0 < n := by
  have := @fi_lt 0 n (by decide) (by decide) h.1 h.2
  rwa [fi_zero, key_zero] at this
theorem fi_eq0 {n : Int} (h : G n) : fi n = 0 ↔ n = 0 := by
  constructor
  · intro e
    have := (@fi_inj n 0 h.1 h.2 (by decide) (by decide)).1 (by rw [e, fi_zero])
    exact this
  · intro e; rw [e, fi_zero]
theorem fi_eq1 {n : Int} (h : G n) : fi n = 4607182418800017408 ↔ n = 1 := by
  constructor
  · intro e
    exact (@fi_inj n 1 h.1 h.2 (by decide) (by decide)).1 (by rw [e, fi_one])
  · intro e; rw [e, fi_one]
/-- what a function makes of a whole number; not the fourth one -/
def wM (f n : Int) : Int := if f = 2 then -n else if f = 3 then max (-1) (min n 1) else if f = 7 then max n (-n) else if f = 8 then 1 - n else n
def eM (f n : Int) : Bool := if f = 8 then decide (n = 0 ∨ n = 1) else true
theorem wM_1 (n : Int) : wM 1 n = n := rfl
theorem wM_2 (n : Int) : wM 2 n = -n := rfl
theorem wM_3 (n : Int) : wM 3 n = max (-1) (min n 1) := rfl
theorem wM_5 (n : Int) : wM 5 n = n := rfl
theorem wM_6 (n : Int) : wM 6 n = n := rfl
theorem wM_7 (n : Int) : wM 7 n = max n (-n) := rfl
theorem wM_8 (n : Int) : wM 8 n = 1 - n := rfl
theorem wM_G {f n : Int} (h : G n) (he : eM f n = true) : G (wM f n) := by
  unfold eM at he
  unfold wM
  unfold G at *
  split
  · omega
  split
  · omega
  split
  · omega
  split
  · rename_i h8
    rw [if_pos h8] at he
    have := of_decide_eq_true he
    omega
  · omega
theorem errM_w {f n : Int} (hf : 1 ≤ f ∧ f ≤ 8) (h4 : f ≠ 4) (h : G n) : errM f (fi n) = if eM f n then 0 else 24 := by
  unfold errM eM
  rw [if_neg h4]
  by_cases h8 : f = 8
  · rw [if_pos h8, if_pos h8]
    by_cases h0 : n = 0 ∨ n = 1
    · rw [if_pos (h0.imp (fi_eq0 h).2 (fi_eq1 h).2), decide_eq_true h0]; rfl
    · rw [if_neg (fun g => h0 (g.imp (fi_eq0 h).1 (fi_eq1 h).1)), decide_eq_false h0]; rfl
  · rw [if_neg h8, if_neg h8, if_pos hf]; rfl
theorem valM_w {f n : Int} (hf : 1 ≤ f ∧ f ≤ 8) (h4 : f ≠ 4) (h : G n) (he : eM f n = true) : valM f (fi n) = fi (wM f n) := by
  have hc : f = 1 ∨ f = 2 ∨ f = 3 ∨ f = 5 ∨ f = 6 ∨ f = 7 ∨ f = 8 := by omega
  rcases hc with rfl | rfl | rfl | rfl | rfl | rfl | rfl
  · rw [(valM_1 _).1, wM_1]
  · rw [(valM_2 _).1, wM_2]; exact ng_fi h
  · rw [(valM_3 _).1, wM_3]
    unfold sgN
    by_cases h1 : 0 < n
    · rw [if_pos ((key_fi_gt h).2 h1), show max (-1) (min n 1) = 1 by omega, fi_one]
    · rw [if_neg (fun g => h1 ((key_fi_gt h).1 g))]
      by_cases h2 : n < 0
      · rw [if_pos ((key_fi_lt h).2 h2), show max (-1) (min n 1) = -1 by omega]; exact fi_m1
      · rw [if_neg (fun g => h2 ((key_fi_lt h).1 g)), show max (-1) (min n 1) = 0 by omega, fi_zero]
  · rw [(valM_5 _).1, wM_5]; exact ceN_fi h
  · rw [(valM_6 _).1, wM_6]; exact flN_fi h
  · rw [(valM_7 _).1, wM_7]
    by_cases h2 : n < 0
    · rw [abs_ng (fi_tidy h.1 h.2) ((key_fi_lt h).2 h2), ng_fi h, show max n (-n) = -n by omega]
    · rw [show absN (fi n) = fi n from if_neg (fun g => h2 ((key_fi_lt h).1 g)), show max n (-n) = n by omega]
  · rw [(valM_8 _).1, wM_8]
    have h0 : n = 0 ∨ n = 1 := of_decide_eq_true (by unfold eM at he; rwa [if_pos rfl] at he)
    rcases h0 with rfl | rfl
    · rw [if_pos fi_zero, show (1 : Int) - 0 = 1 by decide, fi_one]
    · rw [if_neg (by rw [fi_one]; decide), show (1 : Int) - 1 = 0 by decide, fi_zero]
theorem zero_tidyM : tidy 0 := ⟨by decide, by decide, fun _ => rfl⟩
theorem one_tidyM : tidy 4607182418800017408 := ⟨by decide, by decide, fun h => absurd h (by decide)⟩
theorem dvN_tidyM {a b : Nat} (ha : fin a) (hb : fin b) : tidy (dvN a b) := by
  unfold dvN
  split
  · split
    · exact ⟨by decide, by decide, fun h => absurd h (by decide)⟩
    · exact ⟨by decide, by decide, fun _ => rfl⟩
  · exact dn_tidy _ (div_some ha hb (by omega)).2.2
theorem valM_tidy (f : Int) {x : Nat} (h : tidy x) : tidy (valM f x) := by
  unfold valM
  split
  · exact h
  split
  · exact ng_tidy h.1
  split
  · unfold sgN
    split
    · exact one_tidyM
    · split
      · exact ⟨by decide, by decide, fun h => absurd h (by decide)⟩
      · exact zero_tidyM
  split
  · split
    · exact zero_tidyM
    · exact dvN_tidyM fin_one h.1
  split
  · exact ng_tidy (flN_tidy (ng_tidy h.1)).1
  split
  · exact flN_tidy h
  split
  · by_cases hk : key x < 0
    · rw [abs_ng h hk]; exact ng_tidy h.1
    · rw [show absN x = x from if_neg hk]; exact h
  split
  · split
    · exact one_tidyM
    · exact zero_tidyM
  · exact zero_tidyM
end Go.Proofs.YtidnikndjhfgaaaDoor
