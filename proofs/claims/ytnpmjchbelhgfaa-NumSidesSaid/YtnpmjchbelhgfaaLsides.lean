/- NumSides, for every two words of floats: the greater and the lesser one, signs, sizes, truths, and whole numbers below and above. No condition. -/
import Derived.Test.YtnpmjchbelhgfaaNh
import Derived.Test.YtnpmjchbelhgfaaNk
namespace Go.Proofs.Ytnpmjchbelhgfaa
open Go.ChangeShapes Go.WideShapes Go.ChangeAt Go.RowKit Fl

namespace Fl
theorem sv_one : sv 4607182418800017408 = U := by decide +kernel
theorem sv_mone : sv 13830554455654793216 = -(U : Int) := by decide +kernel
theorem sv_zero : sv 0 = 0 := by decide
theorem nn_mone : nn 13830554455654793216 := by decide
theorem fin_mone : fin 13830554455654793216 := by decide
theorem fin_zero : fin 0 := by decide
theorem mul_one_key {x : Nat} (h : fin x) : key (fmul x 4607182418800017408) = key x := fmul_key h fin_one h.nn (by rw [sv_one])
theorem mul_mone_key {x : Nat} (h : fin x) : key (fmul x 13830554455654793216) = -key x := by
  rw [← opp_key h.nn]
  refine fmul_key h fin_mone (opp_nn h.nn) ?_
  rw [sv_mone, sv_opp h.nn, Int.mul_neg, Int.neg_mul]
theorem mul_zero_key {x : Nat} (h : fin x) : key (fmul x 0) = 0 := by
  have := fmul_key h fin_zero nn_zero (show sv x * sv 0 = sv 0 * U by rw [sv_zero]; simp)
  rw [this]; decide
theorem self_eq {x : Nat} (h : nn x) : (FloatKind.f64.format.order x x == some .eq) = true := by rw [c_eq h h]; simp
theorem self_ne {x : Nat} (h : nn x) : (FloatKind.f64.format.order x x != some .eq) = false := by rw [c_ne h h]; simp
theorem key_ne {x y : Nat} (h : nn x) (g : nn y) (e : key x = key y) : (FloatKind.f64.format.order x y != some .eq) = false := by rw [c_ne h g, e]; simp
theorem le_of_key {x y : Nat} (h : nn x) (g : nn y) (e : key x ≤ key y) : (FloatKind.f64.format.order x y == some .lt || FloatKind.f64.format.order x y == some .eq) = true := by
  rw [c_lt h g, c_eq h g]; simp; omega
theorem ge_of_key {x y : Nat} (h : nn x) (g : nn y) (e : key y ≤ key x) : (FloatKind.f64.format.order x y == some .gt || FloatKind.f64.format.order x y == some .eq) = true := by
  rw [c_gt h g, c_eq h g]; simp; omega
theorem flN_le {b : Nat} : key (flN b) ≤ key b := by
  unfold flN
  split
  · rename_i hs
    have hG := flI_G hs
    have hU : (0 : Int) < (U : Int) := by exact_mod_cast U_pos
    have h1 : ¬ key b < key (fi (flI b)) := by
      rw [key_lt, fi_sv hG.1 hG.2]
      unfold flI
      have := Int.ediv_mul_le (sv b) (b := (U : Int)) (by omega)
      omega
    omega
  · exact Int.le_refl _
theorem ceN_ge {b : Nat} (h : tidy b) : key b ≤ key (ceN b) := by
  unfold ceN
  have h1 := ng_tidy h.1
  have h2 := flN_tidy h1
  have h3 := @flN_le (ng b)
  rw [ng_key h2.1]
  rw [ng_key h.1] at h3
  omega
end Fl

/-- what the walk is told of its two numbers -/
structure SideFacts (x y least most s : Nat) (d : Bool) : Prop where
  c1 : (FloatKind.f64.format.order (fmax x y) most != some .eq) = false
  c2 : (FloatKind.f64.format.order (fmin x y) least != some .eq) = false
  c3 : (FloatKind.f64.format.order (sgN x) s != some .eq) = false
  c4 : (FloatKind.f64.format.order (absN x) (fmul x s) != some .eq) = false
  c5 : (FloatKind.f64.format.order x y == some .eq) = d
  c6 : (FloatKind.f64.format.order y x == some .eq) = d
  c7 : (FloatKind.f64.format.order (bitW d) (bitW d) != some .eq) = false
  c8 : ∀ (t : TypeId) (w : World), (binOp .mul t (.float .f64 x) (.float .f64 s)).run Try.prog w = .ok (.float .f64 (fmul x s)) w
  c9 : (FloatKind.f64.format.order (flN x) x == some .lt || FloatKind.f64.format.order (flN x) x == some .eq) = true
  ca : (FloatKind.f64.format.order (ceN x) x == some .gt || FloatKind.f64.format.order (ceN x) x == some .eq) = true

theorem side_facts {x y : Nat} (hx : tidy x) (hy : tidy y) : SideFacts x y (if key y < key x then y else x) (if key y < key x then x else y) (sgN x) (decide (key x = key y)) := by
  have ns : nn (sgN x) := by unfold sgN; split; exact nn_one; split; exact nn_mone; exact nn_zero
  have fs : fin (sgN x) := by unfold sgN; split; exact fin_one; split; exact fin_mone; exact fin_zero
  have na : nn (absN x) := by unfold absN; split; exact opp_nn hx.1.nn; exact hx.1.nn
  have nm := (mul_some hx.1 fs).2.1
  refine ⟨?_, ?_, ?_, ?_, ?_, ?_, ?_, ?_, ?_, ?_⟩
  · unfold fmax
    by_cases h : key y < key x
    · rw [if_pos h, if_neg (by omega)]; exact self_ne hx.1.nn
    · rw [if_neg h]
      split
      · exact self_ne hy.1.nn
      · exact key_ne hx.1.nn hy.1.nn (by omega)
  · unfold fmin
    by_cases h : key y < key x
    · rw [if_pos h]; exact self_ne hy.1.nn
    · rw [if_neg h]; exact self_ne hx.1.nn
  · exact self_ne ns
  · refine key_ne na nm ?_
    unfold absN sgN
    by_cases h : 0 < key x
    · rw [if_pos h, if_neg (by omega), mul_one_key hx.1]
    · rw [if_neg h]
      by_cases g : key x < 0
      · rw [if_pos g, if_pos g, opp_key hx.1.nn, mul_mone_key hx.1]
      · rw [if_neg g, if_neg g, mul_zero_key hx.1]; omega
  · rw [c_eq hx.1.nn hy.1.nn]
  · rw [c_eq hy.1.nn hx.1.nn, decide_eq_decide]; exact eq_comm
  · refine self_ne ?_
    unfold bitW; split; exact nn_one; exact nn_zero
  · exact run_mul hx.1 fs
  · exact le_of_key (flN_tidy hx).1.nn hx.1.nn flN_le
  · exact ge_of_key (ng_tidy (flN_tidy (ng_tidy hx.1)).1).1.nn hx.1.nn (ceN_ge hx)

set_option maxRecDepth 100000 in
set_option maxHeartbeats 16000000 in
theorem numSides_walk (a0 a1 : Nat) (w0 : (Lit.float .f64 a0).wf = true) (w1 : (Lit.float .f64 a1).wf = true) (w : World) :
    Calls Try.prog 9 #[.float .f64 a0, .float .f64 a1] w fun e w' => e = .returned (.bool true) ∧ Grown w w' := by
  have hz : Hid (Grown w w) := Grown.refl w
  have ca := awake_any w
  have t1 := rtidy_any a0 w
  have t2 := rtidy_any a1 w
  have l0 := lt64_of_wf w0
  have l1 := lt64_of_wf w1
  clear w0 w1
  by_cases f0 : fin a0
  · rw [decide_eq_true f0] at t1
    by_cases f1 : fin a1
    · rw [decide_eq_true f1] at t2
      have d0 := dn_tidy a0 l0
      have d1 := dn_tidy a1 l1
      generalize dn a0 = x at *
      generalize dn a1 = y at *
      clear f0 f1 l0 l1
      have p1 := truth_any x d0 w
      have p2 := max_any x y d0.1.nn d1.1.nn w
      have p3 := min_any x y d0.1.nn d1.1.nn w
      have p4 := sign_any x d0.1.nn w
      have p5 := abs_any x d0.1.nn d0.2.1 w
      have p6 := flag_any (decide (key x = key y)) w
      have p7 := flag_any true w
      have p8 := flag_any false w
      have q1 := numFloor_any x d0 w
      have q2 := rfloor_any x d0 w
      have q3 := numCeil_any x d0 w
      have q4 := rceil_any x d0 w
      have hf := flN_tidy d0
      have hc : tidy (ceN x) := ng_tidy (flN_tidy (ng_tidy d0.1)).1
      have b1 := bits_any (flN x) (flN x) hf.1.nn hf.1.nn hf.2.1 hf.2.1 w
      have b2 := bits_any (ceN x) (ceN x) hc.1.nn hc.1.nn hc.2.1 hc.2.1 w
      rw [decide_eq_true rfl] at b1 b2
      obtain ⟨c1, c2, c3, c4, c5, c6, c7, c8, c9, c0⟩ := side_facts d0 d1
      have k1 := c_lt d1.1.nn d0.1.nn
      have k2 := gt_zero d0.1.nn
      have k3 := lt_zero d0.1.nn
      have k4 := eq_one d0
      have k5 := eq_zero' d0
      have o1 : (FloatKind.f64.format.order 4607182418800017408 4607182418800017408 != some .eq) = false := by decide
      have o2 : (FloatKind.f64.format.order 0 0 != some .eq) = false := by decide
      have e7 : bitW true = 4607182418800017408 := rfl
      have e8 : bitW false = 0 := rfl
      rw [e7] at p7
      rw [e8] at p8
      have z1 : x = 4607182418800017408 → 0 < key x := by intro h; rw [h, key_one]; omega
      have z0 : x = 0 ↔ key x = 0 := ⟨fun h => by rw [h, key_zero], fun h => tidy_key d0 ⟨fin_zero, by decide, fun _ => rfl⟩ (by rw [h, key_zero])⟩
      clear hf hc e7 e8 d0 d1
      generalize fmax x y = mx at *
      generalize fmin x y = mn at *
      generalize absN x = ab at *
      generalize flN x = fl at *
      generalize ceN x = ce at *
      generalize decide (key x = key y) = d at *
      have hsg : (0 < key x ∧ sgN x = 4607182418800017408 ∧ ¬ key x < 0 ∧ ¬ x = 0) ∨ (key x < 0 ∧ sgN x = 13830554455654793216 ∧ ¬ 0 < key x ∧ ¬ x = 0 ∧ ¬ x = 4607182418800017408) ∨ (x = 0 ∧ sgN x = 0 ∧ ¬ key x < 0 ∧ ¬ 0 < key x ∧ ¬ x = 4607182418800017408) := by
        rcases Int.lt_trichotomy (key x) 0 with h | h | h
        · refine Or.inr (Or.inl ⟨h, ?_, by omega, ?_, ?_⟩)
          · unfold sgN; rw [if_neg (by omega), if_pos h]
          · rw [z0]; omega
          · intro hx; have := z1 hx; omega
        · refine Or.inr (Or.inr ⟨z0.2 h, ?_, by omega, by omega, ?_⟩)
          · unfold sgN; rw [if_neg (by omega), if_neg (by omega)]
          · intro hx; have := z1 hx; omega
        · refine Or.inl ⟨h, ?_, by omega, ?_⟩
          · unfold sgN; rw [if_pos h]
          · rw [z0]; omega
      clear z0 z1
      by_cases hl : key y < key x
      all_goals
        first
        | rw [if_pos hl] at c1 c2; rw [decide_eq_true hl] at k1
        | rw [if_neg hl] at c1 c2; rw [decide_eq_false hl] at k1
        clear hl
        rcases hsg with ⟨h1, h2, h3, h4⟩ | ⟨h1, h2, h3, h4, h5⟩ | ⟨h1, h2, h3, h4, h5⟩
        · rw [decide_eq_true h1] at k2
          rw [decide_eq_false h3] at k3
          rw [decide_eq_false h4] at k5
          rw [h2] at c3 c4 c8 p4
          by_cases h6 : x = 4607182418800017408
          all_goals
            first
            | rw [decide_eq_true h6, decide_eq_true (Or.inr h6)] at p1; rw [decide_eq_true h6] at k4
            | rw [decide_eq_false h6, decide_eq_false (by rintro (h | h); exact h4 h; exact h6 h)] at p1; rw [decide_eq_false h6] at k4
            clear h1 h2 h3 h4 h6
            go_enter Try.func9, Try.ntmps9
            go_wp2_with fail
            refine (t1).mono ?_
            rintro e w' ⟨rfl, rfl⟩
            go_wp2_with fail
            refine (t2).mono ?_
            rintro e w' ⟨rfl, rfl⟩
            go_wp2_with fail
            refine (p1).mono ?_
            rintro e w' ⟨rfl, rfl⟩
            go_wp2_with fail
            refine (p2).mono ?_
            rintro e w' ⟨rfl, rfl⟩
            go_wp2_with fail
            refine (p3).mono ?_
            rintro e w' ⟨rfl, rfl⟩
            go_wp2_with fail
            refine (p4).mono ?_
            rintro e w' ⟨rfl, rfl⟩
            go_wp2_with fail
            refine (p5).mono ?_
            rintro e w' ⟨rfl, rfl⟩
            go_wp2_with fail
            refine (p6).mono ?_
            rintro e w' ⟨rfl, rfl⟩
            go_wp2_with fail
            refine (p6).mono ?_
            rintro e w' ⟨rfl, rfl⟩
            go_wp2_with fail
            refine (p7).mono ?_
            rintro e w' ⟨rfl, rfl⟩
            go_wp2_with fail
            refine (p8).mono ?_
            rintro e w' ⟨rfl, rfl⟩
            go_wp2_with fail
            refine (q1).mono ?_
            rintro e w' ⟨rfl, rfl⟩
            go_wp2_with fail
            refine (q2).mono ?_
            rintro e w' ⟨rfl, rfl⟩
            go_wp2_with fail
            refine (b1).mono ?_
            rintro e w' ⟨rfl, rfl⟩
            go_wp2_with fail
            refine (q3).mono ?_
            rintro e w' ⟨rfl, rfl⟩
            go_wp2_with fail
            refine (q4).mono ?_
            rintro e w' ⟨rfl, rfl⟩
            go_wp2_with fail
            refine (b2).mono ?_
            rintro e w' ⟨rfl, rfl⟩
            go_wp2_with fail
            refine (q1).mono ?_
            rintro e w' ⟨rfl, rfl⟩
            go_wp2_with fail
            refine (q3).mono ?_
            rintro e w' ⟨rfl, rfl⟩
            go_wp2_with fail
            refine (ca).mono ?_
            rintro e w' ⟨rfl, rfl⟩
            go_wp2
            go_ret
            exact ⟨rfl, hz.out⟩
        · rw [decide_eq_false h3] at k2
          rw [decide_eq_true h1] at k3
          rw [decide_eq_false h4] at k5
          rw [h2] at c3 c4 c8 p4
          rw [decide_eq_false h5, decide_eq_false (by rintro (h | h); exact h4 h; exact h5 h)] at p1
          rw [decide_eq_false h5] at k4
          clear h1 h2 h3 h4 h5
          go_enter Try.func9, Try.ntmps9
          go_wp2_with fail
          refine (t1).mono ?_
          rintro e w' ⟨rfl, rfl⟩
          go_wp2_with fail
          refine (t2).mono ?_
          rintro e w' ⟨rfl, rfl⟩
          go_wp2_with fail
          refine (p1).mono ?_
          rintro e w' ⟨rfl, rfl⟩
          go_wp2_with fail
          refine (p2).mono ?_
          rintro e w' ⟨rfl, rfl⟩
          go_wp2_with fail
          refine (p3).mono ?_
          rintro e w' ⟨rfl, rfl⟩
          go_wp2_with fail
          refine (p4).mono ?_
          rintro e w' ⟨rfl, rfl⟩
          go_wp2_with fail
          refine (p5).mono ?_
          rintro e w' ⟨rfl, rfl⟩
          go_wp2_with fail
          refine (p6).mono ?_
          rintro e w' ⟨rfl, rfl⟩
          go_wp2_with fail
          refine (p6).mono ?_
          rintro e w' ⟨rfl, rfl⟩
          go_wp2_with fail
          refine (p7).mono ?_
          rintro e w' ⟨rfl, rfl⟩
          go_wp2_with fail
          refine (p8).mono ?_
          rintro e w' ⟨rfl, rfl⟩
          go_wp2_with fail
          refine (q1).mono ?_
          rintro e w' ⟨rfl, rfl⟩
          go_wp2_with fail
          refine (q2).mono ?_
          rintro e w' ⟨rfl, rfl⟩
          go_wp2_with fail
          refine (b1).mono ?_
          rintro e w' ⟨rfl, rfl⟩
          go_wp2_with fail
          refine (q3).mono ?_
          rintro e w' ⟨rfl, rfl⟩
          go_wp2_with fail
          refine (q4).mono ?_
          rintro e w' ⟨rfl, rfl⟩
          go_wp2_with fail
          refine (b2).mono ?_
          rintro e w' ⟨rfl, rfl⟩
          go_wp2_with fail
          refine (q1).mono ?_
          rintro e w' ⟨rfl, rfl⟩
          go_wp2_with fail
          refine (q3).mono ?_
          rintro e w' ⟨rfl, rfl⟩
          go_wp2_with fail
          refine (ca).mono ?_
          rintro e w' ⟨rfl, rfl⟩
          go_wp2
          go_ret
          exact ⟨rfl, hz.out⟩
        · rw [decide_eq_false h4] at k2
          rw [decide_eq_false h3] at k3
          rw [decide_eq_true h1] at k5
          rw [h2] at c3 c4 c8 p4
          rw [decide_eq_false h5, decide_eq_true (Or.inl h1)] at p1
          rw [decide_eq_false h5] at k4
          clear h1 h2 h3 h4 h5
          go_enter Try.func9, Try.ntmps9
          go_wp2_with fail
          refine (t1).mono ?_
          rintro e w' ⟨rfl, rfl⟩
          go_wp2_with fail
          refine (t2).mono ?_
          rintro e w' ⟨rfl, rfl⟩
          go_wp2_with fail
          refine (p1).mono ?_
          rintro e w' ⟨rfl, rfl⟩
          go_wp2_with fail
          refine (p2).mono ?_
          rintro e w' ⟨rfl, rfl⟩
          go_wp2_with fail
          refine (p3).mono ?_
          rintro e w' ⟨rfl, rfl⟩
          go_wp2_with fail
          refine (p4).mono ?_
          rintro e w' ⟨rfl, rfl⟩
          go_wp2_with fail
          refine (p5).mono ?_
          rintro e w' ⟨rfl, rfl⟩
          go_wp2_with fail
          refine (p6).mono ?_
          rintro e w' ⟨rfl, rfl⟩
          go_wp2_with fail
          refine (p6).mono ?_
          rintro e w' ⟨rfl, rfl⟩
          go_wp2_with fail
          refine (p7).mono ?_
          rintro e w' ⟨rfl, rfl⟩
          go_wp2_with fail
          refine (p8).mono ?_
          rintro e w' ⟨rfl, rfl⟩
          go_wp2_with fail
          refine (q1).mono ?_
          rintro e w' ⟨rfl, rfl⟩
          go_wp2_with fail
          refine (q2).mono ?_
          rintro e w' ⟨rfl, rfl⟩
          go_wp2_with fail
          refine (b1).mono ?_
          rintro e w' ⟨rfl, rfl⟩
          go_wp2_with fail
          refine (q3).mono ?_
          rintro e w' ⟨rfl, rfl⟩
          go_wp2_with fail
          refine (q4).mono ?_
          rintro e w' ⟨rfl, rfl⟩
          go_wp2_with fail
          refine (b2).mono ?_
          rintro e w' ⟨rfl, rfl⟩
          go_wp2_with fail
          refine (q1).mono ?_
          rintro e w' ⟨rfl, rfl⟩
          go_wp2_with fail
          refine (q3).mono ?_
          rintro e w' ⟨rfl, rfl⟩
          go_wp2_with fail
          refine (ca).mono ?_
          rintro e w' ⟨rfl, rfl⟩
          go_wp2
          go_ret
          exact ⟨rfl, hz.out⟩
    · rw [decide_eq_false f1] at t2
      clear l0 l1 f0 f1
      go_enter Try.func9, Try.ntmps9
      go_wp2_with fail
      refine (t1).mono ?_
      rintro e w' ⟨rfl, rfl⟩
      go_wp2_with fail
      refine (t2).mono ?_
      rintro e w' ⟨rfl, rfl⟩
      go_wp2_with fail
      refine (ca).mono ?_
      rintro e w' ⟨rfl, rfl⟩
      go_wp2
      go_ret
      exact ⟨rfl, hz.out⟩
  · rw [decide_eq_false f0] at t1
    clear l0 l1 f0
    generalize decide (fin a1) = b at *
    go_enter Try.func9, Try.ntmps9
    go_wp2_with fail
    refine (t1).mono ?_
    rintro e w' ⟨rfl, rfl⟩
    go_wp2_with fail
    refine (t2).mono ?_
    rintro e w' ⟨rfl, rfl⟩
    go_wp2_with fail
    refine (ca).mono ?_
    rintro e w' ⟨rfl, rfl⟩
    go_wp2
    go_ret
    exact ⟨rfl, hz.out⟩

set_option maxRecDepth 100000 in
theorem numSides_lifted (os : Os) (started : os.Started) (H : Type) (enc : TypeId × Value → H) :
    ReturnsInHanded {} Try.checked os 9 .any (Rows.numSidesSpec.pre6 enc Try.prog Try.f9 Rows.numSidesRow.domain false) (Rows.numSidesSpec.post enc Try.prog Try.f9 false true false false) := by
  refine returnsInHanded_of_change (C := Try.checked) own started (by kernel_rfl) Try.func9
    (ChangeSpec.witness6 (enc := enc) (C := Try.checked) false ⟨#[], #[.float .f64 0, .float .f64 0], []⟩ 8 (by kernel_rfl) (by kernel_rfl) (by kernel_rfl) (by kernel_rfl)) ?_
  intro W base args ds gs before hval0 hW hcnd _
  have hval : ∀ (j : Nat) t v, Try.f9.params[j]? = some t → args[j]? = some v → Value.okWide Try.prog W .any base t v := hval0
  have hW' := hW
  obtain ⟨p, q, hA0, hV, rfl, hfz, hnd⟩ := hW
  have hA : DataW.TrodAll enc Try.prog W 0 (fun _ => true) true Try.f9.params.toList args.toList ds p := hA0
  rw [Try.params9] at hA hval
  obtain ⟨v0, vs0, d0, ds0, p0, q0, hargs, rfl, rfl, h0, r0⟩ := trodAll_cons hA
  obtain ⟨v1, vs1, d1, ds1, p1, q1, rfl, rfl, rfl, h1, r1⟩ := trodAll_cons r0
  obtain ⟨rfl, rfl, rfl⟩ := trodAll_nil r1
  obtain rfl : args = #[v0, v1] := by cases args; simp_all
  obtain ⟨rfl, rfl⟩ := trodVars_none hV
  obtain ⟨a0, rfl, rfl, rfl, w0⟩ := open_float Try.underlying22 (hval 0 22 v0 rfl rfl) h0
  obtain ⟨a1, rfl, rfl, rfl, w1⟩ := open_float Try.underlying22 (hval 1 22 v1 rfl rfl) h1
  clear hA0 hval0
  simp only [List.append_nil] at hW'
  refine (numSides_walk a0 a1 w0 w1 W).mono fun e W' ⟨he, hg⟩ => ?_
  subst he
  exact ⟨_, rfl, post_of_same (pa := []) (pv := []) hW' (fun _ _ _ => (trodAll_cons_mk (shut_bool Try.underlying4 _) trodAll_mk0)) (fun sp _ => (trodAll_cons_mk (shut_float Try.underlying22 w0) (trodAll_cons_mk (shut_float Try.underlying22 w1) trodAll_mk0))) (fun _ _ => rfl) rfl
    (hg.frame _) hg.2.1 (ok_one (by kernel_rfl) rfl (okWide_bool_mk Try.underlying4 _))⟩

/-- The statement of NumSides, whole: for every input the law returns true, and its arguments read as before. -/
theorem numSides_holds : Rows.NumSidesSaid :=
  OpenClaim.holds_of_wide 9 Try.f9 rfl rfl rfl rfl rfl rfl rfl ⟨rfl, rfl, rfl, rfl, rfl⟩ rfl rfl rfl rfl rfl (by kernel_rfl) Try.func9 (by kernel_rfl)
    (of_decide_eq_true (by kernel_rfl)) (by unfold Func.isWrapper; first | (rw [if_pos (by decide +kernel)]; kernel_rfl) | (rw [if_neg (by decide +kernel)]; exact ⟨rfl, rfl⟩))
    (fun os started H enc _ => numSides_lifted os started H enc)
end Go.Proofs.Ytnpmjchbelhgfaa
