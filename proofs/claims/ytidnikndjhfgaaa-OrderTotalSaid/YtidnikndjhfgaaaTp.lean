/- OrderTotal: its plain law, and the walk that joins its cases. -/
import Derived.Test.YtidnikndjhfgaaaTn
import Derived.Test.YtidnikndjhfgaaaTo
namespace Go.Proofs.Ytidnikndjhfgaaa
open Go.ChangeShapes Go.WideShapes Go.RowKit Bv Fl
set_option maxHeartbeats 2000000
set_option maxRecDepth 100000
theorem cellZ_one (X : List Int) (i k : Nat) : cellZ X (i * 1) (k * 1) 1 = cmpZ (X.getD i 0) (X.getD k 0) := by
  show (if cellZ X (i * 1) (k * 1) 0 ≠ 0 then _ else cmpZ (X.getD (i * 1 + 0) 0) (X.getD (k * 1 + 0) 0)) = _
  rw [if_neg (by show ¬ ((0 : Int) ≠ 0); omega)]
  simp
theorem cmpZ_neg (a b : Int) : cmpZ a b = - cmpZ b a := by
  unfold cmpZ
  by_cases h1 : a < b
  · rw [if_pos h1, if_neg (by omega), if_pos h1]
  · by_cases h2 : b < a
    · rw [if_neg h1, if_pos h2, if_pos h2]; rfl
    · rw [if_neg h1, if_neg h2, if_neg h2, if_neg h1]; rfl
/-- of single elements: ahead -/
theorem lessZ_one (X : List Int) (i k : Nat) (down : Bool) : lessZ X 1 i k down = if down then decide (X.getD k 0 < X.getD i 0 ∨ X.getD i 0 = X.getD k 0 ∧ i < k) else decide (X.getD i 0 < X.getD k 0 ∨ X.getD i 0 = X.getD k 0 ∧ i < k) := by
  unfold lessZ
  rw [cellZ_one]
  generalize X.getD i 0 = a
  generalize X.getD k 0 = b
  unfold cmpZ
  by_cases h1 : a < b
  · rw [if_pos h1, if_neg (by decide)]
    cases down
    · simp [h1]
    · simp; omega
  · by_cases h2 : b < a
    · rw [if_neg h1, if_pos h2, if_neg (by decide)]
      cases down
      · simp; omega
      · simp [h2]
    · rw [if_neg h1, if_neg h2, if_pos rfl]
      have e : a = b := by omega
      subst e
      cases down <;> simp
theorem lessZ_asym (X : List Int) (i k : Nat) (down : Bool) (h : i ≠ k) : lessZ X 1 k i down = !lessZ X 1 i k down := by
  rw [lessZ_one, lessZ_one]
  cases down
  · simp only [Bool.false_eq_true, if_false, ← decide_not]
    exact decide_eq_decide.2 (by omega)
  · simp only [if_true, ← decide_not]
    exact decide_eq_decide.2 (by omega)
theorem lessZ_trans1 (X : List Int) (i j k : Nat) (down : Bool) (h1 : lessZ X 1 i j down = true) (h2 : lessZ X 1 j k down = true) : lessZ X 1 i k down = true := by
  rw [lessZ_one] at *
  cases down
  · simp only [Bool.false_eq_true, if_false, decide_eq_true_eq] at *
    omega
  · simp only [if_true, decide_eq_true_eq] at *
    omega
theorem orderTotal_walk (w : World) (p : Pl) (n : Nat) (hp : Deep n w p) (i : Int) (_ : (Lit.int .i64 i).wf = true) (j : Int) (_ : (Lit.int .i64 j).wf = true) (k : Int) (_ : (Lit.int .i64 k).wf = true) (down : Bool) (_ : True) :
    Calls Try.prog 6 #[p.val, .int .i64 i, .int .i64 j, .int .i64 k, .bool down] w fun e w' => e = .returned (.bool true) ∧ Ext w w' := by
  obtain ⟨zc, hg, hck⟩ := plCheck n w p hp
  have cg : ∀ w', Ext w w' → Calls Try.prog 14 #[p.val] w' (GoodB p.its.length zc p.fill w') := fun w' hx =>
    ogood_any _ _ _ _ _ _ _ _ w' (fun w2 h2 => plcount_any n w2 p 3000 (hp.ext (hx.trans h2))) (fun w2 h2 => hck w2 (hx.trans h2))
  by_cases h1 : i < 0
  · exact ototal_b1 _ _ _ _ _ _ _ zc w cg i j k down h1
  by_cases h2 : j < 0
  · exact ototal_b2 _ _ _ _ _ _ _ zc w cg i j k down h1 h2
  by_cases h3 : k < 0
  · exact ototal_b3 _ _ _ _ _ _ _ zc w cg i j k down h1 h2 h3
  by_cases h4 : (p.its.length : Int) ≤ i
  · exact ototal_b4 _ _ _ _ _ _ _ zc w cg i j k down h1 h2 h3 h4
  by_cases h5 : (p.its.length : Int) ≤ j
  · exact ototal_b5 _ _ _ _ _ _ _ zc w cg i j k down h1 h2 h3 h4 h5
  by_cases h6 : (p.its.length : Int) ≤ k
  · exact ototal_b6 _ _ _ _ _ _ _ zc w cg i j k down h1 h2 h3 h4 h5 h6
  obtain ⟨a, rfl⟩ : ∃ z : Nat, i = z := ⟨i.toNat, by omega⟩
  obtain ⟨b, rfl⟩ : ∃ z : Nat, j = z := ⟨j.toNat, by omega⟩
  obtain ⟨c, rfl⟩ : ∃ z : Nat, k = z := ⟨k.toNat, by omega⟩
  have hl := plK_len p
  have co : zc = 0 → p.fill < 2 → ∀ w', Ext w w' → Calls Try.prog 16 #[p.val] w' (OfA (plK p) w') := fun hz hf w' hx => lOf_p n w w' p (hg hz) hx hf
  have ls : ∀ x y : Nat, x < p.its.length → y < p.its.length → ∀ v w', OV w' v (plK p) → Calls Try.prog 19 #[v, .int .i64 1, .int .i64 (x : Int), .int .i64 (y : Int), .bool down] w' fun e w2 => e = .returned (.bool (lessZ (plK p) 1 x y down)) ∧ Ext w' w2 := fun x y hx hy v w' hv => less_any v (plK p) 1 x y down w' hv (by omega) (by omega) (by omega)
  have cs : ∀ x y : Nat, x < p.its.length → y < p.its.length → ∀ v w', OV w' v (plK p) → Calls Try.prog 17 #[v, .int .i64 1, .int .i64 (x : Int), .int .i64 (y : Int)] w' fun e w2 => e = .returned (.int .i64 (cellZ (plK p) (x * 1) (y * 1) 1)) ∧ Ext w' w2 := fun x y hx hy v w' hv => cells_any v (plK p) 1 x y _ _ w' hv (by omega) rfl rfl (by omega) (by omega)
  have ka := ls a b (by omega) (by omega)
  have kb := ls b c (by omega) (by omega)
  have kc := ls a c (by omega) (by omega)
  have kd := ls b a (by omega) (by omega)
  have ca := cs a b (by omega) (by omega)
  have cb := cs b a (by omega) (by omega)
  rw [show cellZ (plK p) (a * 1) (b * 1) 1 = - cellZ (plK p) (b * 1) (a * 1) 1 by rw [cellZ_one, cellZ_one]; exact cmpZ_neg _ _] at ca
  have hr := cellZ_rng (plK p) (b * 1) (a * 1) 1
  have hr1 : -1 ≤ cellZ (plK p) (b * 1) (a * 1) 1 := by omega
  have hr2 : cellZ (plK p) (b * 1) (a * 1) 1 ≤ 1 := by omega
  have ht := lessZ_trans1 (plK p) a b c down
  by_cases hij : a = b
  · subst hij
    have e79 : ((a : Int) != (a : Int)) = false := by simp
    cases h : lessZ (plK p) 1 a a down with
    | false =>
      rw [h] at ka kd
      exact ototal_m2 _ _ _ _ _ _ _ zc w cg _ _ _ down _ co h1 h2 h3 h4 h5 h6 _ _ _ hr1 hr2 e79 ka kb kc kd ca cb
    | true =>
      rw [h] at ka kd
      cases h' : lessZ (plK p) 1 a c down with
      | false =>
        rw [h'] at kb
        exact ototal_m4 _ _ _ _ _ _ _ zc w cg _ _ _ down _ co h1 h2 h3 h4 h5 h6 _ _ hr1 hr2 e79 ka kb kc kd ca cb
      | true =>
        rw [h'] at kb kc
        exact ototal_m6 _ _ _ _ _ _ _ zc w cg _ _ _ down _ co h1 h2 h3 h4 h5 h6 _ hr1 hr2 e79 ka kb kc kd ca cb
  · have e79 : ((a : Int) != (b : Int)) = true := by simp; omega
    have hd := lessZ_asym (plK p) a b down hij
    cases h : lessZ (plK p) 1 a b down with
    | false =>
      rw [h] at ka hd
      rw [hd] at kd
      exact ototal_m1 _ _ _ _ _ _ _ zc w cg _ _ _ down _ co h1 h2 h3 h4 h5 h6 _ _ _ hr1 hr2 e79 ka kb kc kd ca cb
    | true =>
      rw [h] at ka hd
      rw [hd] at kd
      cases h' : lessZ (plK p) 1 b c down with
      | false =>
        rw [h'] at kb
        exact ototal_m3 _ _ _ _ _ _ _ zc w cg _ _ _ down _ co h1 h2 h3 h4 h5 h6 _ _ hr1 hr2 e79 ka kb kc kd ca cb
      | true =>
        rw [h'] at kb
        rw [ht h h'] at kc
        exact ototal_m5 _ _ _ _ _ _ _ zc w cg _ _ _ down _ co h1 h2 h3 h4 h5 h6 _ hr1 hr2 e79 ka kb kc kd ca cb
end Go.Proofs.Ytidnikndjhfgaaa
