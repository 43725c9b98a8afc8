/- Contracts of the functions of num and rebusref03: truths, signs, sizes, whole numbers below and above: the walks. -/
import Derived.Test.YtnpmjchbelhgfaaNi
namespace Go.Proofs.Ytnpmjchbelhgfaa
open Go.RowKit Fl

set_option maxHeartbeats 400000
def bitW (b : Bool) : Nat := if b then 4607182418800017408 else 0
theorem flag_any (b : Bool) (w : World) : Calls Try.prog 36 #[.bool b] w fun e w' => e = .returned (.float .f64 (bitW b)) ∧ w = w' := by
  cases b
  all_goals
    go_enter Try.func36, Try.ntmps36
    go_wp2
    go_ret
    exact ⟨rfl, rfl⟩
theorem eq_one {b : Nat} (h : tidy b) : (FloatKind.f64.format.order b 4607182418800017408 == some .eq) = decide (b = 4607182418800017408) := by
  rw [c_eq h.1.nn nn_one, decide_eq_decide]
  exact ⟨fun e => tidy_key h ⟨fin_one, by decide, fun h => absurd h (by decide)⟩ e, fun e => by rw [e]⟩
theorem eq_zero' {b : Nat} (h : tidy b) : (FloatKind.f64.format.order b 0 == some .eq) = decide (b = 0) := by
  rw [eq_zero h.1.nn, decide_eq_decide]
  exact ⟨h.2.2, fun e => by rw [e]; decide⟩
theorem truth_any (b : Nat) (h : tidy b) (w : World) : Calls Try.prog 33 #[.float .f64 b] w fun e w' => e = .returned (.tuple #[.bool (decide (b = 4607182418800017408)), .bool (decide (b = 0 ∨ b = 4607182418800017408))]) ∧ w = w' := by
  have c1 := eq_one h
  have c0 := eq_zero' h
  by_cases h0 : b = 0
  · rw [decide_eq_true (Or.inl h0)]
    have h1 : ¬ b = 4607182418800017408 := by rw [h0]; decide
    rw [decide_eq_false h1] at c1 ⊢
    rw [decide_eq_true h0] at c0
    clear h0 h1 h
    go_enter Try.func33, Try.ntmps33
    go_wp2
    go_ret2
    exact ⟨rfl, rfl⟩
  · have e : decide (b = 0 ∨ b = 4607182418800017408) = decide (b = 4607182418800017408) := by rw [decide_eq_decide]; exact ⟨fun h => h.resolve_left h0, Or.inr⟩
    rw [e]
    rw [decide_eq_false h0] at c0
    clear e h h0
    generalize decide (b = 4607182418800017408) = d at *
    go_enter Try.func33, Try.ntmps33
    go_wp2
    go_ret2
    exact ⟨rfl, rfl⟩
theorem gt_zero {b : Nat} (h : nn b) : (FloatKind.f64.format.order b 0 == some .gt) = decide (0 < key b) := by
  rw [c_gt h nn_zero, key_zero]
theorem lt_zero {b : Nat} (h : nn b) : (FloatKind.f64.format.order b 0 == some .lt) = decide (key b < 0) := by
  rw [c_lt h nn_zero, key_zero]
/-- a sign -/
def sgN (b : Nat) : Nat := if 0 < key b then 4607182418800017408 else if key b < 0 then 13830554455654793216 else 0
theorem sign_any (b : Nat) (h : nn b) (w : World) : Calls Try.prog 34 #[.float .f64 b] w fun e w' => e = .returned (.float .f64 (sgN b)) ∧ w = w' := by
  have c1 := gt_zero h
  have c2 := lt_zero h
  unfold sgN
  by_cases h1 : 0 < key b
  · rw [if_pos h1]
    rw [decide_eq_true h1] at c1
    rw [decide_eq_false (by omega)] at c2
    clear h1 h
    go_enter Try.func34, Try.ntmps34
    go_wp2
    go_ret
    exact ⟨rfl, rfl⟩
  · rw [if_neg h1]
    rw [decide_eq_false h1] at c1
    by_cases h2 : key b < 0
    · rw [if_pos h2]
      rw [decide_eq_true h2] at c2
      clear h1 h2 h
      go_enter Try.func34, Try.ntmps34
      go_wp2
      go_ret
      exact ⟨rfl, rfl⟩
    · rw [if_neg h2]
      rw [decide_eq_false h2] at c2
      clear h1 h2 h
      go_enter Try.func34, Try.ntmps34
      go_wp2
      go_ret
      exact ⟨rfl, rfl⟩
def absN (b : Nat) : Nat := if key b < 0 then opp b else b
theorem abs_any (b : Nat) (h : nn b) (hb : b < 18446744073709551616) (w : World) : Calls Try.prog 35 #[.float .f64 b] w fun e w' => e = .returned (.float .f64 (absN b)) ∧ w = w' := by
  have c2 := lt_zero h
  have ho : Op.negFloat .f64 b = opp b := xor_sign hb
  unfold absN
  by_cases h2 : key b < 0
  · rw [if_pos h2]
    rw [decide_eq_true h2] at c2
    have hu : ∀ w, (Op.unary .neg (.float .f64 b)).run Try.prog w = .ok (.float .f64 (opp b)) w := by intro w; rw [← ho]; rfl
    clear h2 h hb ho
    go_enter Try.func35, Try.ntmps35
    go_wp2
    go_ret
    exact ⟨rfl, rfl⟩
  · rw [if_neg h2]
    rw [decide_eq_false h2] at c2
    clear h2 h hb ho
    go_enter Try.func35, Try.ntmps35
    go_wp2
    go_ret
    exact ⟨rfl, rfl⟩

/-! ### math.Floor, math.Ceil -/
theorem archFloor_run (b : Nat) (h : fin b) (w : World) : (callFunc 50 #[.float .f64 b]).run Try.prog w = .ok (.value (.float .f64 (Ieee.double.word (neg b) (rnd (flM b) 0)))) w := by
  have e := @run_callFunc_extern Try.prog 50 _ (Extern.MathFloor.toIntegral "math.archFloor" .down) Try.func50 (by kernel_rfl) (by kernel_rfl) (by kernel_rfl) (by kernel_rfl) #[.float .f64 b] w
  rw [e, ← floor_word h]
  obtain ⟨m, x, rb, _⟩ := read_fin h
  have rb' : FloatKind.f64.decode b = .number (neg b) m (-1074 + (x : Int)) := rb
  change (Sem.run Try.prog (match FloatKind.f64.decode b with
    | .nan s t =>
      if FloatKind.f64.format.quiet t = t then pure (Value.float .f64 b) else do
      let kept ← choose (.extern _ 2)
      pure (Value.float .f64 (if kept == 1 then b else FloatKind.f64.encode (.nan s (FloatKind.f64.format.quiet t))))
    | d => pure (Value.float .f64 (FloatKind.f64.encode (d.integral .down)))) w).andThen _ = _
  rw [rb']
  rfl
theorem archCeil_run (b : Nat) (h : fin b) (w : World) : (callFunc 52 #[.float .f64 b]).run Try.prog w = .ok (.value (.float .f64 (Ieee.double.word (neg b) (rnd (ceM b) 0)))) w := by
  have e := @run_callFunc_extern Try.prog 52 _ (Extern.MathFloor.toIntegral "math.archCeil" .up) Try.func52 (by kernel_rfl) (by kernel_rfl) (by kernel_rfl) (by kernel_rfl) #[.float .f64 b] w
  rw [e, ← ceil_word h]
  obtain ⟨m, x, rb, _⟩ := read_fin h
  have rb' : FloatKind.f64.decode b = .number (neg b) m (-1074 + (x : Int)) := rb
  change (Sem.run Try.prog (match FloatKind.f64.decode b with
    | .nan s t =>
      if FloatKind.f64.format.quiet t = t then pure (Value.float .f64 b) else do
      let kept ← choose (.extern _ 2)
      pure (Value.float .f64 (if kept == 1 then b else FloatKind.f64.encode (.nan s (FloatKind.f64.format.quiet t))))
    | d => pure (Value.float .f64 (FloatKind.f64.encode (d.integral .up)))) w).andThen _ = _
  rw [rb']
  rfl
theorem mathFloor_any (b : Nat) (h : fin b) (w : World) : Calls Try.prog 48 #[.float .f64 b] w fun e w' => e = .returned (.float .f64 (Ieee.double.word (neg b) (rnd (flM b) 0))) ∧ w = w' := by
  have r := archFloor_run b h
  clear h
  go_enter Try.func48, Try.ntmps48
  go_wp2
  go_ret
  exact ⟨rfl, rfl⟩
theorem mathCeil_any (b : Nat) (h : fin b) (w : World) : Calls Try.prog 49 #[.float .f64 b] w fun e w' => e = .returned (.float .f64 (Ieee.double.word (neg b) (rnd (ceM b) 0))) ∧ w = w' := by
  have r := archCeil_run b h
  clear h
  go_enter Try.func49, Try.ntmps49
  go_wp2
  go_ret
  exact ⟨rfl, rfl⟩
end Go.Proofs.Ytnpmjchbelhgfaa
