/- SqueezeCommon, for every input: the walk. -/
import Derived.Test.YtdfhefnjoekgbaaQm
import Derived.Test.YtdfhefnjoekgbaaNh
namespace Go.Proofs.Ytdfhefnjoekgbaa
open Go.ChangeShapes Go.WideShapes Go.RowKit Bv Fl

/-- the least store that holds what two hold -/
def commonI (a b : Int) : Int := if a = b then a else if 1 ≤ a ∧ a ≤ 4 ∧ 1 ≤ b ∧ b ≤ 4 then (if a < b then b else a) else 0
theorem common_any (a b : Int) (w : World) : Calls Try.prog 31 #[.int .i64 a, .int .i64 b] w fun e w' => e = .returned (.int .i64 (commonI a b)) ∧ w = w' := by
  by_cases e : a = b
  · subst e
    rw [show commonI a a = a by simp [commonI]]
    go_enter Try.func31, Try.ntmps31
    go_wp2
    go_ret
    exact ⟨rfl, rfl⟩
  · have e1 : (a == b) = false := by simpa using e
    by_cases r1 : 1 ≤ a
    · by_cases r2 : a ≤ 4
      · by_cases r3 : 1 ≤ b
        · by_cases r4 : b ≤ 4
          · by_cases r5 : a < b
            · rw [show commonI a b = b by unfold commonI; rw [if_neg e, if_pos ⟨r1, r2, r3, r4⟩, if_pos r5]]
              clear e
              go_enter Try.func31, Try.ntmps31
              go_wp2
              go_ret
              exact ⟨rfl, rfl⟩
            · rw [show commonI a b = a by unfold commonI; rw [if_neg e, if_pos ⟨r1, r2, r3, r4⟩, if_neg r5]]
              have r5 : b < a := by omega
              clear e
              go_enter Try.func31, Try.ntmps31
              go_wp2
              go_ret
              exact ⟨rfl, rfl⟩
          · have r4 : 4 < b := by omega
            rw [show commonI a b = 0 by unfold commonI; rw [if_neg e, if_neg (by omega)]]
            clear e
            go_enter Try.func31, Try.ntmps31
            go_wp2
            go_ret
            exact ⟨rfl, rfl⟩
        · have r3 : b < 1 := by omega
          rw [show commonI a b = 0 by unfold commonI; rw [if_neg e, if_neg (by omega)]]
          clear e
          go_enter Try.func31, Try.ntmps31
          go_wp2
          go_ret
          exact ⟨rfl, rfl⟩
      · have r2 : 4 < a := by omega
        rw [show commonI a b = 0 by unfold commonI; rw [if_neg e, if_neg (by omega)]]
        clear e
        go_enter Try.func31, Try.ntmps31
        go_wp2
        go_ret
        exact ⟨rfl, rfl⟩
    · have r1 : a < 1 := by omega
      rw [show commonI a b = 0 by unfold commonI; rw [if_neg e, if_neg (by omega)]]
      clear e
      go_enter Try.func31, Try.ntmps31
      go_wp2
      go_ret
      exact ⟨rfl, rfl⟩

set_option maxHeartbeats 1000000
theorem squeezeCommon_walk (w : World) (a : Int) (_ : (Lit.int .i64 a).wf = true) (b : Int) (_ : (Lit.int .i64 b).wf = true) :
    Calls Try.prog 6 #[.int .i64 a, .int .i64 b] w fun e w' => e = .returned (.bool true) ∧ Ext w w' := by
  have ca := fun w => awake_any w
  have c1 := fun w => common_any a b w
  have c2 := fun w => common_any b a w
  by_cases e : a = b
  · subst e
    rw [show commonI a a = a by simp [commonI]] at c1 c2
    by_cases r1 : 1 ≤ a
    · by_cases r2 : a ≤ 4
      · go_enter Try.func6, Try.ntmps6
        go_wp2_with fail
        refine (c1 _).mono ?_
        rintro e w1 ⟨rfl, rfl⟩
        go_wp2_with fail
        refine (c2 _).mono ?_
        rintro e w1 ⟨rfl, rfl⟩
        go_wp2_with fail
        refine (ca _).mono ?_
        rintro e w1 ⟨rfl, hx⟩
        go_wp2
        go_ret
        exact ⟨rfl, hx⟩
      · have r2 : 4 < a := by omega
        go_enter Try.func6, Try.ntmps6
        go_wp2_with fail
        refine (c1 _).mono ?_
        rintro e w1 ⟨rfl, rfl⟩
        go_wp2_with fail
        refine (c2 _).mono ?_
        rintro e w1 ⟨rfl, rfl⟩
        go_wp2_with fail
        refine (ca _).mono ?_
        rintro e w1 ⟨rfl, hx⟩
        go_wp2
        go_ret
        exact ⟨rfl, hx⟩
    · have r1 : a < 1 := by omega
      go_enter Try.func6, Try.ntmps6
      go_wp2_with fail
      refine (c1 _).mono ?_
      rintro e w1 ⟨rfl, rfl⟩
      go_wp2_with fail
      refine (c2 _).mono ?_
      rintro e w1 ⟨rfl, rfl⟩
      go_wp2_with fail
      refine (ca _).mono ?_
      rintro e w1 ⟨rfl, hx⟩
      go_wp2
      go_ret
      exact ⟨rfl, hx⟩
  · have e1 : (a == b) = false := by simpa using e
    by_cases r1 : 1 ≤ a
    · by_cases r2 : a ≤ 4
      · by_cases r3 : 1 ≤ b
        · by_cases r4 : b ≤ 4
          · by_cases r5 : a < b
            · rw [show commonI a b = b by unfold commonI; rw [if_neg e, if_pos ⟨r1, r2, r3, r4⟩, if_pos r5]] at c1
              rw [show commonI b a = b by unfold commonI; rw [if_neg (Ne.symm e), if_pos ⟨r3, r4, r1, r2⟩, if_neg (by omega)]] at c2
              clear e
              go_enter Try.func6, Try.ntmps6
              go_wp2_with fail
              refine (c1 _).mono ?_
              rintro e w1 ⟨rfl, rfl⟩
              go_wp2_with fail
              refine (c2 _).mono ?_
              rintro e w1 ⟨rfl, rfl⟩
              go_wp2_with fail
              refine (ca _).mono ?_
              rintro e w1 ⟨rfl, hx⟩
              go_wp2
              go_ret
              exact ⟨rfl, hx⟩
            · rw [show commonI a b = a by unfold commonI; rw [if_neg e, if_pos ⟨r1, r2, r3, r4⟩, if_neg r5]] at c1
              rw [show commonI b a = a by unfold commonI; rw [if_neg (Ne.symm e), if_pos ⟨r3, r4, r1, r2⟩, if_pos (by omega)]] at c2
              have r6 : b < a := by omega
              clear e
              go_enter Try.func6, Try.ntmps6
              go_wp2_with fail
              refine (c1 _).mono ?_
              rintro e w1 ⟨rfl, rfl⟩
              go_wp2_with fail
              refine (c2 _).mono ?_
              rintro e w1 ⟨rfl, rfl⟩
              go_wp2_with fail
              refine (ca _).mono ?_
              rintro e w1 ⟨rfl, hx⟩
              go_wp2
              go_ret
              exact ⟨rfl, hx⟩
          · have r4 : 4 < b := by omega
            rw [show commonI a b = 0 by unfold commonI; rw [if_neg e, if_neg (by omega)]] at c1
            rw [show commonI b a = 0 by unfold commonI; rw [if_neg (Ne.symm e), if_neg (by omega)]] at c2
            clear e
            go_enter Try.func6, Try.ntmps6
            go_wp2_with fail
            refine (c1 _).mono ?_
            rintro e w1 ⟨rfl, rfl⟩
            go_wp2_with fail
            refine (c2 _).mono ?_
            rintro e w1 ⟨rfl, rfl⟩
            go_wp2_with fail
            refine (ca _).mono ?_
            rintro e w1 ⟨rfl, hx⟩
            go_wp2
            go_ret
            exact ⟨rfl, hx⟩
        · have r3 : b < 1 := by omega
          rw [show commonI a b = 0 by unfold commonI; rw [if_neg e, if_neg (by omega)]] at c1
          rw [show commonI b a = 0 by unfold commonI; rw [if_neg (Ne.symm e), if_neg (by omega)]] at c2
          clear e
          go_enter Try.func6, Try.ntmps6
          go_wp2_with fail
          refine (c1 _).mono ?_
          rintro e w1 ⟨rfl, rfl⟩
          go_wp2_with fail
          refine (c2 _).mono ?_
          rintro e w1 ⟨rfl, rfl⟩
          go_wp2_with fail
          refine (ca _).mono ?_
          rintro e w1 ⟨rfl, hx⟩
          go_wp2
          go_ret
          exact ⟨rfl, hx⟩
      · have r2 : 4 < a := by omega
        rw [show commonI a b = 0 by unfold commonI; rw [if_neg e, if_neg (by omega)]] at c1
        rw [show commonI b a = 0 by unfold commonI; rw [if_neg (Ne.symm e), if_neg (by omega)]] at c2
        clear e
        go_enter Try.func6, Try.ntmps6
        go_wp2_with fail
        refine (c1 _).mono ?_
        rintro e w1 ⟨rfl, rfl⟩
        go_wp2_with fail
        refine (c2 _).mono ?_
        rintro e w1 ⟨rfl, rfl⟩
        go_wp2_with fail
        refine (ca _).mono ?_
        rintro e w1 ⟨rfl, hx⟩
        go_wp2
        go_ret
        exact ⟨rfl, hx⟩
    · have r1 : a < 1 := by omega
      rw [show commonI a b = 0 by unfold commonI; rw [if_neg e, if_neg (by omega)]] at c1
      rw [show commonI b a = 0 by unfold commonI; rw [if_neg (Ne.symm e), if_neg (by omega)]] at c2
      clear e
      go_enter Try.func6, Try.ntmps6
      go_wp2_with fail
      refine (c1 _).mono ?_
      rintro e w1 ⟨rfl, rfl⟩
      go_wp2_with fail
      refine (c2 _).mono ?_
      rintro e w1 ⟨rfl, rfl⟩
      go_wp2_with fail
      refine (ca _).mono ?_
      rintro e w1 ⟨rfl, hx⟩
      go_wp2
      go_ret
      exact ⟨rfl, hx⟩
end Go.Proofs.Ytdfhefnjoekgbaa
