/- Contracts of squeeze: rank, whole. -/
import Derived.Test.YtdfhefnjoekgbaaQb
namespace Go.Proofs.Ytdfhefnjoekgbaa
open Go.RowKit Bv Fl

set_option maxHeartbeats 1000000
theorem rank_any (n : Int) (w : World) : Calls Try.prog 66 #[.int .i64 n] w fun e w' => e = .returned (.int .i64 (rankI n : Int)) ∧ w = w' := by
  unfold rankI
  by_cases h1 : n = 0 ∨ n = 1
  · rw [if_pos h1]
    rcases h1 with rfl | rfl
    all_goals
      go_enter Try.func66, Try.ntmps66
      go_wp2
      go_ret
      exact ⟨rfl, rfl⟩
  · rw [if_neg h1]
    have e1 : (n == 0) = false := by simp; omega
    have e2 : (n == 1) = false := by simp; omega
    by_cases h2 : -128 ≤ n ∧ n ≤ 127
    · rw [if_pos h2]
      obtain ⟨h2, h3⟩ := h2
      clear h1
      go_enter Try.func66, Try.ntmps66
      go_wp2
      go_ret
      exact ⟨rfl, rfl⟩
    · rw [if_neg h2]
      clear h1
      by_cases h3 : -128 ≤ n
      · have h4 : 127 < n := by omega
        clear h2
        go_enter Try.func66, Try.ntmps66
        go_wp2
        go_ret
        exact ⟨rfl, rfl⟩
      · have h4 : n < -128 := by omega
        clear h2 h3
        go_enter Try.func66, Try.ntmps66
        go_wp2
        go_ret
        exact ⟨rfl, rfl⟩

theorem sqwhole_any (v : Value) (k : Nat) (l : List Nat) (j : Nat) (w : World) (h : IsNum w v k l) (hj : j < l.length) :
    Calls Try.prog 87 #[v, .int .i64 (j : Int)] w fun e w' => e = .returned (.tuple #[.int .i64 (wn (l.getD j 0)), .bool (decide (whole (l.getD j 0)))]) ∧ Ext w w' := by
  have hjl : (j : Int) < 1048576 := by have := h.lim; omega
  by_cases h3 : k ≤ 3
  · have c1 := fun w h => nwhole_in v k l j w h hj h3
    rw [decide_eq_true (h.whole h3 hj)]
    obtain ⟨f1, bn, f3, f4, f5, f6, f7, rfl⟩ := h.form
    have HV := Lib.hid h
    clear h h3 hj
    generalize (k : Int) = kk at *
    generalize wn (l.getD j 0) = x at *
    go_enter Try.func87, Try.ntmps87
    go_wp2_with fail
    refine (c1 _ (HV.out.ext ((Ext.refl w).alloc _))).mono ?_
    rintro e w1 ⟨rfl, hx⟩
    have HX := Lib.hid (((Ext.refl w).alloc _).trans hx)
    clear hx
    go_wp2
    go_ret2
    exact ⟨rfl, HX.out⟩
  · have h4 : k = 4 := by have := h.rng; omega
    subst h4
    have c1 := fun w h => nwhole_four v l j w h hj
    have c2 := fun w h => nnum_in v 4 l j w h hj
    have c3 := fun w => whole_any (l.getD j 0) w
    obtain ⟨f1, bn, f3, f4, f5, f6, f7, rfl⟩ := h.form
    have HV := Lib.hid h
    clear h h3 hj
    generalize l.getD j 0 = x at *
    go_enter Try.func87, Try.ntmps87
    go_wp2_with fail
    refine (c1 _ (HV.out.ext ((Ext.refl w).alloc _))).mono ?_
    rintro e w1 ⟨rfl, hx⟩
    obtain ⟨hc, hf⟩ := hx.cells
    have HX := Lib.hid (((Ext.refl w).alloc _).trans hx)
    clear hx
    go_wp2_with fail
    refine (c2 _ (HV.out.ext HX.out)).mono ?_
    rintro e w2 ⟨rfl, hx⟩
    replace HX := Lib.hid (HX.out.trans hx)
    clear hx hc hf
    go_wp2_with fail
    refine (c3 _).mono ?_
    rintro e w2 ⟨rfl, rfl⟩
    go_wp2
    go_ret2
    exact ⟨rfl, HX.out⟩
end Go.Proofs.Ytdfhefnjoekgbaa
