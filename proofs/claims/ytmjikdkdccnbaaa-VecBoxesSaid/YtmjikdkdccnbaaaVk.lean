/- The document's comparisons: lists of characters, truths, words; numbers. -/
import Derived.Test.YtmjikdkdccnbaaaV
import Derived.Deep.QuietTactic
import Derived.BigQuiet
namespace Go.Proofs.Ytmjikdkdccnbaaa
open Go.RowKit Bv Fl

theorem drewN_refl (w : World) : ∃ m, w = w.drewN m := ⟨0, rfl⟩
theorem Ext.of_drewN {w w' : World} (h : ∃ m, w' = w.drewN m) : Ext w w' := by
  obtain ⟨m, rfl⟩ := h
  exact (Ext.refl w).drewN m

/-- the same up to a place -/
def same_int (a b : List Int) (k : Nat) : Prop := ∀ j, j < k → a.getD j (0 : Int) = b.getD j (0 : Int)
theorem same_int_all {a b : List Int} (hl : a.length = b.length) (h : same_int a b a.length) : decide (a = b) = true := by
  apply decide_eq_true
  apply List.ext_getElem hl
  intro i h1 h2
  have := h i h1
  simpa [List.getD, h1, h2] using this
theorem same_int_step {a b : List Int} {k : Nat} (h : same_int a b k) (g : a.getD k (0 : Int) = b.getD k (0 : Int)) : same_int a b (k + 1) := by
  intro j hj
  by_cases e : j = k
  · subst e; exact g
  · exact h j (by omega)
theorem same_int_not {a b : List Int} {k : Nat} (h : a.getD k (0 : Int) ≠ b.getD k (0 : Int)) : decide (a = b) = false := by
  apply decide_eq_false
  intro e
  exact h (by rw [e])
theorem same_int_len {a b : List Int} (h : a.length ≠ b.length) : decide (a = b) = false := by
  apply decide_eq_false
  intro e
  exact h (by rw [e])
/-- the same up to a place -/
def same_bool (a b : List Bool) (k : Nat) : Prop := ∀ j, j < k → a.getD j false = b.getD j false
theorem same_bool_all {a b : List Bool} (hl : a.length = b.length) (h : same_bool a b a.length) : decide (a = b) = true := by
  apply decide_eq_true
  apply List.ext_getElem hl
  intro i h1 h2
  have := h i h1
  simpa [List.getD, h1, h2] using this
theorem same_bool_step {a b : List Bool} {k : Nat} (h : same_bool a b k) (g : a.getD k false = b.getD k false) : same_bool a b (k + 1) := by
  intro j hj
  by_cases e : j = k
  · subst e; exact g
  · exact h j (by omega)
theorem same_bool_not {a b : List Bool} {k : Nat} (h : a.getD k false ≠ b.getD k false) : decide (a = b) = false := by
  apply decide_eq_false
  intro e
  exact h (by rw [e])
theorem same_bool_len {a b : List Bool} (h : a.length ≠ b.length) : decide (a = b) = false := by
  apply decide_eq_false
  intro e
  exact h (by rw [e])
/-- the same up to a place -/
def same_nat (a b : List Nat) (k : Nat) : Prop := ∀ j, j < k → a.getD j (0 : Nat) = b.getD j (0 : Nat)
theorem same_nat_all {a b : List Nat} (hl : a.length = b.length) (h : same_nat a b a.length) : decide (a = b) = true := by
  apply decide_eq_true
  apply List.ext_getElem hl
  intro i h1 h2
  have := h i h1
  simpa [List.getD, h1, h2] using this
theorem same_nat_step {a b : List Nat} {k : Nat} (h : same_nat a b k) (g : a.getD k (0 : Nat) = b.getD k (0 : Nat)) : same_nat a b (k + 1) := by
  intro j hj
  by_cases e : j = k
  · subst e; exact g
  · exact h j (by omega)
theorem same_nat_not {a b : List Nat} {k : Nat} (h : a.getD k (0 : Nat) ≠ b.getD k (0 : Nat)) : decide (a = b) = false := by
  apply decide_eq_false
  intro e
  exact h (by rw [e])
theorem same_nat_len {a b : List Nat} (h : a.length ≠ b.length) : decide (a = b) = false := by
  apply decide_eq_false
  intro e
  exact h (by rw [e])

set_option maxHeartbeats 1000000
theorem runes_any (A A' : Option Addr) (a b : List Int) (n m c c' : Nat) (hn : n = a.length) (hm : m = b.length) (w : World) (hl : n ≤ 1048576) (hs : Sl w 1 A n (i32s a)) (hs' : Sl w 1 A' m (i32s b)) : Calls Try.prog 16 #[.slice A n c, .slice A' m c'] w fun e w' => e = .returned (.bool (decide (a = b))) ∧ ∃ m, w' = w.drewN m := by
  by_cases hnm : n = m
  · have hab : a.length = b.length := by rw [← hn, ← hm]; exact hnm
    subst hnm
    have HS := Lib.hid hs
    have HS' := Lib.hid hs'
    have HN := Lib.hid hn
    have HL := Lib.hid hab
    clear hs hs' hn hm hab
    obtain ⟨r, hr⟩ : ∃ r, decide (a = b) = r := ⟨_, rfl⟩
    rw [hr]
    have HB := Lib.hid hr
    clear hr
    go_enter Try.func16, Try.ntmps16
    go_wp2_with fail
    go_loopw [5] (fun i wr => ∃ k : Nat, k ≤ n ∧ i = .int .i64 k ∧ same_int a b k ∧ ∃ q, wr = w.drewN q) (fun i _ => n - (intOf i).toNat)
    case atStart => exact ⟨0, Nat.zero_le _, rfl, fun j hj => absurd hj (by omega), 0, rfl⟩
    case round =>
      obtain ⟨k, hk, rfl, hup, q, rfl⟩ := hrel
      have HU := Lib.hid hup
      clear hup
      by_cases hlt : k < n
      · obtain ⟨g, u, rfl, hab, hu, hcell⟩ := HS.out.at1 hlt
        rw [i32s_get (by rw [← HN.out]; exact hlt)] at hu
        cases hu
        obtain ⟨g', u', rfl, hab', hu', hcell'⟩ := HS'.out.at1 hlt
        rw [i32s_get (by rw [← HL.out, ← HN.out]; exact hlt)] at hu'
        cases hu'
        have L0 : w.cell? (g.add k) = some (.int .i32 (a.getD k (0 : Int))) := hcell
        have L1 : w.cell? (g'.add k) = some (.int .i32 (b.getD k (0 : Int))) := hcell'
        have hki : (k : Int) < (n : Int) := by omega
        have hk0 : (0 : Int) ≤ (k : Int) := by omega
        clear hcell hcell' hab hab'
        by_cases hg : a.getD k (0 : Int) = b.getD k (0 : Int)
        · have hup := Lib.hid (same_int_step HU.out hg)
          rw [hg] at L0
          clear hg HU
          generalize b.getD k (0 : Int) = x at *
          go_wp2_with fail
          go_quiet (fail)
          go_wp2
          exact ⟨⟨k + 1, by omega, by go_num, hup.out, _, rfl⟩, by simp [intOf]; omega⟩
        · have hf := same_int_not hg
          rw [HB.out] at hf
          subst hf
          generalize a.getD k (0 : Int) = x at *
          generalize b.getD k (0 : Int) = y at *
          have he : (x == y) = false := by simpa using hg
          go_wp2_with fail
          go_quiet (fail)
          go_wp2
          go_ret
          exact ⟨rfl, _, World.drewN_drewN _ _ _⟩
      · have hkn : k = n := by omega
        subst hkn
        have hup := HU.out
        rw [HN.out] at hup
        have ht := same_int_all HL.out hup
        rw [HB.out] at ht
        subst ht
        clear hup
        go_wp2
        go_ret
        exact ⟨rfl, _, rfl⟩
  · have hf := same_int_len (a := a) (b := b) (by rw [← hn, ← hm]; exact hnm)
    rw [hf]
    have hnm' : (n : Int) ≠ m := by omega
    clear hf hs hs' hn hm
    go_enter Try.func16, Try.ntmps16
    go_wp2
    go_ret
    exact ⟨rfl, 0, rfl⟩
theorem boolsq_any (A A' : Option Addr) (a b : List Bool) (n m c c' : Nat) (hn : n = a.length) (hm : m = b.length) (w : World) (hl : n ≤ 1048576) (hs : Sl w 1 A n (bools a)) (hs' : Sl w 1 A' m (bools b)) : Calls Try.prog 32 #[.slice A n c, .slice A' m c'] w fun e w' => e = .returned (.bool (decide (a = b))) ∧ ∃ m, w' = w.drewN m := by
  by_cases hnm : n = m
  · have hab : a.length = b.length := by rw [← hn, ← hm]; exact hnm
    subst hnm
    have HS := Lib.hid hs
    have HS' := Lib.hid hs'
    have HN := Lib.hid hn
    have HL := Lib.hid hab
    clear hs hs' hn hm hab
    obtain ⟨r, hr⟩ : ∃ r, decide (a = b) = r := ⟨_, rfl⟩
    rw [hr]
    have HB := Lib.hid hr
    clear hr
    go_enter Try.func32, Try.ntmps32
    go_wp2_with fail
    go_loopw [5] (fun i wr => ∃ k : Nat, k ≤ n ∧ i = .int .i64 k ∧ same_bool a b k ∧ ∃ q, wr = w.drewN q) (fun i _ => n - (intOf i).toNat)
    case atStart => exact ⟨0, Nat.zero_le _, rfl, fun j hj => absurd hj (by omega), 0, rfl⟩
    case round =>
      obtain ⟨k, hk, rfl, hup, q, rfl⟩ := hrel
      have HU := Lib.hid hup
      clear hup
      by_cases hlt : k < n
      · obtain ⟨g, u, rfl, hab, hu, hcell⟩ := HS.out.at1 hlt
        rw [bools_get (by rw [← HN.out]; exact hlt)] at hu
        cases hu
        obtain ⟨g', u', rfl, hab', hu', hcell'⟩ := HS'.out.at1 hlt
        rw [bools_get (by rw [← HL.out, ← HN.out]; exact hlt)] at hu'
        cases hu'
        have L0 : w.cell? (g.add k) = some (.bool (a.getD k false)) := hcell
        have L1 : w.cell? (g'.add k) = some (.bool (b.getD k false)) := hcell'
        have hki : (k : Int) < (n : Int) := by omega
        have hk0 : (0 : Int) ≤ (k : Int) := by omega
        clear hcell hcell' hab hab'
        by_cases hg : a.getD k false = b.getD k false
        · have hup := Lib.hid (same_bool_step HU.out hg)
          rw [hg] at L0
          clear hg HU
          generalize b.getD k false = x at *
          go_wp2_with fail
          go_quiet (fail)
          go_wp2
          exact ⟨⟨k + 1, by omega, by go_num, hup.out, _, rfl⟩, by simp [intOf]; omega⟩
        · have hf := same_bool_not hg
          rw [HB.out] at hf
          subst hf
          generalize a.getD k false = x at *
          generalize b.getD k false = y at *
          have he : (x == y) = false := by simpa using hg
          go_wp2_with fail
          go_quiet (fail)
          go_wp2
          go_ret
          exact ⟨rfl, _, World.drewN_drewN _ _ _⟩
      · have hkn : k = n := by omega
        subst hkn
        have hup := HU.out
        rw [HN.out] at hup
        have ht := same_bool_all HL.out hup
        rw [HB.out] at ht
        subst ht
        clear hup
        go_wp2
        go_ret
        exact ⟨rfl, _, rfl⟩
  · have hf := same_bool_len (a := a) (b := b) (by rw [← hn, ← hm]; exact hnm)
    rw [hf]
    have hnm' : (n : Int) ≠ m := by omega
    clear hf hs hs' hn hm
    go_enter Try.func32, Try.ntmps32
    go_wp2
    go_ret
    exact ⟨rfl, 0, rfl⟩

theorem same_any (A A' : Option Addr) (a b : List Nat) (n m c c' : Nat) (hn : n = a.length) (hm : m = b.length) (w : World) (hl : n ≤ 1048576) (ha : ∀ x ∈ a, nn x ∧ x < 18446744073709551616) (hb : ∀ x ∈ b, nn x ∧ x < 18446744073709551616) (hs : Sl w 1 A n (f64s a)) (hs' : Sl w 1 A' m (f64s b)) : Calls Try.prog 46 #[.slice A n c, .slice A' m c'] w fun e w' => e = .returned (.bool (decide (a = b))) ∧ ∃ m, w' = w.drewN m := by
  by_cases hnm : n = m
  · have hab : a.length = b.length := by rw [← hn, ← hm]; exact hnm
    subst hnm
    have HS := Lib.hid hs
    have HS' := Lib.hid hs'
    have HN := Lib.hid hn
    have HL := Lib.hid hab
    have HA := Lib.hid ha
    have HB' := Lib.hid hb
    clear hs hs' hn hm hab ha hb
    obtain ⟨r, hr⟩ : ∃ r, decide (a = b) = r := ⟨_, rfl⟩
    rw [hr]
    have HB := Lib.hid hr
    clear hr
    go_enter Try.func46, Try.ntmps46
    go_wp2_with fail
    go_loopw [5] (fun i wr => ∃ k : Nat, k ≤ n ∧ i = .int .i64 k ∧ same_nat a b k ∧ ∃ q, wr = w.drewN q) (fun i _ => n - (intOf i).toNat)
    case atStart => exact ⟨0, Nat.zero_le _, rfl, fun j hj => absurd hj (by omega), 0, rfl⟩
    case round =>
      obtain ⟨k, hk, rfl, hup, hq⟩ := hrel
      have HQ := Lib.hid hq
      have HU := Lib.hid hup
      clear hup
      by_cases hlt : k < n
      · obtain ⟨g, u, rfl, hab, hu, hcell⟩ := HS.out.at1 hlt
        rw [f64s_get (by rw [← HN.out]; exact hlt)] at hu
        cases hu
        obtain ⟨g', u', rfl, hab', hu', hcell'⟩ := HS'.out.at1 hlt
        rw [f64s_get (by rw [← HL.out, ← HN.out]; exact hlt)] at hu'
        cases hu'
        have L0 : wr.cell? (g.add k) = some (.float .f64 (a.getD k 0)) := by obtain ⟨q, rfl⟩ := hq; exact hcell
        have L1 : wr.cell? (g'.add k) = some (.float .f64 (b.getD k 0)) := by obtain ⟨q, rfl⟩ := hq; exact hcell'
        clear hq
        have hki : (k : Int) < (n : Int) := by omega
        have hk0 : (0 : Int) ≤ (k : Int) := by omega
        have h1 := HA.out _ (getD_memN (l := a) (k := k) (by rw [← HN.out]; exact hlt))
        have h2 := HB'.out _ (getD_memN (l := b) (k := k) (by rw [← HL.out, ← HN.out]; exact hlt))
        have ct := fun w => bits_any (a.getD k 0) (b.getD k 0) h1.1 h2.1 h1.2 h2.2 w
        clear hcell hcell' hab hab' h1 h2
        by_cases hg : a.getD k 0 = b.getD k 0
        · have hup := Lib.hid (same_nat_step HU.out hg)
          rw [decide_eq_true hg] at ct
          clear hg HU
          generalize b.getD k 0 = x at *
          generalize a.getD k 0 = y at *
          go_wp2_with fail
          go_quiet ((go_at_call 49; exact Calls.quiet_of_same ((ct _).mono fun _ _ h => ⟨h.1, h.2.symm⟩)))
          go_wp2
          refine ⟨⟨k + 1, by omega, by go_num, hup.out, ?_⟩, by simp [intOf]; omega⟩
          obtain ⟨q, rfl⟩ := HQ.out
          exact ⟨_, World.drewN_drewN _ _ _⟩
        · have hf := same_nat_not hg
          rw [HB.out] at hf
          subst hf
          rw [decide_eq_false hg] at ct
          clear hg
          generalize a.getD k 0 = x at *
          generalize b.getD k 0 = y at *
          go_wp2_with fail
          go_quiet ((go_at_call 49; exact Calls.quiet_of_same ((ct _).mono fun _ _ h => ⟨h.1, h.2.symm⟩)))
          go_wp2
          go_ret
          obtain ⟨q, rfl⟩ := HQ.out
          exact ⟨rfl, _, World.drewN_drewN _ _ _⟩
      · have hkn : k = n := by omega
        subst hkn
        have hup := HU.out
        rw [HN.out] at hup
        have ht := same_nat_all HL.out hup
        rw [HB.out] at ht
        subst ht
        clear hup
        go_wp2
        go_ret
        exact ⟨rfl, HQ.out⟩
  · have hf := same_nat_len (a := a) (b := b) (by rw [← hn, ← hm]; exact hnm)
    rw [hf]
    have hnm' : (n : Int) ≠ m := by omega
    clear hf hs hs' hn hm ha hb
    go_enter Try.func46, Try.ntmps46
    go_wp2
    go_ret
    exact ⟨rfl, 0, rfl⟩

theorem rsmallL_any (A : Option Addr) (l : List Int) (n : Nat) (hn : n = l.length) (c : Nat) (w : World) (hl : n ≤ 1048576) (hs : Sl w 1 A n (i64s l)) : Calls Try.prog 19 #[.slice A n c] w fun e w' => e = .returned (.bool (allG l)) ∧ w = w' := by
  have HS := Lib.hid hs
  have HN := Lib.hid hn
  clear hs hn
  obtain ⟨b, hb⟩ : ∃ b, allG l = b := ⟨_, rfl⟩
  rw [hb]
  have HB := Lib.hid hb
  clear hb
  go_enter Try.func19, Try.ntmps19
  go_wp2_with fail
  go_loop [3] (fun i => ∃ k : Nat, k ≤ n ∧ i = .int .i64 k ∧ upG l k) (fun i => n - (intOf i).toNat)
  case atStart => exact ⟨0, Nat.zero_le _, rfl, fun j hj => absurd hj (by omega)⟩
  case round =>
    obtain ⟨k, hk, rfl, hup⟩ := hrel
    have HU := Lib.hid hup
    clear hup
    by_cases hlt : k < n
    · obtain ⟨a, u, rfl, hab, hu, hcell⟩ := HS.out.at1 hlt
      rw [i64s_get (by rw [← HN.out]; exact hlt)] at hu
      cases hu
      have ct := rsmall_any (l.getD k 0) w
      by_cases hg : G (l.getD k 0)
      · have hup := Lib.hid (upG_step HU.out hg)
        rw [decide_eq_true hg] at ct
        clear hg HU
        generalize l.getD k 0 = x at *
        go_wp2_with fail
        refine ct.mono ?_
        rintro e w4 ⟨rfl, rfl⟩
        go_wp2
        exact ⟨⟨k + 1, by omega, by go_num, hup.out⟩, by simp [intOf]; omega⟩
      · have hf := allG_false (by rw [← HN.out]; exact hlt) hg
        rw [HB.out] at hf
        subst hf
        rw [decide_eq_false hg] at ct
        clear hg
        generalize l.getD k 0 = x at *
        go_wp2_with fail
        refine ct.mono ?_
        rintro e w4 ⟨rfl, rfl⟩
        go_wp2
        go_ret
        exact ⟨rfl, rfl⟩
    · have hkn : k = n := by omega
      subst hkn
      have hup := HU.out
      rw [HN.out] at hup
      have ht := upG_all hup
      rw [HB.out] at ht
      subst ht
      clear hup
      go_wp2
      go_ret
      exact ⟨rfl, rfl⟩
end Go.Proofs.Ytmjikdkdccnbaaa
