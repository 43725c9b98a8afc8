/- Contracts: comparisons of lists; bitvec's Tidy, Words, Equal. -/
import Derived.Test.YtdfhefnjoekgbaaP
import Derived.Deep.QuietTactic
import Derived.BigQuiet
namespace Go.Proofs.Ytdfhefnjoekgbaa
open Go.RowKit Bv

theorem cell_ext'' {w w' : World} {p : Addr} {u : Value} (hx : Ext w w') (h : w.cell? p = some u) : w'.cell? p = some u := (Below.cell hx (World.block_lt_of_cell? _ _ h)).trans h
namespace Bv
def nats (l : List Nat) : List Value := l.map fun (x : Nat) => Value.int .i64 (x : Int)
theorem nats_get {l : List Nat} {k : Nat} (h : k < l.length) : (nats l)[k]? = some (.int .i64 ((l.getD k 0 : Nat) : Int)) := by simp [nats, List.getD, h]
theorem u64s_at {l : List Nat} {k : Nat} (h : k < l.length) : (u64s l)[k]? = some (.int .u64 ((l.getD k 0 : Nat) : Int)) := by simp [u64s, List.getD, h]
/-- the same up to a place -/
def sameL {α : Type} (d : α) (a b : List α) (k : Nat) : Prop := ∀ j, j < k → a.getD j d = b.getD j d
theorem sameL_all {α : Type} [DecidableEq α] {d : α} {a b : List α} (hl : a.length = b.length) (h : sameL d a b a.length) : decide (a = b) = true := by
  apply decide_eq_true
  apply List.ext_getElem hl
  intro i h1 h2
  have := h i h1
  simpa [List.getD, h1, h2] using this
theorem sameL_step {α : Type} {d : α} {a b : List α} {k : Nat} (h : sameL d a b k) (g : a.getD k d = b.getD k d) : sameL d a b (k + 1) := by
  intro j hj
  by_cases e : j = k
  · subst e; exact g
  · exact h j (by omega)
theorem sameL_not {α : Type} [DecidableEq α] {d : α} {a b : List α} {k : Nat} (h : a.getD k d ≠ b.getD k d) : decide (a = b) = false := by
  apply decide_eq_false
  intro e
  exact h (by rw [e])
theorem sameL_len {α : Type} [DecidableEq α] {a b : List α} (h : a.length ≠ b.length) : decide (a = b) = false := by
  apply decide_eq_false
  intro e
  exact h (by rw [e])
end Bv

set_option maxHeartbeats 1000000
theorem qbools_any (A A' : Option Addr) (a b : List Bool) (n m c c' : Nat) (hn : n = a.length) (hm : m = b.length) (w : World) (hl : n ≤ 1048576) (hs : Sl w 1 A n (bools a)) (hs' : Sl w 1 A' m (bools b)) : Calls Try.prog 39 #[.slice A n c, .slice A' m c'] w fun e w' => e = .returned (.bool (decide (a = b))) ∧ ∃ m, w' = w.drewN m := by
  by_cases hnm : n = m
  · have hab : a.length = b.length := by rw [← hn, ← hm]; exact hnm
    subst hnm
    have HS := Lib.hid hs
    have HS' := Lib.hid hs'
    have HN := Lib.hid hn
    have HL := Lib.hid hab
    clear hs hs' hn hm hab
    obtain ⟨r, hr⟩ : ∃ r, decide (a = b) = r := ⟨_, rfl⟩
    rw [hr]
    have HB := Lib.hid hr
    clear hr
    go_enter Try.func39, Try.ntmps39
    go_wp2_with fail
    go_loopw [5] (fun i wr => ∃ k : Nat, k ≤ n ∧ i = .int .i64 k ∧ sameL false a b k ∧ ∃ q, wr = w.drewN q) (fun i _ => n - (intOf i).toNat)
    case atStart => exact ⟨0, Nat.zero_le _, rfl, fun j hj => absurd hj (by omega), 0, rfl⟩
    case round =>
      obtain ⟨k, hk, rfl, hup, q, rfl⟩ := hrel
      have HU := Lib.hid hup
      clear hup
      by_cases hlt : k < n
      · obtain ⟨g, u, rfl, hab, hu, hcell⟩ := HS.out.at1 hlt
        rw [bools_get (by rw [← HN.out]; exact hlt)] at hu
        cases hu
        obtain ⟨g', u', rfl, hab', hu', hcell'⟩ := HS'.out.at1 hlt
        rw [bools_get (by rw [← HL.out, ← HN.out]; exact hlt)] at hu'
        cases hu'
        have L0 : w.cell? (g.add k) = some (.bool ((id (a.getD k false)))) := hcell
        have L1 : w.cell? (g'.add k) = some (.bool ((id (b.getD k false)))) := hcell'
        have hki : (k : Int) < (n : Int) := by omega
        have hk0 : (0 : Int) ≤ (k : Int) := by omega
        clear hcell hcell' hab hab'
        by_cases hg : a.getD k false = b.getD k false
        · have hup := Lib.hid (sameL_step HU.out hg)
          rw [hg] at L0
          clear hg HU
          generalize id (b.getD k false) = x at *
          go_wp2_with fail
          go_quiet (fail)
          go_wp2
          exact ⟨⟨k + 1, by omega, by go_num, hup.out, _, rfl⟩, by simp [intOf]; omega⟩
        · have hf := sameL_not hg
          rw [HB.out] at hf
          subst hf
          have he : (id (a.getD k false) == id (b.getD k false)) = false := by
            apply beq_false_of_ne
            intro h
            first | exact hg h | exact hg (Int.ofNat.inj h)
          clear hg
          generalize id (a.getD k false) = x at *
          generalize id (b.getD k false) = y at *
          go_wp2_with fail
          go_quiet (fail)
          go_wp2
          go_ret
          exact ⟨rfl, _, World.drewN_drewN _ _ _⟩
      · have hkn : k = n := by omega
        subst hkn
        have hup := HU.out
        rw [HN.out] at hup
        have ht := sameL_all HL.out hup
        rw [HB.out] at ht
        subst ht
        clear hup
        go_wp2
        go_ret
        exact ⟨rfl, _, rfl⟩
  · have hf := sameL_len (a := a) (b := b) (by rw [← hn, ← hm]; exact hnm)
    rw [hf]
    have hnm' : (n : Int) ≠ m := by omega
    clear hf hs hs' hn hm
    go_enter Try.func39, Try.ntmps39
    go_wp2
    go_ret
    exact ⟨rfl, 0, rfl⟩
namespace Bv
theorem wd_tail (l : List Bool) (h : l.length % 64 ≠ 0) : wd l (wc l.length - 1) / 2 ^ (l.length % 64) = 0 := by
  apply Nat.eq_of_testBit_eq
  intro j
  rw [Nat.testBit_div_two_pow, wd_testBit, Nat.zero_testBit, getD_past _ _ (by unfold wc; omega), Bool.and_false]
end Bv
theorem btidy_any (v : Value) (l : List Bool) (w : World) (hv : IsB w v l) :
    Calls Try.prog 54 #[v] w fun e w' => e = .returned (.bool true) ∧ Ext w w' := by
  obtain ⟨hl, A, c, rfl, hs⟩ := hv
  have e1 := i64_and63 (l.length : Int) (by omega) (by omega)
  have hwc := wc_cast l.length
  by_cases h0 : l.length % 64 = 0
  · have e2 : ((l.length : Int) % 64 == 0) = true := by simp; omega
    have hw0 : wc l.length ≤ 20000 := by unfold wc; omega
    clear hs
    generalize wc l.length = m at *
    generalize l.length = n at *
    go_enter Try.func54, Try.ntmps54
    go_wp2
    go_ret
    exact ⟨rfl, (Ext.refl w).alloc _⟩
  · have e2 : ((l.length : Int) % 64 == 0) = false := by simp; omega
    have hw0 : 0 < wc l.length := by unfold wc; omega
    have hw1 : wc l.length ≤ 20000 := by unfold wc; omega
    have e3 : ((wc l.length : Int) - 1) = ((wc l.length - 1 : Nat) : Int) := by omega
    obtain ⟨a, rfl, hb, hc⟩ := IsB.word hs (show wc l.length - 1 < wc l.length by omega)
    have hc' : ∀ o, (w.alloc o).cell? (a.add (wc l.length - 1)) = some (.int .u64 (wd l (wc l.length - 1) : Int)) := fun o => by rw [World.cell?_alloc_lt w o _ (by rw [addr_block]; exact hb)]; exact hc
    have ht : ((wd l (wc l.length - 1) : Nat) : Int) / 2 ^ (l.length % 64) = 0 := by
      have h := wd_tail l h0
      have h2 : ((wd l (wc l.length - 1) : Nat) : Int) / 2 ^ (l.length % 64) = ((wd l (wc l.length - 1) / 2 ^ (l.length % 64) : Nat) : Int) := by simp
      rw [h2, h]; rfl
    clear hc hs h0
    generalize wd l (wc l.length - 1) = x at *
    generalize wc l.length = m at *
    generalize l.length = n at *
    go_enter Try.func54, Try.ntmps54
    go_wp2
    go_ret
    exact ⟨rfl, (Ext.refl w).alloc _⟩
end Go.Proofs.Ytdfhefnjoekgbaa
