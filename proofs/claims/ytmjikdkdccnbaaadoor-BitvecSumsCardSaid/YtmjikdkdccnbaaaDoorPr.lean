/- Contracts: comparisons of lists; bitvec's Tidy, Words, Equal. -/
import Derived.Test.YtmjikdkdccnbaaaDoorP
import Derived.Deep.QuietTactic
import Derived.BigQuiet
namespace Go.Proofs.YtmjikdkdccnbaaaDoor
open Go.RowKit Bv

theorem cell_ext'' {w w' : World} {p : Addr} {u : Value} (hx : Ext w w') (h : w.cell? p = some u) : w'.cell? p = some u := (Below.cell hx (World.block_lt_of_cell? _ _ h)).trans h
theorem drewN_refl' (w : World) : ∃ m, w = w.drewN m := ⟨0, rfl⟩
theorem Ext.of_drewN' {w w' : World} (h : ∃ m, w' = w.drewN m) : Ext w w' := by
  obtain ⟨m, rfl⟩ := h
  exact (Ext.refl w).drewN m
namespace Bv
def nats (l : List Nat) : List Value := l.map fun (x : Nat) => Value.int .i64 (x : Int)
theorem nats_length (l : List Nat) : (nats l).length = l.length := by simp [nats]
theorem nats_get {l : List Nat} {k : Nat} (h : k < l.length) : (nats l)[k]? = some (.int .i64 ((l.getD k 0 : Nat) : Int)) := by simp [nats, List.getD, h]
theorem nats_one (l : List Nat) : ∀ u ∈ nats l, u.oneCell' = true := by
  intro u hu
  simp only [nats, List.mem_map] at hu
  obtain ⟨x, _, rfl⟩ := hu
  rfl
theorem u64s_at {l : List Nat} {k : Nat} (h : k < l.length) : (u64s l)[k]? = some (.int .u64 ((l.getD k 0 : Nat) : Int)) := by simp [u64s, List.getD, h]
/-- the same up to a place -/
def sameL {α : Type} (d : α) (a b : List α) (k : Nat) : Prop := ∀ j, j < k → a.getD j d = b.getD j d
theorem sameL_all {α : Type} [DecidableEq α] {d : α} {a b : List α} (hl : a.length = b.length) (h : sameL d a b a.length) : decide (a = b) = true := by
  apply decide_eq_true
  apply List.ext_getElem hl
  intro i h1 h2
  have := h i h1
  simpa [List.getD, h1, h2] using this
theorem sameL_step {α : Type} {d : α} {a b : List α} {k : Nat} (h : sameL d a b k) (g : a.getD k d = b.getD k d) : sameL d a b (k + 1) := by
  intro j hj
  by_cases e : j = k
  · subst e; exact g
  · exact h j (by omega)
theorem sameL_not {α : Type} [DecidableEq α] {d : α} {a b : List α} {k : Nat} (h : a.getD k d ≠ b.getD k d) : decide (a = b) = false := by
  apply decide_eq_false
  intro e
  exact h (by rw [e])
theorem sameL_len {α : Type} [DecidableEq α] {a b : List α} (h : a.length ≠ b.length) : decide (a = b) = false := by
  apply decide_eq_false
  intro e
  exact h (by rw [e])
end Bv

set_option maxHeartbeats 1000000
theorem qbools_any (A A' : Option Addr) (a b : List Bool) (n m c c' : Nat) (hn : n = a.length) (hm : m = b.length) (w : World) (hl : n ≤ 1048576) (hs : Sl w 1 A n (bools a)) (hs' : Sl w 1 A' m (bools b)) : Calls Tryd.prog 28 #[.slice A n c, .slice A' m c'] w fun e w' => e = .returned (.bool (decide (a = b))) ∧ ∃ m, w' = w.drewN m := by
  by_cases hnm : n = m
  · have hab : a.length = b.length := by rw [← hn, ← hm]; exact hnm
    subst hnm
    have HS := Lib.hid hs
    have HS' := Lib.hid hs'
    have HN := Lib.hid hn
    have HL := Lib.hid hab
    clear hs hs' hn hm hab
    obtain ⟨r, hr⟩ : ∃ r, decide (a = b) = r := ⟨_, rfl⟩
    rw [hr]
    have HB := Lib.hid hr
    clear hr
    go_enter Tryd.func28, Tryd.ntmps28
    go_wp2_with fail
    go_loopw [5] (fun i wr => ∃ k : Nat, k ≤ n ∧ i = .int .i64 k ∧ sameL false a b k ∧ ∃ q, wr = w.drewN q) (fun i _ => n - (intOf i).toNat)
    case atStart => exact ⟨0, Nat.zero_le _, rfl, fun j hj => absurd hj (by omega), 0, rfl⟩
    case round =>
      obtain ⟨k, hk, rfl, hup, q, rfl⟩ := hrel
      have HU := Lib.hid hup
      clear hup
      by_cases hlt : k < n
      · obtain ⟨g, u, rfl, hab, hu, hcell⟩ := HS.out.at1 hlt
        rw [bools_get (by rw [← HN.out]; exact hlt)] at hu
        cases hu
        obtain ⟨g', u', rfl, hab', hu', hcell'⟩ := HS'.out.at1 hlt
        rw [bools_get (by rw [← HL.out, ← HN.out]; exact hlt)] at hu'
        cases hu'
        have L0 : w.cell? (g.add k) = some (.bool ((id (a.getD k false)))) := hcell
        have L1 : w.cell? (g'.add k) = some (.bool ((id (b.getD k false)))) := hcell'
        have hki : (k : Int) < (n : Int) := by omega
        have hk0 : (0 : Int) ≤ (k : Int) := by omega
        clear hcell hcell' hab hab'
        by_cases hg : a.getD k false = b.getD k false
        · have hup := Lib.hid (sameL_step HU.out hg)
          rw [hg] at L0
          clear hg HU
          generalize id (b.getD k false) = x at *
          go_wp2_with fail
          go_quiet (fail)
          go_wp2
          exact ⟨⟨k + 1, by omega, by go_num, hup.out, _, rfl⟩, by simp [intOf]; omega⟩
        · have hf := sameL_not hg
          rw [HB.out] at hf
          subst hf
          have he : (id (a.getD k false) == id (b.getD k false)) = false := by
            apply beq_false_of_ne
            intro h
            first | exact hg h | exact hg (Int.ofNat.inj h)
          clear hg
          generalize id (a.getD k false) = x at *
          generalize id (b.getD k false) = y at *
          go_wp2_with fail
          go_quiet (fail)
          go_wp2
          go_ret
          exact ⟨rfl, _, World.drewN_drewN _ _ _⟩
      · have hkn : k = n := by omega
        subst hkn
        have hup := HU.out
        rw [HN.out] at hup
        have ht := sameL_all HL.out hup
        rw [HB.out] at ht
        subst ht
        clear hup
        go_wp2
        go_ret
        exact ⟨rfl, _, rfl⟩
  · have hf := sameL_len (a := a) (b := b) (by rw [← hn, ← hm]; exact hnm)
    rw [hf]
    have hnm' : (n : Int) ≠ m := by omega
    clear hf hs hs' hn hm
    go_enter Tryd.func28, Tryd.ntmps28
    go_wp2
    go_ret
    exact ⟨rfl, 0, rfl⟩
theorem qnums_any (A A' : Option Addr) (a b : List Nat) (n m c c' : Nat) (hn : n = a.length) (hm : m = b.length) (w : World) (hl : n ≤ 1048576) (hs : Sl w 1 A n (u64s a)) (hs' : Sl w 1 A' m (u64s b)) : Calls Tryd.prog 31 #[.slice A n c, .slice A' m c'] w fun e w' => e = .returned (.bool (decide (a = b))) ∧ ∃ m, w' = w.drewN m := by
  by_cases hnm : n = m
  · have hab : a.length = b.length := by rw [← hn, ← hm]; exact hnm
    subst hnm
    have HS := Lib.hid hs
    have HS' := Lib.hid hs'
    have HN := Lib.hid hn
    have HL := Lib.hid hab
    clear hs hs' hn hm hab
    obtain ⟨r, hr⟩ : ∃ r, decide (a = b) = r := ⟨_, rfl⟩
    rw [hr]
    have HB := Lib.hid hr
    clear hr
    go_enter Tryd.func31, Tryd.ntmps31
    go_wp2_with fail
    go_loopw [5] (fun i wr => ∃ k : Nat, k ≤ n ∧ i = .int .i64 k ∧ sameL (0 : Nat) a b k ∧ ∃ q, wr = w.drewN q) (fun i _ => n - (intOf i).toNat)
    case atStart => exact ⟨0, Nat.zero_le _, rfl, fun j hj => absurd hj (by omega), 0, rfl⟩
    case round =>
      obtain ⟨k, hk, rfl, hup, q, rfl⟩ := hrel
      have HU := Lib.hid hup
      clear hup
      by_cases hlt : k < n
      · obtain ⟨g, u, rfl, hab, hu, hcell⟩ := HS.out.at1 hlt
        rw [u64s_at (by rw [← HN.out]; exact hlt)] at hu
        cases hu
        obtain ⟨g', u', rfl, hab', hu', hcell'⟩ := HS'.out.at1 hlt
        rw [u64s_at (by rw [← HL.out, ← HN.out]; exact hlt)] at hu'
        cases hu'
        have L0 : w.cell? (g.add k) = some (.int .u64 ((Int.ofNat (a.getD k (0 : Nat))))) := hcell
        have L1 : w.cell? (g'.add k) = some (.int .u64 ((Int.ofNat (b.getD k (0 : Nat))))) := hcell'
        have hki : (k : Int) < (n : Int) := by omega
        have hk0 : (0 : Int) ≤ (k : Int) := by omega
        clear hcell hcell' hab hab'
        by_cases hg : a.getD k (0 : Nat) = b.getD k (0 : Nat)
        · have hup := Lib.hid (sameL_step HU.out hg)
          rw [hg] at L0
          clear hg HU
          generalize Int.ofNat (b.getD k (0 : Nat)) = x at *
          go_wp2_with fail
          go_quiet (fail)
          go_wp2
          exact ⟨⟨k + 1, by omega, by go_num, hup.out, _, rfl⟩, by simp [intOf]; omega⟩
        · have hf := sameL_not hg
          rw [HB.out] at hf
          subst hf
          have he : (Int.ofNat (a.getD k (0 : Nat)) == Int.ofNat (b.getD k (0 : Nat))) = false := by
            apply beq_false_of_ne
            intro h
            first | exact hg h | exact hg (Int.ofNat.inj h)
          clear hg
          generalize Int.ofNat (a.getD k (0 : Nat)) = x at *
          generalize Int.ofNat (b.getD k (0 : Nat)) = y at *
          go_wp2_with fail
          go_quiet (fail)
          go_wp2
          go_ret
          exact ⟨rfl, _, World.drewN_drewN _ _ _⟩
      · have hkn : k = n := by omega
        subst hkn
        have hup := HU.out
        rw [HN.out] at hup
        have ht := sameL_all HL.out hup
        rw [HB.out] at ht
        subst ht
        clear hup
        go_wp2
        go_ret
        exact ⟨rfl, _, rfl⟩
  · have hf := sameL_len (a := a) (b := b) (by rw [← hn, ← hm]; exact hnm)
    rw [hf]
    have hnm' : (n : Int) ≠ m := by omega
    clear hf hs hs' hn hm
    go_enter Tryd.func31, Tryd.ntmps31
    go_wp2
    go_ret
    exact ⟨rfl, 0, rfl⟩
theorem qints_any (A A' : Option Addr) (a b : List Nat) (n m c c' : Nat) (hn : n = a.length) (hm : m = b.length) (w : World) (hl : n ≤ 1048576) (hs : Sl w 1 A n (nats a)) (hs' : Sl w 1 A' m (nats b)) : Calls Tryd.prog 22 #[.slice A n c, .slice A' m c'] w fun e w' => e = .returned (.bool (decide (a = b))) ∧ ∃ m, w' = w.drewN m := by
  by_cases hnm : n = m
  · have hab : a.length = b.length := by rw [← hn, ← hm]; exact hnm
    subst hnm
    have HS := Lib.hid hs
    have HS' := Lib.hid hs'
    have HN := Lib.hid hn
    have HL := Lib.hid hab
    clear hs hs' hn hm hab
    obtain ⟨r, hr⟩ : ∃ r, decide (a = b) = r := ⟨_, rfl⟩
    rw [hr]
    have HB := Lib.hid hr
    clear hr
    go_enter Tryd.func22, Tryd.ntmps22
    go_wp2_with fail
    go_loopw [5] (fun i wr => ∃ k : Nat, k ≤ n ∧ i = .int .i64 k ∧ sameL (0 : Nat) a b k ∧ ∃ q, wr = w.drewN q) (fun i _ => n - (intOf i).toNat)
    case atStart => exact ⟨0, Nat.zero_le _, rfl, fun j hj => absurd hj (by omega), 0, rfl⟩
    case round =>
      obtain ⟨k, hk, rfl, hup, q, rfl⟩ := hrel
      have HU := Lib.hid hup
      clear hup
      by_cases hlt : k < n
      · obtain ⟨g, u, rfl, hab, hu, hcell⟩ := HS.out.at1 hlt
        rw [nats_get (by rw [← HN.out]; exact hlt)] at hu
        cases hu
        obtain ⟨g', u', rfl, hab', hu', hcell'⟩ := HS'.out.at1 hlt
        rw [nats_get (by rw [← HL.out, ← HN.out]; exact hlt)] at hu'
        cases hu'
        have L0 : w.cell? (g.add k) = some (.int .i64 ((Int.ofNat (a.getD k (0 : Nat))))) := hcell
        have L1 : w.cell? (g'.add k) = some (.int .i64 ((Int.ofNat (b.getD k (0 : Nat))))) := hcell'
        have hki : (k : Int) < (n : Int) := by omega
        have hk0 : (0 : Int) ≤ (k : Int) := by omega
        clear hcell hcell' hab hab'
        by_cases hg : a.getD k (0 : Nat) = b.getD k (0 : Nat)
        · have hup := Lib.hid (sameL_step HU.out hg)
          rw [hg] at L0
          clear hg HU
          generalize Int.ofNat (b.getD k (0 : Nat)) = x at *
          go_wp2_with fail
          go_quiet (fail)
          go_wp2
          exact ⟨⟨k + 1, by omega, by go_num, hup.out, _, rfl⟩, by simp [intOf]; omega⟩
        · have hf := sameL_not hg
          rw [HB.out] at hf
          subst hf
          have he : (Int.ofNat (a.getD k (0 : Nat)) == Int.ofNat (b.getD k (0 : Nat))) = false := by
            apply beq_false_of_ne
            intro h
            first | exact hg h | exact hg (Int.ofNat.inj h)
          clear hg
          generalize Int.ofNat (a.getD k (0 : Nat)) = x at *
          generalize Int.ofNat (b.getD k (0 : Nat)) = y at *
          go_wp2_with fail
          go_quiet (fail)
          go_wp2
          go_ret
          exact ⟨rfl, _, World.drewN_drewN _ _ _⟩
      · have hkn : k = n := by omega
        subst hkn
        have hup := HU.out
        rw [HN.out] at hup
        have ht := sameL_all HL.out hup
        rw [HB.out] at ht
        subst ht
        clear hup
        go_wp2
        go_ret
        exact ⟨rfl, _, rfl⟩
  · have hf := sameL_len (a := a) (b := b) (by rw [← hn, ← hm]; exact hnm)
    rw [hf]
    have hnm' : (n : Int) ≠ m := by omega
    clear hf hs hs' hn hm
    go_enter Tryd.func22, Tryd.ntmps22
    go_wp2
    go_ret
    exact ⟨rfl, 0, rfl⟩
theorem qeq_any (A A' : Option Addr) (a b : List Nat) (n m c c' : Nat) (hn : n = a.length) (hm : m = b.length) (w : World) (hl : n ≤ 1048576) (hs : Sl w 1 A n (u64s a)) (hs' : Sl w 1 A' m (u64s b)) : Calls Tryd.prog 39 #[.slice A n c, .slice A' m c'] w fun e w' => e = .returned (.bool (decide (a = b))) ∧ ∃ m, w' = w.drewN m := by
  by_cases hnm : n = m
  · have hab : a.length = b.length := by rw [← hn, ← hm]; exact hnm
    subst hnm
    have HS := Lib.hid hs
    have HS' := Lib.hid hs'
    have HN := Lib.hid hn
    have HL := Lib.hid hab
    clear hs hs' hn hm hab
    obtain ⟨r, hr⟩ : ∃ r, decide (a = b) = r := ⟨_, rfl⟩
    rw [hr]
    have HB := Lib.hid hr
    clear hr
    go_enter Tryd.func39, Tryd.ntmps39
    go_wp2_with fail
    go_loopw [13] (fun i wr => ∃ k : Nat, k ≤ n ∧ i = .int .i64 k ∧ sameL (0 : Nat) a b k ∧ ∃ q, wr = w.drewN q) (fun i _ => n - (intOf i).toNat)
    case atStart => exact ⟨0, Nat.zero_le _, rfl, fun j hj => absurd hj (by omega), 0, rfl⟩
    case round =>
      obtain ⟨k, hk, rfl, hup, q, rfl⟩ := hrel
      have HU := Lib.hid hup
      clear hup
      by_cases hlt : k < n
      · obtain ⟨g, u, rfl, hab, hu, hcell⟩ := HS.out.at1 hlt
        rw [u64s_at (by rw [← HN.out]; exact hlt)] at hu
        cases hu
        obtain ⟨g', u', rfl, hab', hu', hcell'⟩ := HS'.out.at1 hlt
        rw [u64s_at (by rw [← HL.out, ← HN.out]; exact hlt)] at hu'
        cases hu'
        have L0 : w.cell? (g.add k) = some (.int .u64 ((Int.ofNat (a.getD k (0 : Nat))))) := hcell
        have L1 : w.cell? (g'.add k) = some (.int .u64 ((Int.ofNat (b.getD k (0 : Nat))))) := hcell'
        have hki : (k : Int) < (n : Int) := by omega
        have hk0 : (0 : Int) ≤ (k : Int) := by omega
        clear hcell hcell' hab hab'
        by_cases hg : a.getD k (0 : Nat) = b.getD k (0 : Nat)
        · have hup := Lib.hid (sameL_step HU.out hg)
          rw [hg] at L0
          clear hg HU
          generalize Int.ofNat (b.getD k (0 : Nat)) = x at *
          go_wp2_with fail
          go_quiet (fail)
          go_wp2
          exact ⟨⟨k + 1, by omega, by go_num, hup.out, _, rfl⟩, by simp [intOf]; omega⟩
        · have hf := sameL_not hg
          rw [HB.out] at hf
          subst hf
          have he : (Int.ofNat (a.getD k (0 : Nat)) == Int.ofNat (b.getD k (0 : Nat))) = false := by
            apply beq_false_of_ne
            intro h
            first | exact hg h | exact hg (Int.ofNat.inj h)
          clear hg
          generalize Int.ofNat (a.getD k (0 : Nat)) = x at *
          generalize Int.ofNat (b.getD k (0 : Nat)) = y at *
          go_wp2_with fail
          go_quiet (fail)
          go_wp2
          go_ret
          exact ⟨rfl, _, World.drewN_drewN _ _ _⟩
      · have hkn : k = n := by omega
        subst hkn
        have hup := HU.out
        rw [HN.out] at hup
        have ht := sameL_all HL.out hup
        rw [HB.out] at ht
        subst ht
        clear hup
        go_wp2
        go_ret
        exact ⟨rfl, _, rfl⟩
  · have hf := sameL_len (a := a) (b := b) (by rw [← hn, ← hm]; exact hnm)
    rw [hf]
    have hnm' : (n : Int) ≠ m := by omega
    clear hf hs hs' hn hm
    go_enter Tryd.func39, Tryd.ntmps39
    go_wp2
    go_ret
    exact ⟨rfl, 0, rfl⟩

namespace Bv
theorem wd_tail (l : List Bool) (h : l.length % 64 ≠ 0) : wd l (wc l.length - 1) / 2 ^ (l.length % 64) = 0 := by
  apply Nat.eq_of_testBit_eq
  intro j
  rw [Nat.testBit_div_two_pow, wd_testBit, Nat.zero_testBit, getD_past _ _ (by unfold wc; omega), Bool.and_false]
end Bv
theorem btidy_any (v : Value) (l : List Bool) (w : World) (hv : IsB w v l) :
    Calls Tryd.prog 34 #[v] w fun e w' => e = .returned (.bool true) ∧ Ext w w' := by
  obtain ⟨hl, A, c, rfl, hs⟩ := hv
  have e1 := i64_and63 (l.length : Int) (by omega) (by omega)
  have hwc := wc_cast l.length
  by_cases h0 : l.length % 64 = 0
  · have e2 : ((l.length : Int) % 64 == 0) = true := by simp; omega
    have hw0 : wc l.length ≤ 20000 := by unfold wc; omega
    clear hs
    generalize wc l.length = m at *
    generalize l.length = n at *
    go_enter Tryd.func34, Tryd.ntmps34
    go_wp2
    go_ret
    exact ⟨rfl, (Ext.refl w).alloc _⟩
  · have e2 : ((l.length : Int) % 64 == 0) = false := by simp; omega
    have hw0 : 0 < wc l.length := by unfold wc; omega
    have hw1 : wc l.length ≤ 20000 := by unfold wc; omega
    have e3 : ((wc l.length : Int) - 1) = ((wc l.length - 1 : Nat) : Int) := by omega
    obtain ⟨a, rfl, hb, hc⟩ := IsB.word hs (show wc l.length - 1 < wc l.length by omega)
    have hc' : ∀ o, (w.alloc o).cell? (a.add (wc l.length - 1)) = some (.int .u64 (wd l (wc l.length - 1) : Int)) := fun o => by rw [World.cell?_alloc_lt w o _ (by rw [addr_block]; exact hb)]; exact hc
    have ht : ((wd l (wc l.length - 1) : Nat) : Int) / 2 ^ (l.length % 64) = 0 := by
      have h := wd_tail l h0
      have h2 : ((wd l (wc l.length - 1) : Nat) : Int) / 2 ^ (l.length % 64) = ((wd l (wc l.length - 1) / 2 ^ (l.length % 64) : Nat) : Int) := by simp
      rw [h2, h]; rfl
    clear hc hs h0
    generalize wd l (wc l.length - 1) = x at *
    generalize wc l.length = m at *
    generalize l.length = n at *
    go_enter Tryd.func34, Tryd.ntmps34
    go_wp2
    go_ret
    exact ⟨rfl, (Ext.refl w).alloc _⟩
theorem bwords_any (v : Value) (l : List Bool) (w : World) (hv : IsB w v l) :
    Calls Tryd.prog 32 #[v] w fun e w' => ∃ v', e = .returned v' ∧ w'.ownsRow w.heap.size 55 1 v' (wc l.length) (u64s (words l)) ∧ Ext w w' := by
  obtain ⟨hl, A, c, rfl, hs⟩ := hv
  have HS := Lib.hid (hs.alloc (.cells #[.slice A (wc l.length) c, .int .i64 (l.length : Int)] 26))
  have hw : wc l.length ≤ 2097152 := by unfold wc; omega
  clear hs hl
  generalize wc l.length = m at *
  generalize (l.length : Int) = n at *
  go_enter Tryd.func32, Tryd.ntmps32
  go_wp2_with fail
  refine (cloneU64 A m c _ _ HS.out (u64s_one _) hw).mono ?_
  rintro e w1 ⟨v, rfl, hown, hx⟩
  go_wp2
  go_ret
  exact ⟨_, rfl, own_base hown (by simp), ((Ext.refl w).alloc _).trans hx⟩
theorem beq_any (v v' : Value) (l l' : List Bool) (w : World) (hv : IsB w v l) (hv' : IsB w v' l') :
    Calls Tryd.prog 27 #[v, v'] w fun e w' => e = .returned (.bool (decide (l = l'))) ∧ Ext w w' := by
  obtain ⟨hl, A, c, rfl, hs⟩ := hv
  obtain ⟨hl', A', c', rfl, hs'⟩ := hv'
  by_cases hn : l.length = l'.length
  · have hd : decide (l = l') = decide (words l = words l') := by
      rw [decide_eq_decide]
      constructor
      · rintro rfl; rfl
      · intro h
        apply List.ext_getElem hn
        intro i h1 h2
        have h3 : wd l (i / 64) = wd l' (i / 64) := by
          have e1 := words_get l (i := i / 64) (by unfold wc; omega)
          have e2 := words_get l' (i := i / 64) (by unfold wc; omega)
          rw [h, e2] at e1
          exact (Option.some.inj e1).symm
        have h4 := wd_bit l i
        rw [h3, wd_bit] at h4
        simpa [List.getD, h1, h2] using h4.symm
    rw [hd]
    have hw : wc l.length ≤ 1048576 := by unfold wc; omega
    rw [← hn] at hs' ⊢
    have HA : Hid (∀ o o', Sl ((w.alloc o).alloc o') 1 A (wc l.length) (u64s (words l))) := fun o o' => (hs.alloc o).alloc o'
    have HB : Hid (∀ o o', Sl ((w.alloc o).alloc o') 1 A' (wc l.length) (u64s (words l'))) := fun o o' => (hs'.alloc o).alloc o'
    have HL := Lib.hid (words_length l).symm
    have HL' : Hid (wc l.length = (words l').length) := by rw [words_length, ← hn]; exact rfl
    clear hs hs' hd hn hl hl'
    generalize wc l.length = m at *
    generalize (l.length : Int) = n at *
    generalize words l = ws at *
    generalize words l' = ws' at *
    have ct := fun w1 => qeq_any A A' ws ws' m m c c' HL.out HL'.out w1 hw
    generalize decide (ws = ws') = r at *
    have CT := Lib.hid ct
    clear ct
    go_enter Tryd.func27, Tryd.ntmps27
    go_wp2_with fail
    refine (CT.out _ (HA.out _ _) (HB.out _ _)).mono ?_
    rintro e w1 ⟨rfl, hq⟩
    have HX := Lib.hid ((((Ext.refl w).alloc _).alloc _).trans (Ext.of_drewN' hq))
    clear hq
    go_wp2
    go_ret
    exact ⟨rfl, HX.out⟩
  · have hf := sameL_len (a := l) (b := l') hn
    rw [hf]
    have hf' : ((l.length : Int) == (l'.length : Int)) = false := by simp; omega
    clear hs hs' hf
    generalize wc l.length = m at *
    generalize wc l'.length = m' at *
    generalize (l.length : Int) = n at *
    generalize (l'.length : Int) = n' at *
    go_enter Tryd.func27, Tryd.ntmps27
    go_wp2
    go_ret
    exact ⟨rfl, ((Ext.refl w).alloc _).alloc _⟩
end Go.Proofs.YtmjikdkdccnbaaaDoor
