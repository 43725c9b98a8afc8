/- Contracts of bitvec: At, Len, Unpack. -/
import Derived.Test.YtdfhefnjoekgbaaBd
import Derived.Test.YtdfhefnjoekgbaaSc
namespace Go.Proofs.Ytdfhefnjoekgbaa
open Go.RowKit Bv

namespace Bv
theorem wraps_i64 (n : Int) (h₀ : 0 ≤ n) (h₁ : n < 2 ^ 63) : IntKind.i64.wrap n = n := by rw [IntKind.wrap_i64]; omega
theorem i64_and63 (x : Int) (h₀ : 0 ≤ x) (h₁ : x < 9223372036854775808) : bits .and .i64 x 63 = x % 64 := bits_mask .i64 63 (by decide) wraps_i64 6 (by decide) x h₀ h₁
theorem u64_bit (x k : Nat) (hx : x < 18446744073709551616) : (bits .and .u64 ((x : Int) / 2 ^ k) 1 == 1) = x.testBit k := by
  have h1 : ((x : Int) / 2 ^ k) = ((x / 2 ^ k : Nat) : Int) := by simp
  have h2 : x / 2 ^ k ≤ x := Nat.div_le_self _ _
  rw [h1, and_one_u64 _ (by exact Int.natCast_nonneg _) (by have : ((x / 2 ^ k : Nat) : Int) ≤ (x : Int) := by exact_mod_cast h2
                                                            omega), Nat.testBit_eq_decide_div_mod_eq, Bool.eq_iff_iff]
  simp
  omega
/-- the boolean at a place, false where there is none -/
def bget (l : List Bool) (i : Int) : Bool := if 0 ≤ i then l.getD i.toNat false else false
theorem wd_bit (l : List Bool) (i : Nat) : (wd l (i / 64)).testBit (i % 64) = l.getD i false := by
  rw [wd_testBit, decide_eq_true (Nat.mod_lt _ (by decide)), Bool.true_and]
  congr 1
  omega
theorem ret_bool {a b : Bool} (h : a = b) : Ending.returned (.bool a) = Ending.returned (.bool b) := by rw [h]
end Bv

set_option maxHeartbeats 400000
theorem at_any (v : Value) (l : List Bool) (i : Int) (w : World) (hv : IsB w v l) :
    Calls Try.prog 73 #[v, .int .i64 i] w fun e w' => e = .returned (.bool (bget l i)) ∧ Ext w w' := by
  obtain ⟨hl, A, c, rfl, hs⟩ := hv
  unfold bget
  by_cases h0 : 0 ≤ i
  · rw [if_pos h0]
    obtain ⟨k, rfl⟩ := Int.eq_ofNat_of_zero_le h0
    rw [Int.toNat_natCast]
    by_cases hi : k < l.length
    · have hk : k / 64 < wc l.length := by unfold wc; omega
      obtain ⟨a, rfl, hb, hc⟩ := IsB.word hs hk
      have e1 := i64_and63 (k : Int) (by omega) (by omega)
      have hc' : ∀ o, (w.alloc o).cell? (a.add (k / 64)) = some (.int .u64 (wd l (k / 64) : Int)) := fun o => by rw [World.cell?_alloc_lt w o _ (by rw [addr_block]; exact hb)]; exact hc
      have hx := wd_lt l (k / 64)
      have hbit := wd_bit l k
      rw [← hbit]
      clear hbit hc hs h0
      generalize wc l.length = m at *
      generalize wd l (k / 64) = x at *
      have e2 := u64_bit x (k % 64) hx
      go_enter Try.func73, Try.ntmps73
      go_wp2
      go_ret
      exact ⟨rfl, (Ext.refl w).alloc _⟩
    · have hf : l.getD k false = false := by simp [List.getD, List.getElem?_eq_none (Nat.le_of_not_lt hi)]
      rw [hf]
      clear hf hs
      generalize wc l.length = m at *
      go_enter Try.func73, Try.ntmps73
      go_wp2
      go_ret
      exact ⟨rfl, (Ext.refl w).alloc _⟩
  · rw [if_neg h0]
    clear hs
    generalize wc l.length = m at *
    go_enter Try.func73, Try.ntmps73
    go_wp2
    go_ret
    exact ⟨rfl, (Ext.refl w).alloc _⟩
theorem blen_any (v : Value) (l : List Bool) (w : World) (hv : IsB w v l) :
    Calls Try.prog 69 #[v] w fun e w' => e = .returned (.int .i64 (l.length : Int)) ∧ Ext w w' := by
  obtain ⟨hl, A, c, rfl, hs⟩ := hv
  clear hs
  generalize wc l.length = m at *
  go_enter Try.func69, Try.ntmps69
  go_wp2
  go_ret
  exact ⟨rfl, (Ext.refl w).alloc _⟩

namespace Bv
def bools (l : List Bool) : List Value := l.map .bool
theorem bools_length (l : List Bool) : (bools l).length = l.length := by simp [bools]
theorem bools_get {l : List Bool} {k : Nat} (h : k < l.length) : (bools l)[k]? = some (.bool (l.getD k false)) := by
  simp [bools, List.getD, h]
theorem bools_one (l : List Bool) : ∀ u ∈ bools l, u.oneCell' = true := by
  intro u hu
  simp only [bools, List.mem_map] at hu
  obtain ⟨x, _, rfl⟩ := hu
  rfl
/-- the first k of l, the rest still false -/
def upto (l : List Bool) (k : Nat) : List Bool := l.take k ++ List.replicate (l.length - k) false
theorem upto_length (l : List Bool) (k : Nat) (h : k ≤ l.length) : (upto l k).length = l.length := by simp [upto]; omega
theorem upto_zero (l : List Bool) : upto l 0 = List.replicate l.length false := by simp [upto]
theorem upto_full (l : List Bool) : upto l l.length = l := by simp [upto]
theorem upto_set {l : List Bool} {k : Nat} (h : k < l.length) : (bools (upto l k)).set k (.bool (l.getD k false)) = bools (upto l (k + 1)) := by
  apply List.ext_getElem?
  intro j
  simp only [bools, upto, List.map_append, List.map_replicate, List.map_take]
  rw [List.getElem?_set]
  by_cases hj : k = j
  · subst hj
    simp only [List.length_append, List.length_take, List.length_map, List.length_replicate, if_true]
    rw [if_pos (by omega), List.getElem?_append_left (by simp; omega)]
    simp [List.getD, h]
  · rw [if_neg hj]
    by_cases hjk : j < k
    · rw [List.getElem?_append_left (by simp; omega), List.getElem?_append_left (by simp; omega)]
      simp [hjk, Nat.lt_succ_of_lt hjk]
    · rw [List.getElem?_append_right (by simp; omega), List.getElem?_append_right (by simp; omega)]
      simp only [List.length_take, List.length_map, List.getElem?_replicate]
      rw [Nat.min_eq_left (by omega), Nat.min_eq_left (by omega)]
      by_cases hjl : j < l.length
      · rw [if_pos (by omega), if_pos (by omega)]
      · rw [if_neg (by omega), if_neg (by omega)]
end Bv
theorem infoB : (Try.prog.info? 4).map (fun i => (i.zero, i.size, i.bytes)) = some (some (.bool false), 1, 1) := by kernel_rfl
theorem infoW : (Try.prog.info? 116).map (fun i => (i.zero, i.size, i.bytes)) = some (some (.int .u64 0), 1, 8) := by kernel_rfl

theorem unpack_any (v : Value) (l : List Bool) (w : World) (hv : IsB w v l) :
    Calls Try.prog 40 #[v] w fun e w' => ∃ v', e = .returned v' ∧ w'.ownsRow w.heap.size 4 1 v' l.length (bools l) ∧ Ext w w' := by
  have hvk := hv
  obtain ⟨hl, A, c, rfl, hs⟩ := hv
  obtain ⟨i0, hi0, hz0, hz1, hz2⟩ := info_parts infoB
  have hsz : i0.bytes * l.length ≤ 281474976710656 := by rw [hz2]; omega
  go_enter Try.func40, Try.ntmps40
  go_wp2_with (at_make; refine wpList_make_full _ rfl _ _ 62 rfl (w.heap.size + 1) 4 i0 (.bool false) 1 Try.underlying62 hi0 hz0 hz1 .i64 .i64 _ _ l.length rfl rfl rfl rfl hsz (by simp only [maxLen]; omega) (by simp) ?_; intro w1 hown1 hg1)
  have hb1 : Below (w.heap.size + 1) (w.alloc (.cells #[.slice A (wc l.length) c, .int .i64 (l.length : Int)] 28)) w1 := (Below.refl _ _).grown hg1 (by simp) (by intro k hk; cases hk)
  have hown2 : w1.ownsRow (w.heap.size + 1) 4 1 (.slice (some ⟨w.heap.size + 1, 0, none⟩) l.length l.length) l.length (bools (upto l 0)) := by
    have e : (madeCells (Value.bool false).cells (l.length * 1)).toList = bools (upto l 0) := by
      rw [upto_zero, Nat.mul_one]
      exact (toList_madeCells_one _ _).trans (by simp [bools])
    rw [← e]
    simpa using hown1
  clear hown1 hg1 hsz
  have HV := Lib.hid hvk
  clear hvk hs
  go_loopw [10] (fun i wr => ∃ k : Nat, k ≤ l.length ∧ i = .int .i64 k ∧ wr.ownsRow (w.heap.size + 1) 4 1 (.slice (some ⟨w.heap.size + 1, 0, none⟩) l.length l.length) l.length (bools (upto l k)) ∧ Below (w.heap.size + 1) (w.alloc (.cells #[.slice A (wc l.length) c, .int .i64 (l.length : Int)] 28)) wr) (fun i _ => l.length - (intOf i).toNat)
  case atStart => exact ⟨0, Nat.zero_le _, rfl, hown2, hb1⟩
  case round =>
    obtain ⟨k, hk, rfl, hown, hbel⟩ := hrel
    by_cases hlt : k < l.length
    · have hx : Ext w wr := ((Ext.refl w).alloc _).trans' (hbel.mono (by omega))
      have c0 : wr.cell? ⟨w.heap.size, 0, none⟩ = some (.slice A (wc l.length) c) := (hbel.cell (p := ⟨w.heap.size, 0, none⟩) (by simp)).trans (by simp)
      have c1 : wr.cell? ⟨w.heap.size, 1, none⟩ = some (.int .i64 (l.length : Int)) := (hbel.cell (p := ⟨w.heap.size, 1, none⟩) (by simp)).trans (by simp)
      have hat := at_any _ l (k : Int) wr (HV.out.ext hx)
      have hg : bget l (k : Int) = l.getD k false := by unfold bget; rw [if_pos (by omega), Int.toNat_natCast]
      rw [hg] at hat
      generalize hd : l.getD k false = d at hat
      have HD := Lib.hid hd
      clear hd hg hx hown2 hb1
      go_wp2_with fail
      refine hat.mono ?_
      rintro e w2 ⟨rfl, hx2⟩
      have hown3 := own_ext hown hx2
      have f0 : w2.cell? ⟨w.heap.size + 1, k, none⟩ = some (.bool ((upto l k).getD k false)) := by
        rw [hown3.cellAt k (by omega)]; exact bools_get (by rw [upto_length l k hk]; exact hlt)
      have f1 : w2.frozen? ⟨w.heap.size + 1, k, none⟩ = false := hown3.frozenAt k
      have hst := hown3.stored k (.bool d)
      have hbel2 : Below (w.heap.size + 1) (w.alloc (.cells #[.slice A (wc l.length) c, .int .i64 (l.length : Int)] 28)) w2 := hbel.trans (hx2.mono (by have := hbel.size; simpa using this))
      have HR : Hid ((w2.setCell ⟨w.heap.size + 1, k, none⟩ (.bool d)).ownsRow (w.heap.size + 1) 4 1 (.slice (some ⟨w.heap.size + 1, 0, none⟩) l.length l.length) l.length (bools (upto l (k + 1))) ∧ Below (w.heap.size + 1) (w.alloc (.cells #[.slice A (wc l.length) c, .int .i64 (l.length : Int)] 28)) (w2.setCell ⟨w.heap.size + 1, k, none⟩ (.bool d))) := by
        refine ⟨?_, hbel2.setCell (by simp) _⟩
        have h := hst.1
        rw [← HD.out, upto_set hlt, HD.out] at h
        exact h
      clear hst hbel2 hown3 hown hbel hat c0 c1
      go_wp2
      exact ⟨⟨k + 1, by omega, by go_num, HR.out.1, HR.out.2⟩, by simp [intOf]; omega⟩
    · have hkl : k = l.length := by omega
      subst hkl
      rw [upto_full] at hown
      go_wp2
      go_ret
      exact ⟨_, rfl, own_base hown (by omega), ((Ext.refl w).alloc _).trans' (hbel.mono (by omega))⟩
end Go.Proofs.Ytdfhefnjoekgbaa
