/- Plain facts on packed booleans: words as numbers whose binary digits are the booleans.
   Contracts of bitvec: At, Len, Unpack.
   Contracts of bitvec: trim, Make, Pack. -/
import Derived.Test.YtdkgiklbmbkdaaaHp
import Derived.Laws.BitsAllLaws
import Derived.Test.YtdkgiklbmbkdaaaSc
namespace Go.Proofs.Ytdkgiklbmbkdaaa
open Go.RowKit

namespace Bv
/-- the number with the binary digits f 0, .., f (k - 1) -/
def ofB (f : Nat → Bool) : Nat → Nat
  | 0 => 0
  | k + 1 => ofB f k + (if f k then 2 ^ k else 0)
theorem ofB_lt (f : Nat → Bool) (k : Nat) : ofB f k < 2 ^ k := by
  induction k with
  | zero => simp [ofB]
  | succ k ih =>
    unfold ofB
    rw [Nat.pow_succ]
    split <;> omega
theorem ofB_testBit (f : Nat → Bool) (k j : Nat) : (ofB f k).testBit j = (decide (j < k) && f j) := by
  induction k with
  | zero => simp [ofB]
  | succ k ih =>
    unfold ofB
    have hl := ofB_lt f k
    by_cases hf : f k = true
    · rw [if_pos hf]
      have h3 := Nat.two_pow_add_eq_or_of_lt hl 1
      rw [Nat.mul_one] at h3
      rw [Nat.add_comm, h3, Nat.testBit_or, ih, Nat.testBit_two_pow]
      by_cases hj : k = j
      · subst hj; simp [hf]
      · rw [decide_eq_false hj, Bool.false_or]
        by_cases h : j < k
        · rw [decide_eq_true h, decide_eq_true (by omega)]
        · rw [decide_eq_false h, decide_eq_false (by omega)]
    · rw [if_neg hf, Nat.add_zero, ih]
      by_cases hj : k = j
      · subst hj; simp at hf; simp [hf]
      · by_cases h : j < k
        · rw [decide_eq_true h, decide_eq_true (by omega)]
        · rw [decide_eq_false h, decide_eq_false (by omega)]
/-- the i-th word of some booleans -/
def wd (l : List Bool) (i : Nat) : Nat := ofB (fun j => l.getD (64 * i + j) false) 64
theorem wd_lt (l : List Bool) (i : Nat) : wd l i < 18446744073709551616 := ofB_lt _ 64
theorem wd_testBit (l : List Bool) (i j : Nat) : (wd l i).testBit j = (decide (j < 64) && l.getD (64 * i + j) false) := ofB_testBit _ _ _
/-- how many words are needed -/
def wc (n : Nat) : Nat := (n + 63) / 64
def words (l : List Bool) : List Nat := (List.range (wc l.length)).map (wd l)
theorem words_length (l : List Bool) : (words l).length = wc l.length := by simp [words]
theorem words_get (l : List Bool) {i : Nat} (h : i < wc l.length) : (words l)[i]? = some (wd l i) := by
  simp [words, h]
/-- a word with the right digits is the word -/
theorem wd_of {l : List Bool} {i x : Nat} (hx : x < 18446744073709551616) (h : ∀ j, j < 64 → x.testBit j = l.getD (64 * i + j) false) : x = wd l i := by
  apply Nat.eq_of_testBit_eq
  intro j
  rw [wd_testBit]
  by_cases hj : j < 64
  · rw [decide_eq_true hj, Bool.true_and]; exact h j hj
  · rw [decide_eq_false hj, Bool.false_and]
    exact Nat.testBit_lt_two_pow (Nat.lt_of_lt_of_le hx (Nat.pow_le_pow_right (n := 2) (by decide) (by omega : 64 ≤ j)))
def u64s (l : List Nat) : List Value := l.map fun (x : Nat) => Value.int .u64 (x : Int)
theorem u64s_get {l : List Nat} {i x : Nat} (h : l[i]? = some x) : (u64s l)[i]? = some (.int .u64 (x : Int)) := by
  simp [u64s, h]
/-- the value (slice A m c, n) reads as the booleans l, tidy -/
def IsB (w : World) (v : Value) (l : List Bool) : Prop :=
  l.length ≤ 1048576 ∧ ∃ A c, v = .agg #[.slice A (wc l.length) c, .int .i64 (l.length : Int)] ∧ Sl w 1 A (wc l.length) (u64s (words l))
theorem IsB.ext {w w' : World} {v : Value} {l : List Bool} (h : IsB w v l) (he : Ext w w') : IsB w' v l := by
  obtain ⟨h1, A, c, h2, h3⟩ := h
  exact ⟨h1, A, c, h2, h3.ext he⟩
theorem IsB.nil (w : World) : IsB w (.agg #[.slice none 0 0, .int .i64 0]) [] := ⟨by simp, none, 0, rfl, ⟨by simp [u64s, words, wc], fun h => by simp [wc] at h⟩⟩
theorem IsB.word {w : World} {A : Option Addr} {l : List Bool} (h : Sl w 1 A (wc l.length) (u64s (words l))) {i : Nat} (hi : i < wc l.length) : ∃ a, A = some a ∧ a.block < w.heap.size ∧ w.cell? (a.add i) = some (.int .u64 (wd l i : Int)) := by
  obtain ⟨a, u, e, hb, hu, hc⟩ := h.at1 hi
  rw [u64s_get (words_get l hi)] at hu
  cases hu
  exact ⟨a, e, hb, hc⟩
end Bv
end Go.Proofs.Ytdkgiklbmbkdaaa

namespace Go.Proofs.Ytdkgiklbmbkdaaa
open Go.RowKit Bv

namespace Bv
theorem wraps_i64 (n : Int) (h₀ : 0 ≤ n) (h₁ : n < 2 ^ 63) : IntKind.i64.wrap n = n := by rw [IntKind.wrap_i64]; omega
theorem i64_and63 (x : Int) (h₀ : 0 ≤ x) (h₁ : x < 9223372036854775808) : bits .and .i64 x 63 = x % 64 := bits_mask .i64 63 (by decide) wraps_i64 6 (by decide) x h₀ h₁
theorem u64_bit (x k : Nat) (hx : x < 18446744073709551616) : (bits .and .u64 ((x : Int) / 2 ^ k) 1 == 1) = x.testBit k := by
  have h1 : ((x : Int) / 2 ^ k) = ((x / 2 ^ k : Nat) : Int) := by simp
  have h2 : x / 2 ^ k ≤ x := Nat.div_le_self _ _
  rw [h1, and_one_u64 _ (by exact Int.natCast_nonneg _) (by have : ((x / 2 ^ k : Nat) : Int) ≤ (x : Int) := by exact_mod_cast h2
                                                            omega), Nat.testBit_eq_decide_div_mod_eq, Bool.eq_iff_iff]
  simp
  omega
/-- the boolean at a place, false where there is none -/
def bget (l : List Bool) (i : Int) : Bool := if 0 ≤ i then l.getD i.toNat false else false
theorem wd_bit (l : List Bool) (i : Nat) : (wd l (i / 64)).testBit (i % 64) = l.getD i false := by
  rw [wd_testBit, decide_eq_true (Nat.mod_lt _ (by decide)), Bool.true_and]
  congr 1
  omega
end Bv

set_option maxHeartbeats 400000
theorem at_any (v : Value) (l : List Bool) (i : Int) (w : World) (hv : IsB w v l) :
    Calls Try.prog 31 #[v, .int .i64 i] w fun e w' => e = .returned (.bool (bget l i)) ∧ Ext w w' := by
  obtain ⟨hl, A, c, rfl, hs⟩ := hv
  unfold bget
  by_cases h0 : 0 ≤ i
  · rw [if_pos h0]
    obtain ⟨k, rfl⟩ := Int.eq_ofNat_of_zero_le h0
    rw [Int.toNat_natCast]
    by_cases hi : k < l.length
    · have hk : k / 64 < wc l.length := by unfold wc; omega
      obtain ⟨a, rfl, hb, hc⟩ := IsB.word hs hk
      have e1 := i64_and63 (k : Int) (by omega) (by omega)
      have hc' : ∀ o, (w.alloc o).cell? (a.add (k / 64)) = some (.int .u64 (wd l (k / 64) : Int)) := fun o => by rw [World.cell?_alloc_lt w o _ (by rw [addr_block]; exact hb)]; exact hc
      have hx := wd_lt l (k / 64)
      have hbit := wd_bit l k
      rw [← hbit]
      clear hbit hc hs h0
      generalize wc l.length = m at *
      generalize wd l (k / 64) = x at *
      have e2 := u64_bit x (k % 64) hx
      go_enter Try.func31, Try.ntmps31
      go_wp2
      go_ret
      exact ⟨rfl, (Ext.refl w).alloc _⟩
    · have hf : l.getD k false = false := by simp [List.getD, List.getElem?_eq_none (Nat.le_of_not_lt hi)]
      rw [hf]
      clear hf hs
      generalize wc l.length = m at *
      go_enter Try.func31, Try.ntmps31
      go_wp2
      go_ret
      exact ⟨rfl, (Ext.refl w).alloc _⟩
  · rw [if_neg h0]
    clear hs
    generalize wc l.length = m at *
    go_enter Try.func31, Try.ntmps31
    go_wp2
    go_ret
    exact ⟨rfl, (Ext.refl w).alloc _⟩
theorem blen_any (v : Value) (l : List Bool) (w : World) (hv : IsB w v l) :
    Calls Try.prog 45 #[v] w fun e w' => e = .returned (.int .i64 (l.length : Int)) ∧ Ext w w' := by
  obtain ⟨hl, A, c, rfl, hs⟩ := hv
  clear hs
  generalize wc l.length = m at *
  go_enter Try.func45, Try.ntmps45
  go_wp2
  go_ret
  exact ⟨rfl, (Ext.refl w).alloc _⟩

namespace Bv
def bools (l : List Bool) : List Value := l.map .bool
theorem bools_get {l : List Bool} {k : Nat} (h : k < l.length) : (bools l)[k]? = some (.bool (l.getD k false)) := by
  simp [bools, List.getD, h]
/-- the first k of l, the rest still false -/
def upto (l : List Bool) (k : Nat) : List Bool := l.take k ++ List.replicate (l.length - k) false
theorem upto_length (l : List Bool) (k : Nat) (h : k ≤ l.length) : (upto l k).length = l.length := by simp [upto]; omega
theorem upto_zero (l : List Bool) : upto l 0 = List.replicate l.length false := by simp [upto]
theorem upto_full (l : List Bool) : upto l l.length = l := by simp [upto]
end Bv
theorem infoB : (Try.prog.info? 4).map (fun i => (i.zero, i.size, i.bytes)) = some (some (.bool false), 1, 1) := by kernel_rfl
theorem infoW : (Try.prog.info? 95).map (fun i => (i.zero, i.size, i.bytes)) = some (some (.int .u64 0), 1, 8) := by kernel_rfl

end Go.Proofs.Ytdkgiklbmbkdaaa

namespace Go.Proofs.Ytdkgiklbmbkdaaa
open Go.RowKit Bv

namespace Bv
theorem wc_cast (n : Nat) : ((n : Int) + 63) / 64 = ((wc n : Nat) : Int) := by unfold wc; omega
/-- the last word cut to its own digits -/
def trimW (ws : List Nat) (n : Nat) : List Nat := if n % 64 = 0 then ws else ws.set (wc n - 1) (ws.getD (wc n - 1) 0 % 2 ^ (n % 64))
/-- such booleans, in a row of the call's own -/
def OwnB (w : World) (base : Nat) (v : Value) (l : List Bool) : Prop :=
  l.length ≤ 1048576 ∧ ∃ g c, v = .agg #[.slice (some ⟨g, 0, none⟩) (wc l.length) c, .int .i64 (l.length : Int)] ∧ base ≤ g ∧ w.ownsRow base 95 1 (.slice (some ⟨g, 0, none⟩) (wc l.length) c) (wc l.length) (u64s (words l))
theorem OwnB.is {w : World} {base : Nat} {v : Value} {l : List Bool} (h : OwnB w base v l) : IsB w v l := by
  obtain ⟨h1, g, c, h2, _, h3⟩ := h
  exact ⟨h1, _, c, h2, Sl.own h3⟩
theorem u64_mask (r : Nat) (hr : r < 64) : IntKind.u64.wrap (2 ^ r) = 2 ^ r ∧ IntKind.u64.wrap (2 ^ r - 1) = 2 ^ r - 1 := by
  have h1 : 2 ^ r ≤ 2 ^ 63 := Nat.pow_le_pow_right (by decide) (by omega)
  have h2 := Nat.two_pow_pos r
  have h3 : ((2 : Int) ^ r) = ((2 ^ r : Nat) : Int) := by simp
  rw [h3]
  have h4 : ∀ x : Nat, x ≤ 2 ^ 63 → IntKind.u64.wrap (x : Int) = x := by
    intro x hx
    simp only [IntKind.wrap, IntKind.bits, IntKind.signed]
    simp
    omega
  have h5 := h4 (2 ^ r - 1) (by omega)
  rw [Int.natCast_sub h2] at h5
  exact ⟨h4 _ h1, by simpa using h5⟩
end Bv

set_option maxHeartbeats 400000
def nclamp (n : Int) : Nat := (max 0 (min n 1048576)).toNat
theorem nclamp_nat {k : Nat} (h : k ≤ 1048576) : nclamp (k : Int) = k := by unfold nclamp; omega
theorem nclamp_eq (n : Int) : ∃ (m : Int) (k : Nat), nclamp n = k ∧ k ≤ 1048576 ∧ (if 1048576 < n then 1048576 else n) = m ∧ (if 0 < m then m else 0) = (k : Int) := by
  refine ⟨_, nclamp n, rfl, ?_, rfl, ?_⟩
  · unfold nclamp; omega
  · unfold nclamp; split <;> split <;> omega
theorem words_false (k : Nat) : words (List.replicate k false) = List.replicate (wc k) 0 := by
  unfold words
  rw [List.length_replicate]
  apply List.ext_getElem?
  intro i
  by_cases hi : i < wc k
  · simp only [List.getElem?_map, List.getElem?_range hi, Option.map_some, List.getElem?_replicate, if_pos hi]
    congr 1
    symm
    refine wd_of (by omega) fun j hj => ?_
    simp [List.getD, List.getElem?_replicate]
    split <;> rfl
  · rw [List.getElem?_eq_none (by simp; omega), List.getElem?_eq_none (by simp; omega)]
theorem make_false (n : Int) (w : World) :
    Calls Try.prog 80 #[.int .i64 n, .bool false] w fun e w' => ∃ v, e = .returned v ∧ OwnB w' w.heap.size v (List.replicate (nclamp n) false) ∧ Ext w w' := by
  obtain ⟨i0, hi0, hz0, hz1, hz2⟩ := info_parts infoW
  obtain ⟨m, k, hnc, hk, hm1, hm2⟩ := nclamp_eq n
  rw [hnc]
  clear hnc
  have hsz : i0.bytes * wc k ≤ 281474976710656 := by rw [hz2]; unfold wc; omega
  have hwc := wc_cast k
  have hwl : wc k ≤ 16384 := by unfold wc; omega
  go_enter Try.func80, Try.ntmps80
  go_wp2_with (at_make; refine wpList_make_full _ rfl _ _ 38 rfl (w.heap.size + 1) 95 i0 (.int .u64 0) 1 Try.underlying38 hi0 hz0 hz1 .i64 .i64 _ _ (wc k) rfl rfl rfl rfl hsz (by simp only [maxLen]; omega) (by simp) ?_)
  intro w1 hown1 hg1
  have hb1 := ext_none hg1
  obtain ⟨hc1, hf1⟩ := hb1.cells
  have hs1 : w.heap.size + 1 < w1.heap.size := (hown1.lt _ rfl).2
  have hs2 : w.heap.size < w1.heap.size := by omega
  have hx : Ext w w1 := ((Ext.refl w).alloc _).trans hb1
  have HR : Hid (Ext w w1 ∧ w1.ownsRow (w.heap.size + 1) 95 1 (.slice (some ⟨w.heap.size + 1, 0, none⟩) (wc k) (wc k)) (wc k) (u64s (List.replicate (wc k) 0))) := by
    refine ⟨hx, ?_⟩
    have e : (madeCells #[Value.int .u64 0] (wc k)).toList = u64s (List.replicate (wc k) 0) := by
      exact (toList_madeCells_one _ _).trans (by simp [u64s])
    rw [← e]; exact hown1
  clear hown1 hg1 hb1 hx hsz hwc
  go_wp2_with fail
  refine bodyPost_ret (v := .agg #[.slice (some ⟨w.heap.size + 1, 0, none⟩) (wc k) (wc k), .int .i64 (k : Int)]) (by simp [results, Try.results80, go_sem, hs2, hc1]) rfl ⟨_, rfl, ?_, ?_⟩
  · refine ⟨by simp; omega, w.heap.size + 1, wc k, by simp, Nat.le_succ _, ?_⟩
    rw [List.length_replicate, words_false]
    exact own_base (((ownsRow_setCell_below (ownsRow_setCell_below HR.out.2 (by simp) _) (by simp) _)).alloc _) (Nat.le_succ _)
  · exact ((HR.out.1.setCell (Nat.le_refl _) _).setCell (Nat.le_refl _) _).alloc _

namespace Bv
theorem upto_getD (l : List Bool) (k j : Nat) : (upto l k).getD j false = (decide (j < k) && l.getD j false) := by
  unfold upto
  by_cases hj : j < k
  · rw [decide_eq_true hj, Bool.true_and]
    by_cases hl : j < l.length
    · rw [List.getD, List.getElem?_append_left (by simp; omega), List.getElem?_take, if_pos hj]
      rfl
    · rw [List.getD, List.getD, List.getElem?_eq_none (Nat.le_of_not_lt hl), List.getElem?_append_right (by simp; omega)]
      simp [List.getElem?_replicate]
      split <;> rfl
  · rw [decide_eq_false hj, Bool.false_and]
    rw [List.getD, List.getElem?_append_right (by simp; omega)]
    simp [List.getElem?_replicate]
    split <;> rfl
theorem words_upto_set {l : List Bool} {k : Nat} (h : k < l.length) (ht : l.getD k false = true) : (words (upto l k)).set (k / 64) (wd (upto l k) (k / 64) ||| 2 ^ (k % 64)) = words (upto l (k + 1)) := by
  have h1 := upto_length l k (by omega)
  have h2 := upto_length l (k + 1) (by omega)
  apply List.ext_getElem?
  intro i
  rw [List.getElem?_set, words_length, h1]
  by_cases hi : i < wc l.length
  · rw [words_get (upto l (k + 1)) (by rw [h2]; exact hi)]
    by_cases hk : k / 64 = i
    · subst hk
      rw [if_pos rfl, if_pos hi]
      congr 1
      refine wd_of (Nat.or_lt_two_pow (n := 64) (wd_lt _ _) (Nat.pow_lt_pow_right (by decide) (show k % 64 < 64 by omega))) fun j hj => ?_
      rw [Nat.testBit_or, wd_testBit, Nat.testBit_two_pow, decide_eq_true hj, Bool.true_and, upto_getD, upto_getD]
      by_cases e : k % 64 = j
      · have e2 : 64 * (k / 64) + j = k := by omega
        rw [e2, ht, decide_eq_true e]; simp
      · rw [decide_eq_false e, Bool.or_false]
        congr 1
        rw [decide_eq_decide]; omega
    · rw [if_neg hk, words_get (upto l k) (by rw [h1]; exact hi)]
      congr 1
      refine wd_of (wd_lt _ _) fun j hj => ?_
      rw [wd_testBit, decide_eq_true hj, Bool.true_and, upto_getD, upto_getD]
      congr 1
      rw [decide_eq_decide]; omega
  · rw [if_neg (by unfold wc at *; omega), List.getElem?_eq_none (by rw [words_length, h1]; omega), List.getElem?_eq_none (by rw [words_length, h2]; omega)]
theorem upto_step_false {l : List Bool} {k : Nat} (h : k < l.length) (ht : l.getD k false = false) : upto l (k + 1) = upto l k := by
  apply List.ext_getElem?
  intro j
  have h1 := upto_length l k (by omega)
  have h2 := upto_length l (k + 1) (by omega)
  by_cases hj : j < l.length
  · have e1 : (upto l (k + 1))[j]? = some ((upto l (k + 1)).getD j false) := by simp [List.getD, h2, hj]
    have e2 : (upto l k)[j]? = some ((upto l k).getD j false) := by simp [List.getD, h1, hj]
    rw [e1, e2, upto_getD, upto_getD]
    congr 1
    by_cases e : j = k
    · subst e; rw [ht]; simp
    · congr 1
      rw [decide_eq_decide]; omega
  · rw [List.getElem?_eq_none (by omega), List.getElem?_eq_none (by omega)]
theorem bv_or (x r : Nat) (hx : x < 18446744073709551616) (hr : r < 64) : bits .or .u64 (x : Int) (2 ^ r) = ((x ||| 2 ^ r : Nat) : Int) := by
  have h1 : 2 ^ r ≤ 2 ^ 63 := Nat.pow_le_pow_right (by decide) (by omega)
  have h3 : ((2 : Int) ^ r) = ((2 ^ r : Nat) : Int) := by simp
  rw [h3]
  exact u64_or_nat x (2 ^ r) hx (by omega)
end Bv

theorem make_false_nat (n : Nat) (hn : n ≤ 1048576) (w : World) :
    Calls Try.prog 80 #[.int .i64 (n : Int), .bool false] w fun e w' => ∃ g c, e = .returned (.agg #[.slice (some ⟨g, 0, none⟩) (wc n) c, .int .i64 (n : Int)]) ∧ w.heap.size ≤ g ∧ w'.ownsRow w.heap.size 95 1 (.slice (some ⟨g, 0, none⟩) (wc n) c) (wc n) (u64s (words (List.replicate n false))) ∧ Ext w w' := by
  refine (make_false (n : Int) w).mono ?_
  rintro e w' ⟨v, rfl, ⟨_, g, c, rfl, hg, hown⟩, hx⟩
  rw [nclamp_nat hn, List.length_replicate] at *
  exact ⟨g, c, rfl, hg, hown, hx⟩

theorem grown_cell {a b : World} {g : Nat} (h : a.grownBy b (some g)) {p : Addr} (hp : p.block < a.heap.size) (hne : p.block ≠ g) : b.cell? p = a.cell? p :=
  World.cell?_of_block (h.block p.block hp (fun e => hne (by injection e)))
theorem grown_frozen {a b : World} {g : Nat} (h : a.grownBy b (some g)) {p : Addr} (hp : p.block < a.heap.size) (hne : p.block ≠ g) : b.frozen? p = a.frozen? p :=
  World.frozen?_of_block (h.block p.block hp (fun e => hne (by injection e)))
theorem grown_set {a b : World} {g j : Nat} (h : a.grownBy b (some g)) (u : Value) : a.grownBy (b.setCell ⟨g, j, none⟩ u) (some g) :=
  ⟨h.os, h.tape, h.output, by simpa [World.setCell] using h.size, fun k hk hne => (Below.heap_setCell b ⟨g, j, none⟩ u k (fun e => hne (by rw [e]))).trans (h.block k hk hne)⟩
theorem grown_ext {a b c : World} {g : Nat} (h : Ext a b) (k : b.grownBy c (some g)) (hg : a.heap.size ≤ g) : Ext a c :=
  h.trans' ((Below.refl _ _).grown k h.size (fun j hj => by cases hj; exact hg))

theorem pack_any (A : Option Addr) (c : Nat) (l : List Bool) (w : World) (hl : l.length ≤ 1048576) (hc : l.length ≤ c) (hs : Sl w 1 A l.length (bools l)) :
    Calls Try.prog 75 #[.slice A l.length c] w fun e w' => ∃ v, e = .returned v ∧ OwnB w' w.heap.size v l ∧ Ext w w' := by
  have hmn : (if 1048576 < (l.length : Int) then 1048576 else (l.length : Int)) = (l.length : Int) := by rw [if_neg (by omega)]
  have hmk := make_false_nat l.length hl (w.alloc (.cells #[.slice none 0 0, .int .i64 0] 40))
  have HS := Lib.hid hs
  clear hs
  generalize hn : l.length = n at *
  have HN := Lib.hid hn
  clear hn
  generalize hm : wc n = m at *
  have HM := Lib.hid hm
  clear hm
  go_enter Try.func75, Try.ntmps75
  go_wp2_with fail
  refine hmk.mono ?_
  rintro e w2 ⟨g, c2, rfl, hg, hown, hx2⟩
  have hgs : g < w2.heap.size := (hown.lt g rfl).2
  have hs2 : w.heap.size + 1 ≤ w2.heap.size := by have := hx2.size; simpa using this
  have hg' : w.heap.size + 1 ≤ g := by simpa using hg
  have hxw : Ext w w2 := ((Ext.refl w).alloc _).trans hx2
  have R0 : w2.cell? ⟨w.heap.size, 0, none⟩ = some (.slice none 0 0) := (Below.cell (p := ⟨w.heap.size, 0, none⟩) hx2 (by simp)).trans (by simp)
  have R1 : w2.cell? ⟨w.heap.size, 1, none⟩ = some (.int .i64 0) := (Below.cell (p := ⟨w.heap.size, 1, none⟩) hx2 (by simp)).trans (by simp)
  have Rf : w2.frozen? ⟨w.heap.size, 0, none⟩ = false := (Below.frozen (p := ⟨w.heap.size, 0, none⟩) hx2 (by simp)).trans (by simp)
  have Rf1 : w2.frozen? ⟨w.heap.size, 1, none⟩ = false := (Below.frozen (p := ⟨w.heap.size, 1, none⟩) hx2 (by simp)).trans (by simp)
  clear hmk hx2 hg
  have hupz : upto l 0 = List.replicate n false := by rw [upto_zero, HN.out]
  rw [← hupz] at hown
  clear hupz
  have HO := Lib.hid (hown.alloc (.cells #[.slice (some ⟨g, 0, none⟩) m c2, .int .i64 (n : Int)] 40))
  clear hown
  go_wp2_with fail
  go_loopw [16] (fun i wr => ∃ k : Nat, k ≤ n ∧ i = .int .i64 k ∧ wr.ownsRow (w.heap.size + 1) 95 1 (.slice (some ⟨g, 0, none⟩) m c2) m (u64s (words (upto l k))) ∧ (w2.alloc (.cells #[.slice (some ⟨g, 0, none⟩) m c2, .int .i64 (n : Int)] 40)).grownBy wr (some g)) (fun i _ => n - (intOf i).toNat)
  case atStart => exact ⟨0, Nat.zero_le _, rfl, by simpa using HO.out, ⟨rfl, rfl, rfl, Nat.le_refl _, fun _ _ _ => rfl⟩⟩
  case round =>
    obtain ⟨k, hk, rfl, hown, hgr⟩ := hrel
    have O0 : wr.cell? ⟨w2.heap.size, 0, none⟩ = some (.slice (some ⟨g, 0, none⟩) m c2) := (grown_cell hgr (p := ⟨w2.heap.size, 0, none⟩) (by simp) (by simp; omega)).trans (by simp)
    have O1 : wr.cell? ⟨w2.heap.size, 1, none⟩ = some (.int .i64 (n : Int)) := (grown_cell hgr (p := ⟨w2.heap.size, 1, none⟩) (by simp) (by simp; omega)).trans (by simp)
    clear HO
    by_cases hlt : k < n
    · obtain ⟨a, u, rfl, hab, hu, hcell⟩ := HS.out.at1 hlt
      rw [bools_get (by rw [HN.out]; exact hlt)] at hu
      cases hu
      have L0 : wr.cell? (a.add k) = some (.bool (l.getD k false)) := (grown_cell hgr (by rw [addr_block]; simp; omega) (by rw [addr_block]; omega)).trans ((World.cell?_alloc_lt w2 _ _ (by rw [addr_block]; omega)).trans ((Below.cell hxw (by rw [addr_block]; exact hab)).trans hcell))
      clear hcell R0 R1 Rf Rf1 hxw
      cases hd : l.getD k false with
      | false =>
        rw [hd] at L0
        have hst := upto_step_false (by rw [HN.out]; exact hlt) hd
        rw [← hst] at hown
        have H1 := Lib.hid hown
        have H2 := Lib.hid hgr
        clear hst hown hgr hd
        go_wp2
        exact ⟨⟨k + 1, by omega, by go_num, H1.out, H2.out⟩, by simp [intOf]; omega⟩
      | true =>
        rw [hd] at L0
        have hk64 : k / 64 < m := by rw [← HM.out]; unfold wc; omega
        have hlen := upto_length l k (by rw [HN.out]; exact hk)
        have W0 : wr.cell? ⟨g, k / 64, none⟩ = some (.int .u64 (wd (upto l k) (k / 64) : Int)) := by
          rw [hown.cellAt (k / 64) (by omega)]
          exact u64s_get (words_get _ (by rw [hlen, HN.out, HM.out]; exact hk64))
        have W1 : wr.frozen? ⟨g, k / 64, none⟩ = false := hown.frozenAt _
        have hx := wd_lt (upto l k) (k / 64)
        have hor := bv_or (wd (upto l k) (k / 64)) (k % 64) hx (by omega)
        have e1 := i64_and63 (k : Int) (by omega) (by omega)
        obtain ⟨m1, m2⟩ := u64_mask (k % 64) (by omega)
        have hst := (hown.stored (k / 64) (.int .u64 ((wd (upto l k) (k / 64) ||| 2 ^ (k % 64) : Nat) : Int))).1
        have hws := words_upto_set (by rw [HN.out]; exact hlt) hd
        have e2 : (u64s (words (upto l k))).set (k / 64) (.int .u64 ((wd (upto l k) (k / 64) ||| 2 ^ (k % 64) : Nat) : Int)) = u64s (words (upto l (k + 1))) := by
          rw [← hws]; simp [u64s]
        rw [e2] at hst
        have H1 := Lib.hid hst
        have H2 := Lib.hid (grown_set (j := k / 64) hgr (.int .u64 ((wd (upto l k) (k / 64) ||| 2 ^ (k % 64) : Nat) : Int)))
        clear hst hown hgr hd hws e2 hlen m2
        generalize wd (upto l k) (k / 64) = x at *
        go_wp2
        exact ⟨⟨k + 1, by omega, by go_num, H1.out, H2.out⟩, by simp [intOf]; omega⟩
    · have hkn : k = n := by omega
      subst hkn
      have hf : upto l k = l := by rw [← HN.out, upto_full]
      rw [hf] at hown
      clear hf
      have Q0 : wr.cell? ⟨w.heap.size, 0, none⟩ = some (.slice none 0 0) := (grown_cell hgr (p := ⟨w.heap.size, 0, none⟩) (by simp; omega) (by simp; omega)).trans ((World.cell?_alloc_lt w2 _ ⟨w.heap.size, 0, none⟩ (by simp; omega)).trans R0)
      have Q1 : wr.cell? ⟨w.heap.size, 1, none⟩ = some (.int .i64 0) := (grown_cell hgr (p := ⟨w.heap.size, 1, none⟩) (by simp; omega) (by simp; omega)).trans ((World.cell?_alloc_lt w2 _ ⟨w.heap.size, 1, none⟩ (by simp; omega)).trans R1)
      have hxr : Ext w wr := grown_ext (hxw.alloc _) hgr (by omega)
      have H1 := Lib.hid hown
      have H2 := Lib.hid hxr
      have Qf : wr.frozen? ⟨w.heap.size, 0, none⟩ = false := (grown_frozen hgr (p := ⟨w.heap.size, 0, none⟩) (by simp; omega) (by simp; omega)).trans ((Below.frozen (p := ⟨w.heap.size, 0, none⟩) ((Ext.refl w2).alloc _) (by simp; omega)).trans Rf)
      have Qf1 : wr.frozen? ⟨w.heap.size, 1, none⟩ = false := (grown_frozen hgr (p := ⟨w.heap.size, 1, none⟩) (by simp; omega) (by simp; omega)).trans ((Below.frozen (p := ⟨w.heap.size, 1, none⟩) ((Ext.refl w2).alloc _) (by simp; omega)).trans Rf1)
      clear hown hgr hxr R0 R1 Rf Rf1 hxw
      go_wp2
      refine bodyPost_ret (v := .agg #[.slice (some ⟨g, 0, none⟩) m c2, .int .i64 (k : Int)]) (by simp [results, Try.results75, go_sem, Q0, Q1]) rfl ⟨_, rfl, ?_, ?_⟩
      · refine ⟨by rw [HN.out]; exact hl, g, c2, by rw [HN.out, HM.out], by omega, ?_⟩
        rw [HN.out, HM.out]
        exact own_base (ownsRow_setCell_below (ownsRow_setCell_below H1.out (by simp) _) (by simp) _) (Nat.le_succ _)
      · exact (H2.out.setCell (Nat.le_refl _) _).setCell (Nat.le_refl _) _
end Go.Proofs.Ytdkgiklbmbkdaaa
