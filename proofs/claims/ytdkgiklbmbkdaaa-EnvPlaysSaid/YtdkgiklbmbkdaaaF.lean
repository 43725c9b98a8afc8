/- Plain facts on the words of double: rungs, keys, order. No program in sight.
   Plain facts on rounding to the nearest double: 'rnd' is the rung of the nearest word; it lies on the same side of every rung as the exact number.
   Plain facts on words of whole numbers, on truncation, and on + - * of words.
   Plain facts on quotients and on products with an infinity. -/
import Derived.Laws.FloatArith
import Derived.Below
namespace Go.Proofs.Ytdkgiklbmbkdaaa.Fl
open Ieee Go Go.RowKit

/-! ### Words, rungs, keys -/
def rung (b : Nat) : Nat := b % 9223372036854775808
def neg (b : Nat) : Bool := b / 9223372036854775808 % 2 == 1
/-- the word is no NaN -/
def nn (b : Nat) : Prop := rung b ≤ 9218868437227405312
/-- the word is a number -/
def fin (b : Nat) : Prop := rung b < 9218868437227405312
instance (b : Nat) : Decidable (nn b) := inferInstanceAs (Decidable (_ ≤ _))
instance (b : Nat) : Decidable (fin b) := inferInstanceAs (Decidable (_ < _))
def key (b : Nat) : Int := if neg b then -(rung b : Int) else rung b
theorem fin.nn {b : Nat} (h : fin b) : nn b := Nat.le_of_lt h

theorem sw_eq : double.signWeight = 9223372036854775808 := by decide
theorem bn_eq : double.binade = 4503599627370496 := by decide
theorem ir_eq : double.infRung = 9218868437227405312 := by decide
theorem lp_eq : double.leastPlace = -1074 := by decide

/-- the magnitude of a rung, in units of 2^-1074; the rung of infinity goes on in the row -/
def mg (r : Nat) : Nat := if r < 4503599627370496 then r else (4503599627370496 + r % 4503599627370496) * 2 ^ (r / 4503599627370496 - 1)

theorem mg_succ (r : Nat) : mg r < mg (r + 1) := by
  unfold mg
  by_cases h1 : r + 1 < 4503599627370496
  · rw [if_pos (by omega), if_pos h1]; omega
  rw [if_neg h1]
  by_cases h2 : r < 4503599627370496
  · rw [if_pos h2]
    have : r = 4503599627370495 := by omega
    subst this
    decide
  rw [if_neg h2]
  by_cases h3 : r % 4503599627370496 + 1 < 4503599627370496
  · have e1 : (r + 1) % 4503599627370496 = r % 4503599627370496 + 1 := by omega
    have e2 : (r + 1) / 4503599627370496 = r / 4503599627370496 := by omega
    rw [e1, e2]
    exact Nat.mul_lt_mul_of_pos_right (by omega) (Nat.two_pow_pos _)
  · have e1 : (r + 1) % 4503599627370496 = 0 := by omega
    have e2 : (r + 1) / 4503599627370496 - 1 = r / 4503599627370496 - 1 + 1 := by omega
    rw [e1, e2, Nat.pow_succ]
    have e3 : r % 4503599627370496 = 4503599627370495 := by omega
    rw [e3]
    have := Nat.two_pow_pos (r / 4503599627370496 - 1)
    omega

theorem mg_lt {r s : Nat} (h : r < s) : mg r < mg s := by
  induction s with
  | zero => omega
  | succ n ih =>
    by_cases e : r = n
    · subst e; exact mg_succ r
    · exact Nat.lt_trans (ih (by omega)) (mg_succ n)

theorem mg_le {r s : Nat} (h : r ≤ s) : mg r ≤ mg s := by
  by_cases e : r = s
  · subst e; exact Nat.le_refl _
  · exact Nat.le_of_lt (mg_lt (by omega))

theorem mg_lt_iff {r s : Nat} : mg r < mg s ↔ r < s := by
  refine ⟨fun h => ?_, mg_lt⟩
  by_cases e : r < s
  · exact e
  · have := mg_le (Nat.le_of_not_lt e); omega

theorem mg_inj {r s : Nat} (h : mg r = mg s) : r = s := by
  have h1 := @mg_lt_iff r s
  have h2 := @mg_lt_iff s r
  omega

/-! ### What a word reads as -/
/-- a number's word: its magnitude stands at a place from -1074 on -/
theorem read_fin {b : Nat} (h : fin b) : ∃ (m e : Nat), double.read b = .number (neg b) m (-1074 + (e : Int)) ∧ m * 2 ^ e = mg (rung b) := by
  unfold fin rung at h
  simp only [Format.read, sw_eq, bn_eq, ir_eq, lp_eq]
  by_cases h1 : b % 9223372036854775808 < 4503599627370496
  · refine ⟨b % 9223372036854775808, 0, ?_, ?_⟩
    · rw [if_pos h1]; rfl
    · simp [mg, rung, h1]
  · refine ⟨4503599627370496 + b % 9223372036854775808 % 4503599627370496, b % 9223372036854775808 / 4503599627370496 - 1, ?_, ?_⟩
    · rw [if_neg h1, if_pos h]; rfl
    · simp [mg, rung, h1]

theorem read_inf {b : Nat} (h : rung b = 9218868437227405312) : double.read b = .infinity (neg b) := by
  unfold rung at h
  simp only [Format.read, sw_eq, bn_eq, ir_eq]
  rw [if_neg (by omega), if_neg (by omega), if_pos h]
  rfl

theorem read_nan {b : Nat} (h : ¬ nn b) : ∃ t, double.read b = .nan (neg b) t := by
  unfold nn rung at h
  refine ⟨b % 9223372036854775808 - 9218868437227405312, ?_⟩
  simp only [Format.read, sw_eq, bn_eq, ir_eq]
  rw [if_neg (by omega), if_neg (by omega), if_neg (by omega)]
  rfl

/-! ### The order of words is the order of keys -/
theorem compare_mul (a b : Int) (k : Nat) : compare (a * (2 ^ k : Nat)) (b * (2 ^ k : Nat)) = compare a b := by
  have hp : (0 : Int) < ((2 ^ k : Nat) : Int) := by exact_mod_cast Nat.two_pow_pos k
  rcases Int.lt_trichotomy a b with h | h | h
  · rw [Int.compare_eq_lt.2 h, Int.compare_eq_lt.2 (Int.mul_lt_mul_of_pos_right h hp)]
  · subst h; simp
  · rw [Int.compare_eq_gt.2 h, Int.compare_eq_gt.2 (Int.mul_lt_mul_of_pos_right h hp)]

def sg (s : Bool) (m : Nat) : Int := if s then -(m : Int) else m
theorem sg_mul (s : Bool) (m k : Nat) : sg s (m * k) = sg s m * (k : Int) := by
  unfold sg
  cases s
  · simp
  · simp [Int.neg_mul]
theorem signed_eq (s : Bool) (m k : Nat) : signed s m k = sg s m * ((2 ^ k : Nat) : Int) := by
  unfold signed sg
  rw [Nat.shiftLeft_eq]
  cases s
  · simp
  · simp [Int.neg_mul]

theorem compare_sg (s t : Bool) (r q : Nat) : compare (sg s (mg r)) (sg t (mg q)) = compare (sg s r) (sg t q) := by
  have m0 : mg 0 = 0 := by decide
  have h1 := @mg_lt_iff r q
  have h2 := @mg_lt_iff q r
  have h3 := @mg_lt_iff 0 r
  have h4 := @mg_lt_iff 0 q
  rw [m0] at h3 h4
  rcases Int.lt_trichotomy (sg s r) (sg t q) with h | h | h
  · rw [Int.compare_eq_lt.2 h, Int.compare_eq_lt]
    cases s <;> cases t <;> simp only [sg] at h ⊢ <;> simp at h ⊢ <;> omega
  · rw [h, Int.compare_eq_eq.2 rfl, Int.compare_eq_eq]
    cases s <;> cases t <;> simp only [sg] at h ⊢ <;> simp at h ⊢ <;> omega
  · rw [Int.compare_eq_gt.2 h, Int.compare_eq_gt]
    cases s <;> cases t <;> simp only [sg] at h ⊢ <;> simp at h ⊢ <;> omega

theorem key_eq (b : Nat) : key b = sg (neg b) (rung b) := rfl

theorem order_num (s t : Bool) (m n e f : Nat) (r q : Nat) (h1 : m * 2 ^ e = mg r) (h2 : n * 2 ^ f = mg q) :
    (Datum.number s m (-1074 + (e : Int))).order (.number t n (-1074 + (f : Int))) = some (compare (sg s r) (sg t q)) := by
  simp only [Datum.order, signed_eq]
  rw [← compare_sg, ← h1, ← h2, sg_mul, sg_mul]
  congr 1
  by_cases hle : e ≤ f
  · have e1 : (-1074 + (e : Int) - min (-1074 + (e : Int)) (-1074 + (f : Int))).toNat = 0 := by omega
    have e2 : (-1074 + (f : Int) - min (-1074 + (e : Int)) (-1074 + (f : Int))).toNat = f - e := by omega
    rw [e1, e2, ← compare_mul _ _ e]
    congr 1
    · simp
    · rw [Int.mul_assoc, ← Int.natCast_mul, ← Nat.pow_add, Nat.sub_add_cancel hle]
  · have e1 : (-1074 + (e : Int) - min (-1074 + (e : Int)) (-1074 + (f : Int))).toNat = e - f := by omega
    have e2 : (-1074 + (f : Int) - min (-1074 + (e : Int)) (-1074 + (f : Int))).toNat = 0 := by omega
    rw [e1, e2, ← compare_mul _ _ f]
    congr 1
    · rw [Int.mul_assoc, ← Int.natCast_mul, ← Nat.pow_add, Nat.sub_add_cancel (by omega)]
    · simp

theorem order_nn {a b : Nat} (ha : nn a) (hb : nn b) : double.order a b = some (compare (key a) (key b)) := by
  unfold Format.order
  rw [key_eq, key_eq]
  by_cases fa : fin a
  · obtain ⟨m, e, ra, va⟩ := read_fin fa
    by_cases fb : fin b
    · obtain ⟨n, f, rb, vb⟩ := read_fin fb
      rw [ra, rb]
      exact order_num _ _ _ _ _ _ _ _ va vb
    · have hi : rung b = 9218868437227405312 := by unfold nn at hb; unfold fin at fb; omega
      rw [ra, read_inf hi, hi]
      unfold fin at fa
      simp only [Datum.order]
      congr 1
      cases neg b
      · rw [eq_comm, if_neg (by simp), Int.compare_eq_lt]; cases neg a <;> simp only [sg] <;> simp <;> omega
      · rw [eq_comm, if_pos rfl, Int.compare_eq_gt]; cases neg a <;> simp only [sg] <;> simp <;> omega
  · have hj : rung a = 9218868437227405312 := by unfold nn at ha; unfold fin at fa; omega
    rw [read_inf hj, hj]
    by_cases fb : fin b
    · obtain ⟨n, f, rb, vb⟩ := read_fin fb
      rw [rb]
      unfold fin at fb
      simp only [Datum.order]
      congr 1
      cases neg a
      · rw [eq_comm, if_neg (by simp), Int.compare_eq_gt]; cases neg b <;> simp only [sg] <;> simp <;> omega
      · rw [eq_comm, if_pos rfl, Int.compare_eq_lt]; cases neg b <;> simp only [sg] <;> simp <;> omega
    · have hi : rung b = 9218868437227405312 := by unfold nn at hb; unfold fin at fb; omega
      rw [read_inf hi, hi]
      simp only [Datum.order]
      cases neg a <;> cases neg b <;> decide

theorem order_nan {a b : Nat} (h : ¬ nn a ∨ ¬ nn b) : double.order a b = none := by
  unfold Format.order
  rcases h with h | h
  · obtain ⟨t, e⟩ := read_nan h
    rw [e]; rfl
  · obtain ⟨t, e⟩ := read_nan h
    rw [e]
    generalize double.read a = d
    cases d <;> rfl

/-! ### The six comparisons, in the walk's spelling -/
abbrev k64 : Format := FloatKind.f64.format
theorem k64_eq : FloatKind.f64.format = double := rfl
theorem c_lt {a b : Nat} (ha : nn a) (hb : nn b) : (FloatKind.f64.format.order a b == some .lt) = decide (key a < key b) := by
  rw [k64_eq, order_nn ha hb, Bool.eq_iff_iff]; simp [Int.compare_eq_lt]
theorem c_gt {a b : Nat} (ha : nn a) (hb : nn b) : (FloatKind.f64.format.order a b == some .gt) = decide (key b < key a) := by
  rw [k64_eq, order_nn ha hb, Bool.eq_iff_iff]; simp [Int.compare_eq_gt]
theorem c_eq {a b : Nat} (ha : nn a) (hb : nn b) : (FloatKind.f64.format.order a b == some .eq) = decide (key a = key b) := by
  rw [k64_eq, order_nn ha hb, Bool.eq_iff_iff]; simp
theorem c_ne {a b : Nat} (ha : nn a) (hb : nn b) : (FloatKind.f64.format.order a b != some .eq) = !decide (key a = key b) := by
  rw [← c_eq ha hb]; rfl
theorem c_nan {a b : Nat} (h : ¬ nn a ∨ ¬ nn b) (o : Ordering) : (FloatKind.f64.format.order a b == some o) = false := by
  rw [k64_eq, order_nan h]; cases o <;> rfl
theorem c_nen {a b : Nat} (h : ¬ nn a ∨ ¬ nn b) : (FloatKind.f64.format.order a b != some .eq) = true := by
  rw [k64_eq, order_nan h]; rfl

end Go.Proofs.Ytdkgiklbmbkdaaa.Fl

namespace Go.Proofs.Ytdkgiklbmbkdaaa.Fl
open Ieee Go Go.RowKit

/-! ### Cutting -/
theorem shl_one (k : Nat) : 1 <<< k = 2 ^ k := by simp [Nat.shiftLeft_eq]

theorem cut_even_ge (s : Bool) (n d k : Nat) (h : k * 2 ^ d ≤ n) : k ≤ Toward.even.cut s n d := by
  unfold Toward.cut
  simp only [shl_one]
  by_cases hd : d ≤ n.log2 + 2
  · rw [Nat.min_eq_left hd]
    have : k ≤ n / 2 ^ d := (Nat.le_div_iff_mul_le (Nat.two_pow_pos d)).2 h
    omega
  · have hk : k = 0 := by
      rcases Nat.eq_zero_or_pos k with h0 | h0
      · exact h0
      · have h1 : 1 * 2 ^ d ≤ k * 2 ^ d := Nat.mul_le_mul_right _ h0
        have h2 : 2 ^ (n.log2 + 1) ≤ 2 ^ d := Nat.pow_le_pow_right (by decide) (by omega)
        have h3 := @Nat.lt_log2_self n
        omega
    subst hk; exact Nat.zero_le _

theorem cut_even_le (s : Bool) (n d k : Nat) (h : n ≤ k * 2 ^ d) : Toward.even.cut s n d ≤ k := by
  unfold Toward.cut
  simp only [shl_one]
  by_cases hd : d ≤ n.log2 + 2
  · rw [Nat.min_eq_left hd]
    have hp := Nat.two_pow_pos d
    have hm := Nat.div_add_mod n (2 ^ d)
    have hlt := Nat.mod_lt n hp
    generalize 2 ^ d = g at *
    generalize n / g = q at *
    generalize n % g = r at *
    by_cases hr : r = 0
    · subst hr
      have : q ≤ k := Nat.le_of_mul_le_mul_left (by rw [Nat.mul_comm g k]; omega : g * q ≤ g * k) hp
      have e : (decide (g < 2 * 0) || (g == 2 * 0 && q % 2 == 1)) = false := by simp; omega
      rw [e]; simpa using this
    · have : q < k := Nat.lt_of_mul_lt_mul_left (a := g) (by rw [Nat.mul_comm g k]; omega)
      have := Bool.toNat_le (decide (g < 2 * r) || (g == 2 * r && q % 2 == 1))
      omega
  · rw [Nat.min_eq_right (by omega)]
    have h3 := @Nat.lt_log2_self n
    have h4 : 2 ^ (n.log2 + 2) = 2 ^ (n.log2 + 1) * 2 := Nat.pow_succ ..
    generalize 2 ^ (n.log2 + 1) = x at *
    rw [h4, Nat.div_eq_of_lt (by omega), Nat.mod_eq_of_lt (by omega)]
    have e : (decide (x * 2 < 2 * n) || (x * 2 == 2 * n && 0 % 2 == 1)) = false := by simp; omega
    rw [e]; simp

/-! ### The nearest rung -/
/-- how many binades are skipped -/
def skip (n : Nat) (q : Int) : Nat := (q + n.log2 - 52).toNat
def rnd (n : Nat) (p : Int) : Nat :=
  if n = 0 then 0 else
  min (skip n (p + 1074) * 4503599627370496 + Toward.even.cut false (n <<< (p + 1074 - skip n (p + 1074)).toNat) (skip n (p + 1074) - (p + 1074)).toNat) 9218868437227405312

theorem nearest_eq (s : Bool) (n : Nat) (p : Int) : double.nearest s n p = double.word s (rnd n p) := by
  unfold Format.nearest rnd
  by_cases h : n = 0
  · rw [if_pos h, if_pos h]
  rw [if_neg h, if_neg h]
  dsimp only
  rw [lp_eq, bn_eq, ir_eq]
  have e0 : ((double.fractionBits : Nat) : Int) = 52 := rfl
  rw [e0]
  have e1 : max (p + (n.log2 : Int) - 52) (-1074) = (skip n (p + 1074) : Int) - 1074 := by unfold skip; omega
  rw [e1]
  have e2 : ((skip n (p + 1074) : Int) - 1074 - -1074).toNat = skip n (p + 1074) := by omega
  have e3 : (p - ((skip n (p + 1074) : Int) - 1074)).toNat = (p + 1074 - skip n (p + 1074)).toNat := by omega
  have e4 : ((skip n (p + 1074) : Int) - 1074 - p).toNat = (skip n (p + 1074) - (p + 1074)).toNat := by omega
  rw [e2, e3, e4]
  rfl

theorem mg_skip (E k : Nat) (hk : k ≤ 9007199254740992) (h : E = 0 ∨ 4503599627370496 ≤ k) : mg (E * 4503599627370496 + k) = k * 2 ^ E := by
  unfold mg
  by_cases h1 : k < 4503599627370496
  · have : E = 0 := by omega
    subst this
    rw [if_pos (by omega)]; simp
  rw [if_neg (by omega)]
  by_cases h2 : k = 9007199254740992
  · subst h2
    have e1 : (E * 4503599627370496 + 9007199254740992) % 4503599627370496 = 0 := by omega
    have e2 : (E * 4503599627370496 + 9007199254740992) / 4503599627370496 - 1 = E + 1 := by omega
    rw [e1, e2, Nat.pow_succ]; omega
  · have e1 : 4503599627370496 + (E * 4503599627370496 + k) % 4503599627370496 = k := by omega
    have e2 : (E * 4503599627370496 + k) / 4503599627370496 - 1 = E := by omega
    rw [e1, e2]

/-- the comparison of a rung with the number 'n * 2 ^ (q - 1074)' -/
def atLeast (n : Nat) (q : Int) (x : Nat) : Prop := x * 2 ^ (-q).toNat ≤ n * 2 ^ q.toNat
def atMost (n : Nat) (q : Int) (x : Nat) : Prop := n * 2 ^ q.toNat ≤ x * 2 ^ (-q).toNat

theorem kept_ge (n : Nat) (q : Int) (E k : Nat) (h : atLeast n q (k * 2 ^ E)) : k ≤ Toward.even.cut false (n <<< (q - E).toNat) (E - q).toNat := by
  apply cut_even_ge
  unfold atLeast at h
  rw [Nat.shiftLeft_eq]
  by_cases hq : 0 ≤ q
  · have e0 : (-q).toNat = 0 := by omega
    rw [e0, Nat.pow_zero, Nat.mul_one] at h
    by_cases hE : (E : Int) ≤ q
    · have e1 : ((E : Int) - q).toNat = 0 := by omega
      have e2 : q.toNat = (q - E).toNat + E := by omega
      rw [e1, Nat.pow_zero, Nat.mul_one]
      rw [e2, Nat.pow_add, ← Nat.mul_assoc] at h
      exact Nat.le_of_mul_le_mul_right h (Nat.two_pow_pos E)
    · have e1 : (q - (E : Int)).toNat = 0 := by omega
      have e2 : E = ((E : Int) - q).toNat + q.toNat := by omega
      rw [e1, Nat.pow_zero, Nat.mul_one]
      rw [e2, Nat.pow_add, ← Nat.mul_assoc] at h
      exact Nat.le_of_mul_le_mul_right h (Nat.two_pow_pos _)
  · have e0 : q.toNat = 0 := by omega
    have e1 : (q - (E : Int)).toNat = 0 := by omega
    have e2 : ((E : Int) - q).toNat = E + (-q).toNat := by omega
    rw [e0, Nat.pow_zero, Nat.mul_one] at h
    rw [e1, Nat.pow_zero, Nat.mul_one, e2, Nat.pow_add, ← Nat.mul_assoc]
    exact h

theorem kept_le (n : Nat) (q : Int) (E k : Nat) (h : atMost n q (k * 2 ^ E)) : Toward.even.cut false (n <<< (q - E).toNat) (E - q).toNat ≤ k := by
  apply cut_even_le
  unfold atMost at h
  rw [Nat.shiftLeft_eq]
  by_cases hq : 0 ≤ q
  · have e0 : (-q).toNat = 0 := by omega
    rw [e0, Nat.pow_zero, Nat.mul_one] at h
    by_cases hE : (E : Int) ≤ q
    · have e1 : ((E : Int) - q).toNat = 0 := by omega
      have e2 : q.toNat = (q - E).toNat + E := by omega
      rw [e1, Nat.pow_zero, Nat.mul_one]
      rw [e2, Nat.pow_add, ← Nat.mul_assoc] at h
      exact Nat.le_of_mul_le_mul_right h (Nat.two_pow_pos E)
    · have e1 : (q - (E : Int)).toNat = 0 := by omega
      have e2 : E = ((E : Int) - q).toNat + q.toNat := by omega
      rw [e1, Nat.pow_zero, Nat.mul_one]
      rw [e2, Nat.pow_add, ← Nat.mul_assoc] at h
      exact Nat.le_of_mul_le_mul_right h (Nat.two_pow_pos _)
  · have e0 : q.toNat = 0 := by omega
    have e1 : (q - (E : Int)).toNat = 0 := by omega
    have e2 : ((E : Int) - q).toNat = E + (-q).toNat := by omega
    rw [e0, Nat.pow_zero, Nat.mul_one] at h
    rw [e1, Nat.pow_zero, Nat.mul_one, e2, Nat.pow_add, ← Nat.mul_assoc]
    exact h

theorem below_top (n : Nat) (q : Int) : n * 2 ^ q.toNat < 9007199254740992 * 2 ^ skip n q * 2 ^ (-q).toNat := by
  have h1 := @Nat.lt_log2_self n
  have e : (9007199254740992 : Nat) = 2 ^ 53 := by decide
  rw [e, ← Nat.pow_add, ← Nat.pow_add]
  refine Nat.lt_of_lt_of_le (Nat.mul_lt_mul_of_pos_right h1 (Nat.two_pow_pos _)) ?_
  rw [← Nat.pow_add]
  refine Nat.pow_le_pow_right (by decide) ?_
  unfold skip
  omega

theorem above_low (n : Nat) (q : Int) (hn : n ≠ 0) (h : skip n q ≠ 0) : atLeast n q (4503599627370496 * 2 ^ skip n q) := by
  unfold atLeast
  have h1 := Nat.log2_self_le hn
  have e : (4503599627370496 : Nat) = 2 ^ 52 := by decide
  rw [e, ← Nat.pow_add, ← Nat.pow_add]
  refine Nat.le_trans ?_ (Nat.mul_le_mul_right _ h1)
  rw [← Nat.pow_add]
  refine Nat.pow_le_pow_right (by decide) ?_
  unfold skip at h ⊢
  omega

/-- THE NEAREST RUNG IS AT LEAST EVERY RUNG THAT THE NUMBER IS AT LEAST. -/
theorem rnd_ge {n : Nat} {p : Int} {r : Nat} (hr : r ≤ 9218868437227405312) (h : atLeast n (p + 1074) (mg r)) : r ≤ rnd n p := by
  unfold rnd
  by_cases hn : n = 0
  · subst hn
    rw [if_pos rfl]
    unfold atLeast at h
    rw [Nat.zero_mul] at h
    have h0 : mg r = 0 := by
      rcases Nat.eq_zero_or_pos (mg r) with h' | h'
      · exact h'
      · have := Nat.mul_pos h' (Nat.two_pow_pos (-(p + 1074)).toNat); omega
    have : mg 0 = 0 := by decide
    exact Nat.le_of_eq (mg_inj (by omega))
  rw [if_neg hn]
  refine Nat.le_min.2 ⟨?_, hr⟩
  generalize p + 1074 = q at *
  generalize hK : Toward.even.cut false (n <<< (q - (skip n q : Int)).toNat) ((skip n q : Int) - q).toNat = K
  have hK1 : K ≤ 9007199254740992 := by
    rw [← hK]; exact kept_le n q _ _ (Nat.le_of_lt (below_top n q))
  have hK2 : skip n q = 0 ∨ 4503599627370496 ≤ K := by
    by_cases h0 : skip n q = 0
    · exact Or.inl h0
    · right; rw [← hK]; exact kept_ge n q _ _ (above_low n q hn h0)
  apply Decidable.byContradiction
  intro hc
  have hlt : skip n q * 4503599627370496 + K < r := Nat.lt_of_not_le hc
  by_cases hk : K = 9007199254740992
  · have h1 := mg_lt hlt
    rw [mg_skip _ _ hK1 hK2, hk] at h1
    have h2 := below_top n q
    unfold atLeast at h
    have h3 := Nat.mul_lt_mul_of_pos_right h1 (Nat.two_pow_pos (-q).toNat)
    omega
  · have h1 : mg (skip n q * 4503599627370496 + (K + 1)) ≤ mg r := mg_le (by omega)
    rw [mg_skip _ _ (by omega) (by omega)] at h1
    have h2 : atLeast n q ((K + 1) * 2 ^ skip n q) := by
      unfold atLeast at h ⊢
      exact Nat.le_trans (Nat.mul_le_mul_right _ h1) h
    have h3 := kept_ge n q _ _ h2
    omega

theorem rnd_le {n : Nat} {p : Int} {r : Nat} (h : atMost n (p + 1074) (mg r)) : rnd n p ≤ r := by
  unfold rnd
  by_cases hn : n = 0
  · subst hn; rw [if_pos rfl]; omega
  rw [if_neg hn]
  refine Nat.le_trans (Nat.min_le_left _ _) ?_
  generalize p + 1074 = q at *
  generalize hK : Toward.even.cut false (n <<< (q - (skip n q : Int)).toNat) ((skip n q : Int) - q).toNat = K
  have hK1 : K ≤ 9007199254740992 := by
    rw [← hK]; exact kept_le n q _ _ (Nat.le_of_lt (below_top n q))
  have hK2 : skip n q = 0 ∨ 4503599627370496 ≤ K := by
    by_cases h0 : skip n q = 0
    · exact Or.inl h0
    · right; rw [← hK]; exact kept_ge n q _ _ (above_low n q hn h0)
  apply Decidable.byContradiction
  intro hc
  have hlt : r < skip n q * 4503599627370496 + K := Nat.lt_of_not_le hc
  by_cases hk : skip n q ≠ 0 ∧ K = 4503599627370496
  · obtain ⟨k1, k2⟩ := hk
    have h1 := mg_lt hlt
    rw [mg_skip _ _ hK1 hK2, k2] at h1
    have h2 := above_low n q hn k1
    unfold atMost at h
    unfold atLeast at h2
    have h3 := Nat.mul_lt_mul_of_pos_right h1 (Nat.two_pow_pos (-q).toNat)
    omega
  · have hK3 : K ≠ 0 := by
      intro h0; subst h0
      rcases hK2 with h' | h'
      · rw [h'] at hlt; omega
      · omega
    have h1 : mg r ≤ mg (skip n q * 4503599627370496 + (K - 1)) := mg_le (by omega)
    rw [mg_skip _ _ (by omega) (by omega)] at h1
    have h2 : atMost n q ((K - 1) * 2 ^ skip n q) := by
      unfold atMost at h ⊢
      exact Nat.le_trans h (Nat.mul_le_mul_right _ h1)
    have h3 := kept_le n q _ _ h2
    omega

theorem rnd_inf (n : Nat) (p : Int) : rnd n p ≤ 9218868437227405312 := by
  unfold rnd
  split
  · omega
  · exact Nat.min_le_right _ _

/-- exact numbers are met -/
theorem rnd_exact {n : Nat} {p : Int} {r : Nat} (hr : r ≤ 9218868437227405312) (h : n * 2 ^ (p + 1074).toNat = mg r * 2 ^ (-(p + 1074)).toNat) : rnd n p = r :=
  Nat.le_antisymm (rnd_le (Nat.le_of_eq h)) (rnd_ge hr (Nat.le_of_eq h.symm))

/-- every whole number of at most 53 binary digits, times a power of two, is a rung's -/
theorem rung_of (e : Nat) : ∀ (m : Nat), m ≤ 9007199254740992 → ∃ r, mg r = m * 2 ^ e := by
  induction e with
  | zero =>
    intro m hm
    refine ⟨m, ?_⟩
    have := mg_skip 0 m hm (Or.inl rfl)
    simpa using this
  | succ e ih =>
    intro m hm
    by_cases h : 4503599627370496 ≤ m
    · exact ⟨(e + 1) * 4503599627370496 + m, mg_skip _ _ hm (Or.inr h)⟩
    · obtain ⟨r, hr⟩ := ih (2 * m) (by omega)
      exact ⟨r, by rw [hr, Nat.pow_succ, Nat.mul_comm 2 m, Nat.mul_assoc, Nat.mul_comm 2]⟩

/-! ### Signs and rungs of words -/
theorem rung_word (s : Bool) {r : Nat} (h : r ≤ 9218868437227405312) : rung (double.word s r) = r := by
  unfold rung Format.word
  rw [sw_eq]
  cases s <;> simp <;> omega
theorem neg_word (s : Bool) {r : Nat} (h : r ≤ 9218868437227405312) : neg (double.word s r) = s := by
  unfold neg Format.word
  rw [sw_eq]
  cases s
  · simp; omega
  · simp; omega
theorem word_eta {b : Nat} (h : b < 18446744073709551616) : double.word (neg b) (rung b) = b := by
  unfold neg rung Format.word
  rw [sw_eq]
  by_cases h1 : b / 9223372036854775808 % 2 = 1
  · simp [h1]; omega
  · simp [h1]; omega

theorem nearest_nn (s : Bool) (n : Nat) (p : Int) : nn (double.nearest s n p) := by
  rw [nearest_eq]; unfold nn; rw [rung_word _ (rnd_inf n p)]; exact rnd_inf n p

end Go.Proofs.Ytdkgiklbmbkdaaa.Fl

namespace Go.Proofs.Ytdkgiklbmbkdaaa.Fl
open Ieee Go Go.RowKit

/-- 2^1074: the units in 1 -/
def U : Nat := 2 ^ 1074
theorem U_pos : 0 < U := by rw [U]; exact Nat.two_pow_pos 1074
/-- a word's value, in units -/
def sv (b : Nat) : Int := sg (neg b) (mg (rung b))
/-- the rung of 2^53 -/
theorem mg_top : mg 4845873199050653696 = 9007199254740992 * U := by decide +kernel
theorem mg_one : mg 4607182418800017408 = U := by decide +kernel
theorem mg_zero : mg 0 = 0 := by decide

theorem compare_key (a b : Nat) : compare (key a) (key b) = compare (sv a) (sv b) := (compare_sg (neg a) (neg b) (rung a) (rung b)).symm
theorem key_lt {a b : Nat} : key a < key b ↔ sv a < sv b := by rw [← Int.compare_eq_lt, compare_key, Int.compare_eq_lt]
theorem key_inj {a b : Nat} : key a = key b ↔ sv a = sv b := by
  have h1 := @key_lt a b
  have h2 := @key_lt b a
  omega

theorem sg_natAbs (n : Int) : sg (decide (n < 0)) n.natAbs = n := by
  unfold sg
  by_cases h : n < 0
  · simp [h]; omega
  · simp [h]; omega

/-! ### Words of whole numbers -/
def fi (n : Int) : Nat := FloatKind.f64.nearest n
theorem fi_eq (n : Int) : fi n = double.word (decide (n < 0)) (rnd n.natAbs 0) := nearest_eq _ _ _
theorem fi_conv (n : Int) : floatOfInt .f64 n = fi n := rfl

theorem fi_rung {n : Int} (h1 : -9007199254740992 ≤ n) (h2 : n ≤ 9007199254740992) : mg (rung (fi n)) = n.natAbs * U ∧ rung (fi n) ≤ 4845873199050653696 := by
  obtain ⟨r, hr⟩ := rung_of 1074 n.natAbs (by omega)
  have hr' : mg r = n.natAbs * U := by rw [hr, U]
  have hle : r ≤ 4845873199050653696 := by
    apply Decidable.byContradiction
    intro hc
    have := mg_lt (Nat.lt_of_not_le hc)
    rw [mg_top, hr'] at this
    have h3 : n.natAbs * U ≤ 9007199254740992 * U := Nat.mul_le_mul_right _ (by omega)
    omega
  have hx : rnd n.natAbs 0 = r := by
    refine rnd_exact (by omega) ?_
    have e1 : ((0 : Int) + 1074).toNat = 1074 := by decide
    have e2 : (-((0 : Int) + 1074)).toNat = 0 := by decide
    rw [e1, e2, hr', U, Nat.pow_zero, Nat.mul_one]
  rw [fi_eq, rung_word _ (rnd_inf _ _), hx]
  exact ⟨hr', hle⟩

theorem fi_fin {n : Int} (h1 : -9007199254740992 ≤ n) (h2 : n ≤ 9007199254740992) : fin (fi n) := by
  have := (fi_rung h1 h2).2
  unfold fin; omega
theorem fi_neg (n : Int) : neg (fi n) = decide (n < 0) := by rw [fi_eq, neg_word _ (rnd_inf _ _)]
theorem fi_lt64 (n : Int) : fi n < 18446744073709551616 := by
  have := double.nearest_lt (decide (n < 0)) n.natAbs 0
  exact this
theorem fi_sv {n : Int} (h1 : -9007199254740992 ≤ n) (h2 : n ≤ 9007199254740992) : sv (fi n) = n * U := by
  unfold sv
  rw [fi_neg, (fi_rung h1 h2).1, sg_mul, sg_natAbs]
/-! ### A zero without a sign -/
def norm (b : Nat) : Nat := if rung b = 0 then 0 else b
/-- a number's word, no zero with a sign -/
def tidy (b : Nat) : Prop := fin b ∧ b < 18446744073709551616 ∧ (rung b = 0 → b = 0)
theorem tidy_norm {b : Nat} (h : fin b) (hb : b < 18446744073709551616) : tidy (norm b) := by
  unfold norm tidy
  by_cases e : rung b = 0
  · rw [if_pos e]; exact ⟨by decide, by decide, fun _ => rfl⟩
  · rw [if_neg e]; exact ⟨h, hb, fun h' => absurd h' e⟩
theorem norm_tidy {b : Nat} (h : tidy b) : norm b = b := by
  unfold norm
  by_cases e : rung b = 0
  · rw [if_pos e, h.2.2 e]
  · rw [if_neg e]
theorem norm_key {a b : Nat} (ha : a < 18446744073709551616) (hb : b < 18446744073709551616) (h : key a = key b) : norm a = norm b := by
  have h1 : rung a = rung b := by
    unfold key at h
    cases h2 : neg a <;> cases h3 : neg b <;> simp [h2, h3] at h <;> omega
  unfold norm
  by_cases e : rung a = 0
  · rw [if_pos e, if_pos (by omega)]
  · rw [if_neg e, if_neg (by omega)]
    rw [← word_eta ha, ← word_eta hb, h1]
    have : neg a = neg b := by
      unfold key at h
      cases h2 : neg a <;> cases h3 : neg b <;> simp [h2, h3] at h ⊢ <;> omega
    rw [this]
theorem tidy_key {a b : Nat} (ha : tidy a) (hb : tidy b) (h : key a = key b) : a = b := by
  rw [← norm_tidy ha, ← norm_tidy hb]; exact norm_key ha.2.1 hb.2.1 h
theorem fi_tidy {n : Int} (h1 : -9007199254740992 ≤ n) (h2 : n ≤ 9007199254740992) : tidy (fi n) := by
  refine ⟨fi_fin h1 h2, fi_lt64 n, fun h => ?_⟩
  have h3 := (fi_rung h1 h2).1
  rw [h, mg_zero] at h3
  have h4 := U_pos
  have : n.natAbs = 0 := by
    rcases Nat.eq_zero_or_pos n.natAbs with h5 | h5
    · exact h5
    · have := Nat.mul_pos h5 h4; omega
  have : n = 0 := by omega
  subst this
  decide

/-! ### Truncation -/
def trn (b : Nat) : Int := sg (neg b) (mg (rung b) / U)

theorem cut_zero (s : Bool) (n d : Nat) : Toward.zero.cut s n d = n / 2 ^ d := by
  unfold Toward.cut
  simp only [shl_one, Bool.toNat_false, Nat.add_zero]
  by_cases hd : d ≤ n.log2 + 2
  · rw [Nat.min_eq_left hd]
  · rw [Nat.min_eq_right (by omega)]
    have h3 := @Nat.lt_log2_self n
    have h4 : 2 ^ (n.log2 + 1) ≤ 2 ^ (n.log2 + 2) := Nat.pow_le_pow_right (by decide) (by omega)
    have h5 : 2 ^ (n.log2 + 1) ≤ 2 ^ d := Nat.pow_le_pow_right (by decide) (by omega)
    rw [Nat.div_eq_of_lt (by omega), Nat.div_eq_of_lt (by omega)]

theorem scale_div (m e : Nat) : (m <<< (-1074 + (e : Int)).toNat) / 2 ^ (-(-1074 + (e : Int))).toNat = m * 2 ^ e / U := by
  rw [Nat.shiftLeft_eq]
  unfold U
  by_cases h : 1074 ≤ e
  · have e1 : (-(-1074 + (e : Int))).toNat = 0 := by omega
    have e2 : (-1074 + (e : Int)).toNat = e - 1074 := by omega
    have e3 : e = e - 1074 + 1074 := by omega
    rw [e1, e2, Nat.pow_zero, Nat.div_one]
    conv => rhs; rw [e3, Nat.pow_add, ← Nat.mul_assoc]
    rw [Nat.mul_div_cancel _ (Nat.two_pow_pos 1074)]
  · have e1 : (-(-1074 + (e : Int))).toNat = 1074 - e := by omega
    have e2 : (-1074 + (e : Int)).toNat = 0 := by omega
    have e3 : 1074 = (1074 - e) + e := by omega
    rw [e1, e2, Nat.pow_zero, Nat.mul_one]
    conv => rhs; rw [e3, Nat.pow_add]
    rw [Nat.mul_div_mul_right _ _ (Nat.two_pow_pos e)]

theorem toInt_fin {b : Nat} (h : fin b) : (FloatKind.f64.decode b).toInt .zero = some (trn b) := by
  obtain ⟨m, e, rb, vb⟩ := read_fin h
  show (double.read b).toInt .zero = _
  rw [rb]
  simp only [Datum.toInt, Datum.integral]
  rw [cut_zero, scale_div, vb, signed_eq]
  simp [trn]

def small (b : Nat) : Prop := rung b ≤ 4845873199050653696
instance (b : Nat) : Decidable (small b) := inferInstanceAs (Decidable (_ ≤ _))
theorem small.fin {b : Nat} (h : small b) : fin b := by unfold small at h; unfold Fl.fin; omega
theorem small_mg {b : Nat} : small b ↔ mg (rung b) ≤ 9007199254740992 * U := by
  rw [← mg_top]
  unfold small
  have := @mg_lt_iff 4845873199050653696 (rung b)
  omega
theorem trn_le {b : Nat} (h : small b) : -9007199254740992 ≤ trn b ∧ trn b ≤ 9007199254740992 := by
  have h1 := small_mg.1 h
  have h2 : mg (rung b) / U ≤ 9007199254740992 := Nat.div_le_of_le_mul (by rw [Nat.mul_comm]; exact h1)
  unfold trn sg
  generalize mg (rung b) / U = z at *
  split <;> omega
theorem toIntVal {b : Nat} (h : small b) : floatToIntVal .f64 b .i64 = some (trn b) := by
  unfold floatToIntVal
  rw [toInt_fin h.fin]
  have := trn_le h
  have e1 : IntKind.i64.min = -9223372036854775808 := by decide
  have e2 : IntKind.i64.max = 9223372036854775807 := by decide
  simp only [e1, e2]
  rw [if_pos (by omega)]

/-- the word of a whole number of at most 2^53 -/
def whole (b : Nat) : Prop := small b ∧ mg (rung b) % U = 0
instance (b : Nat) : Decidable (whole b) := inferInstanceAs (Decidable (_ ∧ _))
theorem whole_sv {b : Nat} (h : whole b) : sv b = trn b * U := by
  unfold sv trn
  rw [← sg_mul, Nat.div_mul_cancel (Nat.dvd_of_mod_eq_zero h.2)]
theorem whole_key {b : Nat} (h : small b) : key (fi (trn b)) = key b ↔ whole b := by
  have hb := trn_le h
  rw [key_inj, fi_sv hb.1 hb.2]
  constructor
  · intro e
    refine ⟨h, ?_⟩
    unfold sv trn at e
    rw [← sg_mul] at e
    have : mg (rung b) / U * U = mg (rung b) := by
      unfold sg at e
      generalize mg (rung b) / U * U = z at *
      split at e <;> omega
    have h2 := Nat.div_add_mod (mg (rung b)) U
    have h3 := Nat.mul_comm U (mg (rung b) / U)
    omega
  · intro hw
    exact (whole_sv hw).symm
theorem whole_norm {b : Nat} (h : whole b) (hb : b < 18446744073709551616) : norm b = fi (trn b) := by
  have h1 := trn_le h.1
  rw [← norm_tidy (fi_tidy h1.1 h1.2)]
  exact norm_key hb (fi_lt64 _) ((whole_key h.1).2 h).symm
theorem whole_tidy {b : Nat} (h : whole b) (hb : tidy b) : b = fi (trn b) := by
  rw [← whole_norm h hb.2.1, norm_tidy hb]
theorem trn_fi {n : Int} (h1 : -9007199254740992 ≤ n) (h2 : n ≤ 9007199254740992) : trn (fi n) = n := by
  unfold trn
  rw [(fi_rung h1 h2).1, Nat.mul_div_cancel _ U_pos, fi_neg, sg_natAbs]
theorem whole_fi {n : Int} (h1 : -9007199254740992 ≤ n) (h2 : n ≤ 9007199254740992) : whole (fi n) := by
  have h := fi_rung h1 h2
  refine ⟨h.2, ?_⟩
  rw [h.1, Nat.mul_mod_left]

/-! ### Sums -/
def fadd (a b : Nat) : Nat := (double.add a b).getD 0
def fsub (a b : Nat) : Nat := (double.sub a b).getD 0
def fmul (a b : Nat) : Nat := (double.mul a b).getD 0
def fdiv (a b : Nat) : Nat := (double.div a b).getD 0

theorem sum_fin (s t : Bool) (m n e f : Nat) : ∃ x : Int, (Datum.number s m (-1074 + (e : Int))).sum (.number t n (-1074 + (f : Int))) = some (.number (if x = 0 then s && t else x < 0) x.natAbs (-1074 + ((min e f : Nat) : Int))) ∧ x * ((2 ^ (min e f) : Nat) : Int) = sg s (m * 2 ^ e) + sg t (n * 2 ^ f) := by
  have hm : min (-1074 + (e : Int)) (-1074 + (f : Int)) = -1074 + ((min e f : Nat) : Int) := by omega
  refine ⟨_, by simp only [Datum.sum]; rw [hm], ?_⟩
  rw [signed_eq, signed_eq, sg_mul, sg_mul, Int.add_mul, Int.mul_assoc, Int.mul_assoc, ← Int.natCast_mul, ← Int.natCast_mul, ← Nat.pow_add, ← Nat.pow_add]
  have e1 : (-1074 + (e : Int) - (-1074 + ((min e f : Nat) : Int))).toNat + min e f = e := by omega
  have e2 : (-1074 + (f : Int) - (-1074 + ((min e f : Nat) : Int))).toNat + min e f = f := by omega
  rw [e1, e2]

theorem sg_sign {x z : Int} {s : Bool} {y : Nat} (h : x * z = sg s y) (hz : 0 < z) (hx : x ≠ 0) : s = decide (x < 0) := by
  unfold sg at h
  by_cases hxx : x < 0
  · have := Int.mul_neg_of_neg_of_pos hxx hz
    cases s
    · rw [if_neg (by simp)] at h; omega
    · simp [hxx]
  · have := Int.mul_pos (show 0 < x by omega) hz
    cases s
    · simp [hxx]
    · rw [if_pos rfl] at h; omega

theorem sum_word {b : Nat} (s t : Bool) (m n e f : Nat) (hb : nn b) (hv : sg s (m * 2 ^ e) + sg t (n * 2 ^ f) = sv b) (d : Datum)
    (hd : (Datum.number s m (-1074 + (e : Int))).sum (.number t n (-1074 + (f : Int))) = some d) : key (double.write d) = key b := by
  obtain ⟨x, e1, e2⟩ := sum_fin s t m n e f
  rw [e1] at hd
  cases hd
  rw [hv] at e2
  show key (double.nearest _ _ _) = _
  rw [nearest_eq]
  have h0 : mg (rung b) = x.natAbs * 2 ^ (min e f) := by
    have h1 : (sv b).natAbs = mg (rung b) := by unfold sv sg; split <;> simp
    rw [← h1, ← e2, Int.natAbs_mul, Int.natAbs_natCast]
  have hr : rnd x.natAbs (-1074 + ((min e f : Nat) : Int)) = rung b := by
    refine rnd_exact hb ?_
    have e3 : (-1074 + ((min e f : Nat) : Int) + 1074).toNat = min e f := by omega
    have e4 : (-(-1074 + ((min e f : Nat) : Int) + 1074)).toNat = 0 := by omega
    rw [e3, e4, h0]; simp
  unfold key
  rw [hr, rung_word _ hb, neg_word _ hb]
  by_cases hx : x = 0
  · subst hx
    have : rung b = 0 := by
      have : mg (rung b) = mg 0 := by rw [h0, mg_zero]; simp
      exact mg_inj this
    rw [this]; simp
  · rw [if_neg hx]
    have hp : (0 : Int) < ((2 ^ (min e f) : Nat) : Int) := by exact_mod_cast Nat.two_pow_pos _
    have hs : neg b = decide (x < 0) := by
      unfold sv at e2
      generalize ((2 ^ (min e f) : Nat) : Int) = z at e2 hp
      exact sg_sign e2 hp hx
    rw [hs]

theorem add_some {a b : Nat} (ha : fin a) (hb : fin b) : double.add a b = some (fadd a b) ∧ nn (fadd a b) ∧ fadd a b < 18446744073709551616 := by
  obtain ⟨m, e, ra, va⟩ := read_fin ha
  obtain ⟨n, f, rb, vb⟩ := read_fin hb
  have h : double.add a b = some (fadd a b) := by
    unfold fadd Format.add; rw [ra, rb]; rfl
  refine ⟨h, ?_, double.add_lt h⟩
  unfold fadd Format.add
  rw [ra, rb]
  exact nearest_nn _ _ _

theorem fadd_key {a b c : Nat} (ha : fin a) (hb : fin b) (hc : nn c) (h : sv a + sv b = sv c) : key (fadd a b) = key c := by
  obtain ⟨m, e, ra, va⟩ := read_fin ha
  obtain ⟨n, f, rb, vb⟩ := read_fin hb
  obtain ⟨x, e1, e2⟩ := sum_fin (neg a) (neg b) m n e f
  have h1 : fadd a b = double.write (.number (if x = 0 then neg a && neg b else x < 0) x.natAbs (-1074 + ((min e f : Nat) : Int))) := by
    unfold fadd Format.add; rw [ra, rb, e1]; rfl
  rw [h1]
  refine sum_word _ _ _ _ _ _ hc ?_ _ e1
  rw [va, vb]; exact h

/-- the word with the other sign -/
def opp (b : Nat) : Nat := double.word (!neg b) (rung b)
/-! ### Products -/
theorem mul_some {a b : Nat} (ha : fin a) (hb : fin b) : double.mul a b = some (fmul a b) ∧ nn (fmul a b) ∧ fmul a b < 18446744073709551616 := by
  obtain ⟨m, e, ra, va⟩ := read_fin ha
  obtain ⟨n, f, rb, vb⟩ := read_fin hb
  have h : double.mul a b = some (fmul a b) := by
    unfold fmul Format.mul; rw [ra, rb]; rfl
  refine ⟨h, ?_, double.mul_lt h⟩
  unfold fmul Format.mul
  rw [ra, rb]
  exact nearest_nn _ _ _

/-- a product's rung -/
def mrg (a b : Nat) : Nat := rung (fmul a b)
theorem fmul_fin {a b : Nat} (ha : fin a) (hb : fin b) : ∃ (m n e f : Nat), fmul a b = double.word (neg a ^^ neg b) (rnd (m * n) (-1074 + (e : Int) + (-1074 + (f : Int)))) ∧ m * 2 ^ e = mg (rung a) ∧ n * 2 ^ f = mg (rung b) := by
  obtain ⟨m, e, ra, va⟩ := read_fin ha
  obtain ⟨n, f, rb, vb⟩ := read_fin hb
  refine ⟨m, n, e, f, ?_, va, vb⟩
  unfold fmul Format.mul
  rw [ra, rb]
  show (some (double.nearest _ _ _)).getD 0 = _
  rw [nearest_eq]; rfl

theorem prod_scale (m n e f x : Nat) : (x * 2 ^ (-(-1074 + (e : Int) + (-1074 + (f : Int)) + 1074)).toNat ≤ m * n * 2 ^ (-1074 + (e : Int) + (-1074 + (f : Int)) + 1074).toNat ↔ x * U ≤ (m * 2 ^ e) * (n * 2 ^ f))
    ∧ (m * n * 2 ^ (-1074 + (e : Int) + (-1074 + (f : Int)) + 1074).toNat ≤ x * 2 ^ (-(-1074 + (e : Int) + (-1074 + (f : Int)) + 1074)).toNat ↔ (m * 2 ^ e) * (n * 2 ^ f) ≤ x * U) := by
  have h0 : (m * 2 ^ e) * (n * 2 ^ f) = m * n * 2 ^ (e + f) := by
    rw [Nat.pow_add]; simp [Nat.mul_assoc, Nat.mul_left_comm]
  rw [h0]
  unfold U
  by_cases h : 1074 ≤ e + f
  · have e1 : (-(-1074 + (e : Int) + (-1074 + (f : Int)) + 1074)).toNat = 0 := by omega
    have e2 : (-1074 + (e : Int) + (-1074 + (f : Int)) + 1074).toNat = e + f - 1074 := by omega
    have e3 : e + f = (e + f - 1074) + 1074 := by omega
    rw [e1, e2, Nat.pow_zero, Nat.mul_one]
    have e4 : m * n * 2 ^ (e + f) = m * n * 2 ^ (e + f - 1074) * 2 ^ 1074 := by
      conv => lhs; rw [e3, Nat.pow_add, ← Nat.mul_assoc]
    rw [e4]
    have hp := Nat.two_pow_pos 1074
    exact ⟨⟨fun h => Nat.mul_le_mul_right _ h, fun h => Nat.le_of_mul_le_mul_right h hp⟩, ⟨fun h => Nat.mul_le_mul_right _ h, fun h => Nat.le_of_mul_le_mul_right h hp⟩⟩
  · have e1 : (-(-1074 + (e : Int) + (-1074 + (f : Int)) + 1074)).toNat = 1074 - (e + f) := by omega
    have e2 : (-1074 + (e : Int) + (-1074 + (f : Int)) + 1074).toNat = 0 := by omega
    have e3 : 1074 = (1074 - (e + f)) + (e + f) := by omega
    rw [e1, e2, Nat.pow_zero, Nat.mul_one]
    have e4 : x * 2 ^ 1074 = x * 2 ^ (1074 - (e + f)) * 2 ^ (e + f) := by
      conv => lhs; rw [e3, Nat.pow_add, ← Nat.mul_assoc]
    rw [e4]
    have hp := Nat.two_pow_pos (e + f)
    exact ⟨⟨fun h => Nat.mul_le_mul_right _ h, fun h => Nat.le_of_mul_le_mul_right h hp⟩, ⟨fun h => Nat.mul_le_mul_right _ h, fun h => Nat.le_of_mul_le_mul_right h hp⟩⟩

theorem mul_ge {a b r : Nat} (ha : fin a) (hb : fin b) (hr : r ≤ 9218868437227405312) (h : mg r * U ≤ mg (rung a) * mg (rung b)) : r ≤ rung (fmul a b) := by
  obtain ⟨m, n, e, f, h1, h2, h3⟩ := fmul_fin ha hb
  rw [h1, rung_word _ (rnd_inf _ _)]
  refine rnd_ge hr ?_
  unfold atLeast
  rw [(prod_scale m n e f (mg r)).1, h2, h3]
  exact h
theorem mul_le {a b r : Nat} (ha : fin a) (hb : fin b) (h : mg (rung a) * mg (rung b) ≤ mg r * U) : rung (fmul a b) ≤ r := by
  obtain ⟨m, n, e, f, h1, h2, h3⟩ := fmul_fin ha hb
  rw [h1, rung_word _ (rnd_inf _ _)]
  refine rnd_le ?_
  unfold atMost
  rw [(prod_scale m n e f (mg r)).2, h2, h3]
  exact h
/-! ### Sums, differences, products of whole numbers -/
end Go.Proofs.Ytdkgiklbmbkdaaa.Fl

namespace Go.Proofs.Ytdkgiklbmbkdaaa.Fl
open Ieee Go Go.RowKit

theorem mag_zero {m e r : Nat} (h : m * 2 ^ e = mg r) : m = 0 ↔ r = 0 := by
  have h1 := @mg_lt_iff 0 r
  rw [mg_zero] at h1
  constructor
  · intro hm; subst hm; rw [Nat.zero_mul] at h; omega
  · intro hr; subst hr
    rw [mg_zero] at h
    rcases Nat.eq_zero_or_pos m with h2 | h2
    · exact h2
    · have := Nat.mul_pos h2 (Nat.two_pow_pos e); omega

/-- a product with an infinity -/
theorem mul_inf {a b : Nat} (ha : nn a) (hb : nn b) (h : (¬ fin a ∧ rung b ≠ 0) ∨ (¬ fin b ∧ rung a ≠ 0)) : double.mul a b = some (fmul a b) ∧ rung (fmul a b) = 9218868437227405312 := by
  have key : ∃ s, double.mul a b = some (double.word s 9218868437227405312) := by
    unfold Format.mul
    by_cases fa : fin a
    · have hfb : ¬ fin b ∧ rung a ≠ 0 := by rcases h with h | h; exact absurd fa h.1; exact h
      obtain ⟨m, e, ra, va⟩ := read_fin fa
      have hi : rung b = 9218868437227405312 := by unfold nn at hb; unfold fin at hfb; omega
      rw [ra, read_inf hi]
      simp only [Datum.product]
      rw [if_neg (by have := mag_zero va; omega)]
      refine ⟨(neg b ^^ neg a), ?_⟩
      rw [← ir_eq]; rfl
    · have hj : rung a = 9218868437227405312 := by unfold nn at ha; unfold fin at fa; omega
      rw [read_inf hj]
      by_cases fb : fin b
      · have hfa : ¬ fin a ∧ rung b ≠ 0 := by rcases h with h | h; exact h; exact absurd fb h.1
        obtain ⟨n, f, rb, vb⟩ := read_fin fb
        rw [rb]
        simp only [Datum.product]
        rw [if_neg (by have := mag_zero vb; omega)]
        refine ⟨(neg a ^^ neg b), ?_⟩
        rw [← ir_eq]; rfl
      · have hi : rung b = 9218868437227405312 := by unfold nn at hb; unfold fin at fb; omega
        rw [read_inf hi]
        refine ⟨(neg a ^^ neg b), ?_⟩
        rw [← ir_eq]; rfl
  obtain ⟨s, e⟩ := key
  have h3 : fmul a b = double.word s 9218868437227405312 := by unfold fmul; rw [e]; rfl
  rw [h3]
  exact ⟨e, rung_word _ (by omega)⟩

/-! ### Products of words on one side of 1 -/
def bigw (b : Nat) : Prop := nn b ∧ 4607182418800017408 ≤ rung b ∧ b < 18446744073709551616
def lilw (b : Nat) : Prop := rung b ≤ 4607182418800017408 ∧ b < 18446744073709551616
theorem lilw.fin {b : Nat} (h : lilw b) : fin b := by have := h.1; unfold Fl.fin; omega
theorem big_mul {a b : Nat} (ha : bigw a) (hb : bigw b) : double.mul a b = some (fmul a b) ∧ bigw (fmul a b) := by
  have h1 := ha.2.1
  have h2 := hb.2.1
  by_cases hf : fin a ∧ fin b
  · obtain ⟨e, n, l⟩ := mul_some hf.1 hf.2
    refine ⟨e, n, mul_ge hf.1 hf.2 (by omega) ?_, l⟩
    rw [mg_one]
    exact Nat.mul_le_mul (by rw [← mg_one]; exact mg_le h1) (by rw [← mg_one]; exact mg_le h2)
  · have hx : (¬ fin a ∧ rung b ≠ 0) ∨ (¬ fin b ∧ rung a ≠ 0) := by
      by_cases fa : fin a
      · exact Or.inr ⟨fun fb => hf ⟨fa, fb⟩, by omega⟩
      · exact Or.inl ⟨fa, by omega⟩
    obtain ⟨e, r⟩ := mul_inf ha.1 hb.1 hx
    refine ⟨e, ?_, by omega, double.mul_lt e⟩
    unfold nn; omega
theorem lil_mul {a b : Nat} (ha : lilw a) (hb : lilw b) : double.mul a b = some (fmul a b) ∧ lilw (fmul a b) := by
  obtain ⟨e, n, l⟩ := mul_some ha.fin hb.fin
  refine ⟨e, mul_le ha.fin hb.fin ?_, l⟩
  rw [mg_one]
  exact Nat.mul_le_mul (by rw [← mg_one]; exact mg_le ha.1) (by rw [← mg_one]; exact mg_le hb.1)

/-- both on one side of 1 -/
def oneSide (a b : Nat) : Prop := (bigw a ∧ bigw b) ∨ (lilw a ∧ lilw b)
theorem oneSide.mul {a b : Nat} (h : oneSide a b) : double.mul a b = some (fmul a b) ∧ oneSide (fmul a b) b ∧ nn (fmul a b) := by
  rcases h with ⟨h1, h2⟩ | ⟨h1, h2⟩
  · obtain ⟨e, g⟩ := big_mul h1 h2
    exact ⟨e, Or.inl ⟨g, h2⟩, g.1⟩
  · obtain ⟨e, g⟩ := lil_mul h1 h2
    exact ⟨e, Or.inr ⟨g, h2⟩, g.fin.nn⟩
/-! ### The operations as the walk runs them -/
section
variable {P : Program}
theorem run_toInt {b : Nat} (h : small b) {src dst : TypeId} (hs : (P.underlying src).isSome = true) (hd : P.underlying dst = some (.int .i64)) : ∀ (w : World), (convert src dst (.float .f64 b)).run P w = .ok (.int .i64 (trn b)) w :=
  fun w => run_convert_float_int w src dst .f64 .i64 b _ hs hd (toIntVal h)
end
end Go.Proofs.Ytdkgiklbmbkdaaa.Fl
