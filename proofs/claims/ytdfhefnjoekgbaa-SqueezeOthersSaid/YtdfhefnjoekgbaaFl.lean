/- Plain facts on the words of double: rungs, keys, order. No program in sight. -/
import Derived.Laws.FloatArith
import Derived.Below
namespace Go.Proofs.Ytdfhefnjoekgbaa.Fl
open Ieee Go Go.RowKit

/-! ### Words, rungs, keys -/
def rung (b : Nat) : Nat := b % 9223372036854775808
def neg (b : Nat) : Bool := b / 9223372036854775808 % 2 == 1
/-- the word is no NaN -/
def nn (b : Nat) : Prop := rung b ≤ 9218868437227405312
/-- the word is a number -/
def fin (b : Nat) : Prop := rung b < 9218868437227405312
instance (b : Nat) : Decidable (nn b) := inferInstanceAs (Decidable (_ ≤ _))
instance (b : Nat) : Decidable (fin b) := inferInstanceAs (Decidable (_ < _))
def key (b : Nat) : Int := if neg b then -(rung b : Int) else rung b
theorem fin.nn {b : Nat} (h : fin b) : nn b := Nat.le_of_lt h

theorem sw_eq : double.signWeight = 9223372036854775808 := by decide
theorem bn_eq : double.binade = 4503599627370496 := by decide
theorem ir_eq : double.infRung = 9218868437227405312 := by decide
theorem lp_eq : double.leastPlace = -1074 := by decide

/-- the magnitude of a rung, in units of 2^-1074; the rung of infinity goes on in the row -/
def mg (r : Nat) : Nat := if r < 4503599627370496 then r else (4503599627370496 + r % 4503599627370496) * 2 ^ (r / 4503599627370496 - 1)

theorem mg_succ (r : Nat) : mg r < mg (r + 1) := by
  unfold mg
  by_cases h1 : r + 1 < 4503599627370496
  · rw [if_pos (by omega), if_pos h1]; omega
  rw [if_neg h1]
  by_cases h2 : r < 4503599627370496
  · rw [if_pos h2]
    have : r = 4503599627370495 := by omega
    subst this
    decide
  rw [if_neg h2]
  by_cases h3 : r % 4503599627370496 + 1 < 4503599627370496
  · have e1 : (r + 1) % 4503599627370496 = r % 4503599627370496 + 1 := by omega
    have e2 : (r + 1) / 4503599627370496 = r / 4503599627370496 := by omega
    rw [e1, e2]
    exact Nat.mul_lt_mul_of_pos_right (by omega) (Nat.two_pow_pos _)
  · have e1 : (r + 1) % 4503599627370496 = 0 := by omega
    have e2 : (r + 1) / 4503599627370496 - 1 = r / 4503599627370496 - 1 + 1 := by omega
    rw [e1, e2, Nat.pow_succ]
    have e3 : r % 4503599627370496 = 4503599627370495 := by omega
    rw [e3]
    have := Nat.two_pow_pos (r / 4503599627370496 - 1)
    omega

theorem mg_lt {r s : Nat} (h : r < s) : mg r < mg s := by
  induction s with
  | zero => omega
  | succ n ih =>
    by_cases e : r = n
    · subst e; exact mg_succ r
    · exact Nat.lt_trans (ih (by omega)) (mg_succ n)

theorem mg_le {r s : Nat} (h : r ≤ s) : mg r ≤ mg s := by
  by_cases e : r = s
  · subst e; exact Nat.le_refl _
  · exact Nat.le_of_lt (mg_lt (by omega))

theorem mg_lt_iff {r s : Nat} : mg r < mg s ↔ r < s := by
  refine ⟨fun h => ?_, mg_lt⟩
  by_cases e : r < s
  · exact e
  · have := mg_le (Nat.le_of_not_lt e); omega

theorem mg_inj {r s : Nat} (h : mg r = mg s) : r = s := by
  have h1 := @mg_lt_iff r s
  have h2 := @mg_lt_iff s r
  omega

/-! ### What a word reads as -/
theorem rung_lt (b : Nat) : rung b < 9223372036854775808 := Nat.mod_lt _ (by decide)

/-- a number's word: its magnitude stands at a place from -1074 on -/
theorem read_fin {b : Nat} (h : fin b) : ∃ (m e : Nat), double.read b = .number (neg b) m (-1074 + (e : Int)) ∧ m * 2 ^ e = mg (rung b) := by
  unfold fin rung at h
  simp only [Format.read, sw_eq, bn_eq, ir_eq, lp_eq]
  by_cases h1 : b % 9223372036854775808 < 4503599627370496
  · refine ⟨b % 9223372036854775808, 0, ?_, ?_⟩
    · rw [if_pos h1]; rfl
    · simp [mg, rung, h1]
  · refine ⟨4503599627370496 + b % 9223372036854775808 % 4503599627370496, b % 9223372036854775808 / 4503599627370496 - 1, ?_, ?_⟩
    · rw [if_neg h1, if_pos h]; rfl
    · simp [mg, rung, h1]

theorem read_inf {b : Nat} (h : rung b = 9218868437227405312) : double.read b = .infinity (neg b) := by
  unfold rung at h
  simp only [Format.read, sw_eq, bn_eq, ir_eq]
  rw [if_neg (by omega), if_neg (by omega), if_pos h]
  rfl

theorem read_nan {b : Nat} (h : ¬ nn b) : ∃ t, double.read b = .nan (neg b) t := by
  unfold nn rung at h
  refine ⟨b % 9223372036854775808 - 9218868437227405312, ?_⟩
  simp only [Format.read, sw_eq, bn_eq, ir_eq]
  rw [if_neg (by omega), if_neg (by omega), if_neg (by omega)]
  rfl

/-! ### The order of words is the order of keys -/
theorem compare_mul (a b : Int) (k : Nat) : compare (a * (2 ^ k : Nat)) (b * (2 ^ k : Nat)) = compare a b := by
  have hp : (0 : Int) < ((2 ^ k : Nat) : Int) := by exact_mod_cast Nat.two_pow_pos k
  rcases Int.lt_trichotomy a b with h | h | h
  · rw [Int.compare_eq_lt.2 h, Int.compare_eq_lt.2 (Int.mul_lt_mul_of_pos_right h hp)]
  · subst h; simp
  · rw [Int.compare_eq_gt.2 h, Int.compare_eq_gt.2 (Int.mul_lt_mul_of_pos_right h hp)]

def sg (s : Bool) (m : Nat) : Int := if s then -(m : Int) else m
theorem sg_mul (s : Bool) (m k : Nat) : sg s (m * k) = sg s m * (k : Int) := by
  unfold sg
  cases s
  · simp
  · simp [Int.neg_mul]
theorem signed_eq (s : Bool) (m k : Nat) : signed s m k = sg s m * ((2 ^ k : Nat) : Int) := by
  unfold signed sg
  rw [Nat.shiftLeft_eq]
  cases s
  · simp
  · simp [Int.neg_mul]

theorem compare_sg (s t : Bool) (r q : Nat) : compare (sg s (mg r)) (sg t (mg q)) = compare (sg s r) (sg t q) := by
  have m0 : mg 0 = 0 := by decide
  have h1 := @mg_lt_iff r q
  have h2 := @mg_lt_iff q r
  have h3 := @mg_lt_iff 0 r
  have h4 := @mg_lt_iff 0 q
  rw [m0] at h3 h4
  rcases Int.lt_trichotomy (sg s r) (sg t q) with h | h | h
  · rw [Int.compare_eq_lt.2 h, Int.compare_eq_lt]
    cases s <;> cases t <;> simp only [sg] at h ⊢ <;> simp at h ⊢ <;> omega
  · rw [h, Int.compare_eq_eq.2 rfl, Int.compare_eq_eq]
    cases s <;> cases t <;> simp only [sg] at h ⊢ <;> simp at h ⊢ <;> omega
  · rw [Int.compare_eq_gt.2 h, Int.compare_eq_gt]
    cases s <;> cases t <;> simp only [sg] at h ⊢ <;> simp at h ⊢ <;> omega

theorem key_eq (b : Nat) : key b = sg (neg b) (rung b) := rfl

theorem order_num (s t : Bool) (m n e f : Nat) (r q : Nat) (h1 : m * 2 ^ e = mg r) (h2 : n * 2 ^ f = mg q) :
    (Datum.number s m (-1074 + (e : Int))).order (.number t n (-1074 + (f : Int))) = some (compare (sg s r) (sg t q)) := by
  simp only [Datum.order, signed_eq]
  rw [← compare_sg, ← h1, ← h2, sg_mul, sg_mul]
  congr 1
  by_cases hle : e ≤ f
  · have e1 : (-1074 + (e : Int) - min (-1074 + (e : Int)) (-1074 + (f : Int))).toNat = 0 := by omega
    have e2 : (-1074 + (f : Int) - min (-1074 + (e : Int)) (-1074 + (f : Int))).toNat = f - e := by omega
    rw [e1, e2, ← compare_mul _ _ e]
    congr 1
    · simp
    · rw [Int.mul_assoc, ← Int.natCast_mul, ← Nat.pow_add, Nat.sub_add_cancel hle]
  · have e1 : (-1074 + (e : Int) - min (-1074 + (e : Int)) (-1074 + (f : Int))).toNat = e - f := by omega
    have e2 : (-1074 + (f : Int) - min (-1074 + (e : Int)) (-1074 + (f : Int))).toNat = 0 := by omega
    rw [e1, e2, ← compare_mul _ _ f]
    congr 1
    · rw [Int.mul_assoc, ← Int.natCast_mul, ← Nat.pow_add, Nat.sub_add_cancel (by omega)]
    · simp

theorem order_nn {a b : Nat} (ha : nn a) (hb : nn b) : double.order a b = some (compare (key a) (key b)) := by
  unfold Format.order
  rw [key_eq, key_eq]
  by_cases fa : fin a
  · obtain ⟨m, e, ra, va⟩ := read_fin fa
    by_cases fb : fin b
    · obtain ⟨n, f, rb, vb⟩ := read_fin fb
      rw [ra, rb]
      exact order_num _ _ _ _ _ _ _ _ va vb
    · have hi : rung b = 9218868437227405312 := by unfold nn at hb; unfold fin at fb; omega
      rw [ra, read_inf hi, hi]
      unfold fin at fa
      simp only [Datum.order]
      congr 1
      cases neg b
      · rw [eq_comm, if_neg (by simp), Int.compare_eq_lt]; cases neg a <;> simp only [sg] <;> simp <;> omega
      · rw [eq_comm, if_pos rfl, Int.compare_eq_gt]; cases neg a <;> simp only [sg] <;> simp <;> omega
  · have hj : rung a = 9218868437227405312 := by unfold nn at ha; unfold fin at fa; omega
    rw [read_inf hj, hj]
    by_cases fb : fin b
    · obtain ⟨n, f, rb, vb⟩ := read_fin fb
      rw [rb]
      unfold fin at fb
      simp only [Datum.order]
      congr 1
      cases neg a
      · rw [eq_comm, if_neg (by simp), Int.compare_eq_gt]; cases neg b <;> simp only [sg] <;> simp <;> omega
      · rw [eq_comm, if_pos rfl, Int.compare_eq_lt]; cases neg b <;> simp only [sg] <;> simp <;> omega
    · have hi : rung b = 9218868437227405312 := by unfold nn at hb; unfold fin at fb; omega
      rw [read_inf hi, hi]
      simp only [Datum.order]
      cases neg a <;> cases neg b <;> decide

theorem order_nan {a b : Nat} (h : ¬ nn a ∨ ¬ nn b) : double.order a b = none := by
  unfold Format.order
  rcases h with h | h
  · obtain ⟨t, e⟩ := read_nan h
    rw [e]; rfl
  · obtain ⟨t, e⟩ := read_nan h
    rw [e]
    generalize double.read a = d
    cases d <;> rfl

/-! ### The six comparisons, in the walk's spelling -/
abbrev k64 : Format := FloatKind.f64.format
theorem k64_eq : FloatKind.f64.format = double := rfl
theorem c_lt {a b : Nat} (ha : nn a) (hb : nn b) : (FloatKind.f64.format.order a b == some .lt) = decide (key a < key b) := by
  rw [k64_eq, order_nn ha hb, Bool.eq_iff_iff]; simp [Int.compare_eq_lt]
theorem c_gt {a b : Nat} (ha : nn a) (hb : nn b) : (FloatKind.f64.format.order a b == some .gt) = decide (key b < key a) := by
  rw [k64_eq, order_nn ha hb, Bool.eq_iff_iff]; simp [Int.compare_eq_gt]
theorem c_eq {a b : Nat} (ha : nn a) (hb : nn b) : (FloatKind.f64.format.order a b == some .eq) = decide (key a = key b) := by
  rw [k64_eq, order_nn ha hb, Bool.eq_iff_iff]; simp
theorem c_ne {a b : Nat} (ha : nn a) (hb : nn b) : (FloatKind.f64.format.order a b != some .eq) = !decide (key a = key b) := by
  rw [← c_eq ha hb]; rfl
theorem c_nan {a b : Nat} (h : ¬ nn a ∨ ¬ nn b) (o : Ordering) : (FloatKind.f64.format.order a b == some o) = false := by
  rw [k64_eq, order_nan h]; cases o <;> rfl
theorem c_nen {a b : Nat} (h : ¬ nn a ∨ ¬ nn b) : (FloatKind.f64.format.order a b != some .eq) = true := by
  rw [k64_eq, order_nan h]; rfl

end Go.Proofs.Ytdfhefnjoekgbaa.Fl
