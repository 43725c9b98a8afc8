/- Plain facts on words of whole numbers, on truncation, and on + - * of words. -/
import Derived.Test.YtdfhefnjoekgbaaFr
namespace Go.Proofs.Ytdfhefnjoekgbaa.Fl
open Ieee Go Go.RowKit

/-- 2^1074: the units in 1 -/
def U : Nat := 2 ^ 1074
theorem U_pos : 0 < U := by rw [U]; exact Nat.two_pow_pos 1074
/-- a word's value, in units -/
def sv (b : Nat) : Int := sg (neg b) (mg (rung b))
/-- the rung of 2^53 -/
theorem mg_top : mg 4845873199050653696 = 9007199254740992 * U := by decide +kernel
theorem mg_one : mg 4607182418800017408 = U := by decide +kernel
theorem mg_zero : mg 0 = 0 := by decide

theorem compare_key (a b : Nat) : compare (key a) (key b) = compare (sv a) (sv b) := (compare_sg (neg a) (neg b) (rung a) (rung b)).symm
theorem key_lt {a b : Nat} : key a < key b ↔ sv a < sv b := by rw [← Int.compare_eq_lt, compare_key, Int.compare_eq_lt]
theorem key_inj {a b : Nat} : key a = key b ↔ sv a = sv b := by
  have h1 := @key_lt a b
  have h2 := @key_lt b a
  omega

theorem sg_natAbs (n : Int) : sg (decide (n < 0)) n.natAbs = n := by
  unfold sg
  by_cases h : n < 0
  · simp [h]; omega
  · simp [h]; omega

/-! ### Words of whole numbers -/
def fi (n : Int) : Nat := FloatKind.f64.nearest n
theorem fi_eq (n : Int) : fi n = double.word (decide (n < 0)) (rnd n.natAbs 0) := nearest_eq _ _ _
theorem fi_conv (n : Int) : floatOfInt .f64 n = fi n := rfl

theorem fi_rung {n : Int} (h1 : -9007199254740992 ≤ n) (h2 : n ≤ 9007199254740992) : mg (rung (fi n)) = n.natAbs * U ∧ rung (fi n) ≤ 4845873199050653696 := by
  obtain ⟨r, hr⟩ := rung_of 1074 n.natAbs (by omega)
  have hr' : mg r = n.natAbs * U := by rw [hr, U]
  have hle : r ≤ 4845873199050653696 := by
    apply Decidable.byContradiction
    intro hc
    have := mg_lt (Nat.lt_of_not_le hc)
    rw [mg_top, hr'] at this
    have h3 : n.natAbs * U ≤ 9007199254740992 * U := Nat.mul_le_mul_right _ (by omega)
    omega
  have hx : rnd n.natAbs 0 = r := by
    refine rnd_exact (by omega) ?_
    have e1 : ((0 : Int) + 1074).toNat = 1074 := by decide
    have e2 : (-((0 : Int) + 1074)).toNat = 0 := by decide
    rw [e1, e2, hr', U, Nat.pow_zero, Nat.mul_one]
  rw [fi_eq, rung_word _ (rnd_inf _ _), hx]
  exact ⟨hr', hle⟩

theorem fi_fin {n : Int} (h1 : -9007199254740992 ≤ n) (h2 : n ≤ 9007199254740992) : fin (fi n) := by
  have := (fi_rung h1 h2).2
  unfold fin; omega
theorem fi_neg (n : Int) : neg (fi n) = decide (n < 0) := by rw [fi_eq, neg_word _ (rnd_inf _ _)]
theorem fi_lt64 (n : Int) : fi n < 18446744073709551616 := by
  have := double.nearest_lt (decide (n < 0)) n.natAbs 0
  exact this
theorem fi_sv {n : Int} (h1 : -9007199254740992 ≤ n) (h2 : n ≤ 9007199254740992) : sv (fi n) = n * U := by
  unfold sv
  rw [fi_neg, (fi_rung h1 h2).1, sg_mul, sg_natAbs]
theorem fi_lt {a b : Int} (a1 : -9007199254740992 ≤ a) (a2 : a ≤ 9007199254740992) (b1 : -9007199254740992 ≤ b) (b2 : b ≤ 9007199254740992) : key (fi a) < key (fi b) ↔ a < b := by
  rw [key_lt, fi_sv a1 a2, fi_sv b1 b2]
  have hU : (0 : Int) < (U : Int) := by exact_mod_cast U_pos
  exact ⟨fun h => Int.lt_of_mul_lt_mul_right h (Int.le_of_lt hU), fun h => Int.mul_lt_mul_of_pos_right h hU⟩
theorem fi_inj {a b : Int} (a1 : -9007199254740992 ≤ a) (a2 : a ≤ 9007199254740992) (b1 : -9007199254740992 ≤ b) (b2 : b ≤ 9007199254740992) : key (fi a) = key (fi b) ↔ a = b := by
  have h1 := fi_lt a1 a2 b1 b2
  have h2 := fi_lt b1 b2 a1 a2
  omega

/-! ### A zero without a sign -/
def norm (b : Nat) : Nat := if rung b = 0 then 0 else b
/-- a number's word, no zero with a sign -/
def tidy (b : Nat) : Prop := fin b ∧ b < 18446744073709551616 ∧ (rung b = 0 → b = 0)
theorem tidy_norm {b : Nat} (h : fin b) (hb : b < 18446744073709551616) : tidy (norm b) := by
  unfold norm tidy
  by_cases e : rung b = 0
  · rw [if_pos e]; exact ⟨by decide, by decide, fun _ => rfl⟩
  · rw [if_neg e]; exact ⟨h, hb, fun h' => absurd h' e⟩
theorem norm_tidy {b : Nat} (h : tidy b) : norm b = b := by
  unfold norm
  by_cases e : rung b = 0
  · rw [if_pos e, h.2.2 e]
  · rw [if_neg e]
theorem key_norm (b : Nat) : key (norm b) = key b := by
  unfold norm
  by_cases e : rung b = 0
  · rw [if_pos e]
    unfold key; rw [e]
    have : rung 0 = 0 := by decide
    rw [this]; simp
  · rw [if_neg e]
theorem norm_key {a b : Nat} (ha : a < 18446744073709551616) (hb : b < 18446744073709551616) (h : key a = key b) : norm a = norm b := by
  have h1 : rung a = rung b := by
    unfold key at h
    cases h2 : neg a <;> cases h3 : neg b <;> simp [h2, h3] at h <;> omega
  unfold norm
  by_cases e : rung a = 0
  · rw [if_pos e, if_pos (by omega)]
  · rw [if_neg e, if_neg (by omega)]
    rw [← word_eta ha, ← word_eta hb, h1]
    have : neg a = neg b := by
      unfold key at h
      cases h2 : neg a <;> cases h3 : neg b <;> simp [h2, h3] at h ⊢ <;> omega
    rw [this]
theorem tidy_key {a b : Nat} (ha : tidy a) (hb : tidy b) (h : key a = key b) : a = b := by
  rw [← norm_tidy ha, ← norm_tidy hb]; exact norm_key ha.2.1 hb.2.1 h
theorem fi_tidy {n : Int} (h1 : -9007199254740992 ≤ n) (h2 : n ≤ 9007199254740992) : tidy (fi n) := by
  refine ⟨fi_fin h1 h2, fi_lt64 n, fun h => ?_⟩
  have h3 := (fi_rung h1 h2).1
  rw [h, mg_zero] at h3
  have h4 := U_pos
  have : n.natAbs = 0 := by
    rcases Nat.eq_zero_or_pos n.natAbs with h5 | h5
    · exact h5
    · have := Nat.mul_pos h5 h4; omega
  have : n = 0 := by omega
  subst this
  decide

/-! ### Truncation -/
def trn (b : Nat) : Int := sg (neg b) (mg (rung b) / U)

theorem cut_zero (s : Bool) (n d : Nat) : Toward.zero.cut s n d = n / 2 ^ d := by
  unfold Toward.cut
  simp only [shl_one, Bool.toNat_false, Nat.add_zero]
  by_cases hd : d ≤ n.log2 + 2
  · rw [Nat.min_eq_left hd]
  · rw [Nat.min_eq_right (by omega)]
    have h3 := @Nat.lt_log2_self n
    have h4 : 2 ^ (n.log2 + 1) ≤ 2 ^ (n.log2 + 2) := Nat.pow_le_pow_right (by decide) (by omega)
    have h5 : 2 ^ (n.log2 + 1) ≤ 2 ^ d := Nat.pow_le_pow_right (by decide) (by omega)
    rw [Nat.div_eq_of_lt (by omega), Nat.div_eq_of_lt (by omega)]

theorem scale_div (m e : Nat) : (m <<< (-1074 + (e : Int)).toNat) / 2 ^ (-(-1074 + (e : Int))).toNat = m * 2 ^ e / U := by
  rw [Nat.shiftLeft_eq]
  unfold U
  by_cases h : 1074 ≤ e
  · have e1 : (-(-1074 + (e : Int))).toNat = 0 := by omega
    have e2 : (-1074 + (e : Int)).toNat = e - 1074 := by omega
    have e3 : e = e - 1074 + 1074 := by omega
    rw [e1, e2, Nat.pow_zero, Nat.div_one]
    conv => rhs; rw [e3, Nat.pow_add, ← Nat.mul_assoc]
    rw [Nat.mul_div_cancel _ (Nat.two_pow_pos 1074)]
  · have e1 : (-(-1074 + (e : Int))).toNat = 1074 - e := by omega
    have e2 : (-1074 + (e : Int)).toNat = 0 := by omega
    have e3 : 1074 = (1074 - e) + e := by omega
    rw [e1, e2, Nat.pow_zero, Nat.mul_one]
    conv => rhs; rw [e3, Nat.pow_add]
    rw [Nat.mul_div_mul_right _ _ (Nat.two_pow_pos e)]

theorem toInt_fin {b : Nat} (h : fin b) : (FloatKind.f64.decode b).toInt .zero = some (trn b) := by
  obtain ⟨m, e, rb, vb⟩ := read_fin h
  show (double.read b).toInt .zero = _
  rw [rb]
  simp only [Datum.toInt, Datum.integral]
  rw [cut_zero, scale_div, vb, signed_eq]
  simp [trn]

def small (b : Nat) : Prop := rung b ≤ 4845873199050653696
instance (b : Nat) : Decidable (small b) := inferInstanceAs (Decidable (_ ≤ _))
theorem small.fin {b : Nat} (h : small b) : fin b := by unfold small at h; unfold Fl.fin; omega
theorem small_mg {b : Nat} : small b ↔ mg (rung b) ≤ 9007199254740992 * U := by
  rw [← mg_top]
  unfold small
  have := @mg_lt_iff 4845873199050653696 (rung b)
  omega
theorem trn_le {b : Nat} (h : small b) : -9007199254740992 ≤ trn b ∧ trn b ≤ 9007199254740992 := by
  have h1 := small_mg.1 h
  have h2 : mg (rung b) / U ≤ 9007199254740992 := Nat.div_le_of_le_mul (by rw [Nat.mul_comm]; exact h1)
  unfold trn sg
  generalize mg (rung b) / U = z at *
  split <;> omega
theorem toIntVal {b : Nat} (h : small b) : floatToIntVal .f64 b .i64 = some (trn b) := by
  unfold floatToIntVal
  rw [toInt_fin h.fin]
  have := trn_le h
  have e1 : IntKind.i64.min = -9223372036854775808 := by decide
  have e2 : IntKind.i64.max = 9223372036854775807 := by decide
  simp only [e1, e2]
  rw [if_pos (by omega)]

/-- the word of a whole number of at most 2^53 -/
def whole (b : Nat) : Prop := small b ∧ mg (rung b) % U = 0
instance (b : Nat) : Decidable (whole b) := inferInstanceAs (Decidable (_ ∧ _))
theorem whole_sv {b : Nat} (h : whole b) : sv b = trn b * U := by
  unfold sv trn
  rw [← sg_mul, Nat.div_mul_cancel (Nat.dvd_of_mod_eq_zero h.2)]
theorem whole_key {b : Nat} (h : small b) : key (fi (trn b)) = key b ↔ whole b := by
  have hb := trn_le h
  rw [key_inj, fi_sv hb.1 hb.2]
  constructor
  · intro e
    refine ⟨h, ?_⟩
    unfold sv trn at e
    rw [← sg_mul] at e
    have : mg (rung b) / U * U = mg (rung b) := by
      unfold sg at e
      generalize mg (rung b) / U * U = z at *
      split at e <;> omega
    have h2 := Nat.div_add_mod (mg (rung b)) U
    have h3 := Nat.mul_comm U (mg (rung b) / U)
    omega
  · intro hw
    exact (whole_sv hw).symm
theorem whole_norm {b : Nat} (h : whole b) (hb : b < 18446744073709551616) : norm b = fi (trn b) := by
  have h1 := trn_le h.1
  rw [← norm_tidy (fi_tidy h1.1 h1.2)]
  exact norm_key hb (fi_lt64 _) ((whole_key h.1).2 h).symm
theorem whole_tidy {b : Nat} (h : whole b) (hb : tidy b) : b = fi (trn b) := by
  rw [← whole_norm h hb.2.1, norm_tidy hb]
theorem trn_fi {n : Int} (h1 : -9007199254740992 ≤ n) (h2 : n ≤ 9007199254740992) : trn (fi n) = n := by
  unfold trn
  rw [(fi_rung h1 h2).1, Nat.mul_div_cancel _ U_pos, fi_neg, sg_natAbs]
theorem whole_fi {n : Int} (h1 : -9007199254740992 ≤ n) (h2 : n ≤ 9007199254740992) : whole (fi n) := by
  have h := fi_rung h1 h2
  refine ⟨h.2, ?_⟩
  rw [h.1, Nat.mul_mod_left]

/-! ### Sums -/
def fadd (a b : Nat) : Nat := (double.add a b).getD 0
def fsub (a b : Nat) : Nat := (double.sub a b).getD 0
def fmul (a b : Nat) : Nat := (double.mul a b).getD 0
def fdiv (a b : Nat) : Nat := (double.div a b).getD 0

theorem sum_fin (s t : Bool) (m n e f : Nat) : ∃ x : Int, (Datum.number s m (-1074 + (e : Int))).sum (.number t n (-1074 + (f : Int))) = some (.number (if x = 0 then s && t else x < 0) x.natAbs (-1074 + ((min e f : Nat) : Int))) ∧ x * ((2 ^ (min e f) : Nat) : Int) = sg s (m * 2 ^ e) + sg t (n * 2 ^ f) := by
  have hm : min (-1074 + (e : Int)) (-1074 + (f : Int)) = -1074 + ((min e f : Nat) : Int) := by omega
  refine ⟨_, by simp only [Datum.sum]; rw [hm], ?_⟩
  rw [signed_eq, signed_eq, sg_mul, sg_mul, Int.add_mul, Int.mul_assoc, Int.mul_assoc, ← Int.natCast_mul, ← Int.natCast_mul, ← Nat.pow_add, ← Nat.pow_add]
  have e1 : (-1074 + (e : Int) - (-1074 + ((min e f : Nat) : Int))).toNat + min e f = e := by omega
  have e2 : (-1074 + (f : Int) - (-1074 + ((min e f : Nat) : Int))).toNat + min e f = f := by omega
  rw [e1, e2]

theorem sg_sign {x z : Int} {s : Bool} {y : Nat} (h : x * z = sg s y) (hz : 0 < z) (hx : x ≠ 0) : s = decide (x < 0) := by
  unfold sg at h
  by_cases hxx : x < 0
  · have := Int.mul_neg_of_neg_of_pos hxx hz
    cases s
    · rw [if_neg (by simp)] at h; omega
    · simp [hxx]
  · have := Int.mul_pos (show 0 < x by omega) hz
    cases s
    · simp [hxx]
    · rw [if_pos rfl] at h; omega

theorem sum_word {b : Nat} (s t : Bool) (m n e f : Nat) (hb : nn b) (hv : sg s (m * 2 ^ e) + sg t (n * 2 ^ f) = sv b) (d : Datum)
    (hd : (Datum.number s m (-1074 + (e : Int))).sum (.number t n (-1074 + (f : Int))) = some d) : key (double.write d) = key b := by
  obtain ⟨x, e1, e2⟩ := sum_fin s t m n e f
  rw [e1] at hd
  cases hd
  rw [hv] at e2
  show key (double.nearest _ _ _) = _
  rw [nearest_eq]
  have h0 : mg (rung b) = x.natAbs * 2 ^ (min e f) := by
    have h1 : (sv b).natAbs = mg (rung b) := by unfold sv sg; split <;> simp
    rw [← h1, ← e2, Int.natAbs_mul, Int.natAbs_natCast]
  have hr : rnd x.natAbs (-1074 + ((min e f : Nat) : Int)) = rung b := by
    refine rnd_exact hb ?_
    have e3 : (-1074 + ((min e f : Nat) : Int) + 1074).toNat = min e f := by omega
    have e4 : (-(-1074 + ((min e f : Nat) : Int) + 1074)).toNat = 0 := by omega
    rw [e3, e4, h0]; simp
  unfold key
  rw [hr, rung_word _ hb, neg_word _ hb]
  by_cases hx : x = 0
  · subst hx
    have : rung b = 0 := by
      have : mg (rung b) = mg 0 := by rw [h0, mg_zero]; simp
      exact mg_inj this
    rw [this]; simp
  · rw [if_neg hx]
    have hp : (0 : Int) < ((2 ^ (min e f) : Nat) : Int) := by exact_mod_cast Nat.two_pow_pos _
    have hs : neg b = decide (x < 0) := by
      unfold sv at e2
      generalize ((2 ^ (min e f) : Nat) : Int) = z at e2 hp
      exact sg_sign e2 hp hx
    rw [hs]

theorem add_some {a b : Nat} (ha : fin a) (hb : fin b) : double.add a b = some (fadd a b) ∧ nn (fadd a b) ∧ fadd a b < 18446744073709551616 := by
  obtain ⟨m, e, ra, va⟩ := read_fin ha
  obtain ⟨n, f, rb, vb⟩ := read_fin hb
  have h : double.add a b = some (fadd a b) := by
    unfold fadd Format.add; rw [ra, rb]; rfl
  refine ⟨h, ?_, double.add_lt h⟩
  unfold fadd Format.add
  rw [ra, rb]
  exact nearest_nn _ _ _

theorem fadd_key {a b c : Nat} (ha : fin a) (hb : fin b) (hc : nn c) (h : sv a + sv b = sv c) : key (fadd a b) = key c := by
  obtain ⟨m, e, ra, va⟩ := read_fin ha
  obtain ⟨n, f, rb, vb⟩ := read_fin hb
  obtain ⟨x, e1, e2⟩ := sum_fin (neg a) (neg b) m n e f
  have h1 : fadd a b = double.write (.number (if x = 0 then neg a && neg b else x < 0) x.natAbs (-1074 + ((min e f : Nat) : Int))) := by
    unfold fadd Format.add; rw [ra, rb, e1]; rfl
  rw [h1]
  refine sum_word _ _ _ _ _ _ hc ?_ _ e1
  rw [va, vb]; exact h

theorem fadd_comm (a b : Nat) : fadd a b = fadd b a := by
  unfold fadd Format.add
  have : (double.read a).sum (double.read b) = (double.read b).sum (double.read a) := by
    generalize double.read a = x
    generalize double.read b = y
    cases x with
    | number s m i =>
      cases y with
      | number t n j =>
        simp only [Datum.sum]
        rw [Int.min_comm j i, Int.add_comm (signed t n _), Bool.and_comm t s]
      | infinity t => rfl
      | nan t u => rfl
    | infinity s =>
      cases y with
      | number t n j => rfl
      | infinity t => cases s <;> cases t <;> rfl
      | nan t u => rfl
    | nan s u => cases y <;> rfl
  rw [this]

/-- the word with the other sign -/
def opp (b : Nat) : Nat := double.word (!neg b) (rung b)
theorem opp_rung {b : Nat} (h : nn b) : rung (opp b) = rung b := rung_word _ h
theorem opp_neg {b : Nat} (h : nn b) : neg (opp b) = !neg b := neg_word _ h
theorem sub_some {a b : Nat} (ha : fin a) (hb : fin b) : double.sub a b = some (fsub a b) ∧ nn (fsub a b) ∧ fsub a b < 18446744073709551616 := by
  obtain ⟨m, e, ra, va⟩ := read_fin ha
  obtain ⟨n, f, rb, vb⟩ := read_fin hb
  have h : double.sub a b = some (fsub a b) := by
    unfold fsub Format.sub; rw [ra, rb]; rfl
  refine ⟨h, ?_, double.sub_lt h⟩
  unfold fsub Format.sub
  rw [ra, rb]
  exact nearest_nn _ _ _
theorem fsub_key {a b c : Nat} (ha : fin a) (hb : fin b) (hc : nn c) (h : sv a - sv b = sv c) : key (fsub a b) = key c := by
  obtain ⟨m, e, ra, va⟩ := read_fin ha
  obtain ⟨n, f, rb, vb⟩ := read_fin hb
  obtain ⟨x, e1, e2⟩ := sum_fin (neg a) (!neg b) m n e f
  have h1 : fsub a b = double.write (.number (if x = 0 then neg a && !neg b else x < 0) x.natAbs (-1074 + ((min e f : Nat) : Int))) := by
    unfold fsub Format.sub; rw [ra, rb]
    show ((Datum.sum _ (Datum.number (!neg b) n _)).map _).getD 0 = _
    rw [e1]; rfl
  rw [h1]
  refine sum_word _ _ _ _ _ _ hc ?_ _ e1
  rw [va, vb, ← h]
  unfold sv
  cases neg b <;> simp [sg] <;> omega

/-! ### Products -/
theorem mul_some {a b : Nat} (ha : fin a) (hb : fin b) : double.mul a b = some (fmul a b) ∧ nn (fmul a b) ∧ fmul a b < 18446744073709551616 := by
  obtain ⟨m, e, ra, va⟩ := read_fin ha
  obtain ⟨n, f, rb, vb⟩ := read_fin hb
  have h : double.mul a b = some (fmul a b) := by
    unfold fmul Format.mul; rw [ra, rb]; rfl
  refine ⟨h, ?_, double.mul_lt h⟩
  unfold fmul Format.mul
  rw [ra, rb]
  exact nearest_nn _ _ _

/-- a product's rung -/
def mrg (a b : Nat) : Nat := rung (fmul a b)
theorem fmul_fin {a b : Nat} (ha : fin a) (hb : fin b) : ∃ (m n e f : Nat), fmul a b = double.word (neg a ^^ neg b) (rnd (m * n) (-1074 + (e : Int) + (-1074 + (f : Int)))) ∧ m * 2 ^ e = mg (rung a) ∧ n * 2 ^ f = mg (rung b) := by
  obtain ⟨m, e, ra, va⟩ := read_fin ha
  obtain ⟨n, f, rb, vb⟩ := read_fin hb
  refine ⟨m, n, e, f, ?_, va, vb⟩
  unfold fmul Format.mul
  rw [ra, rb]
  show (some (double.nearest _ _ _)).getD 0 = _
  rw [nearest_eq]; rfl

theorem prod_scale (m n e f x : Nat) : (x * 2 ^ (-(-1074 + (e : Int) + (-1074 + (f : Int)) + 1074)).toNat ≤ m * n * 2 ^ (-1074 + (e : Int) + (-1074 + (f : Int)) + 1074).toNat ↔ x * U ≤ (m * 2 ^ e) * (n * 2 ^ f))
    ∧ (m * n * 2 ^ (-1074 + (e : Int) + (-1074 + (f : Int)) + 1074).toNat ≤ x * 2 ^ (-(-1074 + (e : Int) + (-1074 + (f : Int)) + 1074)).toNat ↔ (m * 2 ^ e) * (n * 2 ^ f) ≤ x * U) := by
  have h0 : (m * 2 ^ e) * (n * 2 ^ f) = m * n * 2 ^ (e + f) := by
    rw [Nat.pow_add]; simp [Nat.mul_assoc, Nat.mul_left_comm]
  rw [h0]
  unfold U
  by_cases h : 1074 ≤ e + f
  · have e1 : (-(-1074 + (e : Int) + (-1074 + (f : Int)) + 1074)).toNat = 0 := by omega
    have e2 : (-1074 + (e : Int) + (-1074 + (f : Int)) + 1074).toNat = e + f - 1074 := by omega
    have e3 : e + f = (e + f - 1074) + 1074 := by omega
    rw [e1, e2, Nat.pow_zero, Nat.mul_one]
    have e4 : m * n * 2 ^ (e + f) = m * n * 2 ^ (e + f - 1074) * 2 ^ 1074 := by
      conv => lhs; rw [e3, Nat.pow_add, ← Nat.mul_assoc]
    rw [e4]
    have hp := Nat.two_pow_pos 1074
    exact ⟨⟨fun h => Nat.mul_le_mul_right _ h, fun h => Nat.le_of_mul_le_mul_right h hp⟩, ⟨fun h => Nat.mul_le_mul_right _ h, fun h => Nat.le_of_mul_le_mul_right h hp⟩⟩
  · have e1 : (-(-1074 + (e : Int) + (-1074 + (f : Int)) + 1074)).toNat = 1074 - (e + f) := by omega
    have e2 : (-1074 + (e : Int) + (-1074 + (f : Int)) + 1074).toNat = 0 := by omega
    have e3 : 1074 = (1074 - (e + f)) + (e + f) := by omega
    rw [e1, e2, Nat.pow_zero, Nat.mul_one]
    have e4 : x * 2 ^ 1074 = x * 2 ^ (1074 - (e + f)) * 2 ^ (e + f) := by
      conv => lhs; rw [e3, Nat.pow_add, ← Nat.mul_assoc]
    rw [e4]
    have hp := Nat.two_pow_pos (e + f)
    exact ⟨⟨fun h => Nat.mul_le_mul_right _ h, fun h => Nat.le_of_mul_le_mul_right h hp⟩, ⟨fun h => Nat.mul_le_mul_right _ h, fun h => Nat.le_of_mul_le_mul_right h hp⟩⟩

theorem mul_ge {a b r : Nat} (ha : fin a) (hb : fin b) (hr : r ≤ 9218868437227405312) (h : mg r * U ≤ mg (rung a) * mg (rung b)) : r ≤ rung (fmul a b) := by
  obtain ⟨m, n, e, f, h1, h2, h3⟩ := fmul_fin ha hb
  rw [h1, rung_word _ (rnd_inf _ _)]
  refine rnd_ge hr ?_
  unfold atLeast
  rw [(prod_scale m n e f (mg r)).1, h2, h3]
  exact h
theorem mul_le {a b r : Nat} (ha : fin a) (hb : fin b) (h : mg (rung a) * mg (rung b) ≤ mg r * U) : rung (fmul a b) ≤ r := by
  obtain ⟨m, n, e, f, h1, h2, h3⟩ := fmul_fin ha hb
  rw [h1, rung_word _ (rnd_inf _ _)]
  refine rnd_le ?_
  unfold atMost
  rw [(prod_scale m n e f (mg r)).2, h2, h3]
  exact h
theorem fmul_neg {a b : Nat} (ha : fin a) (hb : fin b) : neg (fmul a b) = (neg a ^^ neg b) := by
  obtain ⟨m, n, e, f, h1, _, _⟩ := fmul_fin ha hb
  rw [h1, neg_word _ (rnd_inf _ _)]
theorem fmul_comm (a b : Nat) : fmul a b = fmul b a := by
  unfold fmul Format.mul
  have : (double.read a).product (double.read b) = (double.read b).product (double.read a) := by
    generalize double.read a = x
    generalize double.read b = y
    cases x with
    | number s m i =>
      cases y with
      | number t n j =>
        simp only [Datum.product]
        rw [Bool.xor_comm s t, Nat.mul_comm m n, Int.add_comm i j]
      | infinity t => simp only [Datum.product]
      | nan t u => rfl
    | infinity s =>
      cases y with
      | number t n j => simp only [Datum.product]
      | infinity t => simp only [Datum.product]; rw [Bool.xor_comm]
      | nan t u => rfl
    | nan s u => cases y <;> rfl
  rw [this]

/-- a product that is a word's value -/
theorem fmul_key {a b c : Nat} (ha : fin a) (hb : fin b) (hc : nn c) (h : sv a * sv b = sv c * U) : key (fmul a b) = key c := by
  have hm : mg (rung a) * mg (rung b) = mg (rung c) * U := by
    have h1 : ∀ b, (sv b).natAbs = mg (rung b) := by intro b; unfold sv sg; split <;> simp
    rw [← h1 a, ← h1 b, ← h1 c, ← Int.natAbs_mul, h, Int.natAbs_mul, Int.natAbs_natCast]
  have hr : rung (fmul a b) = rung c := Nat.le_antisymm (mul_le ha hb (Nat.le_of_eq hm)) (mul_ge ha hb hc (Nat.le_of_eq hm.symm))
  unfold key
  rw [hr, fmul_neg ha hb]
  by_cases h0 : rung c = 0
  · rw [h0]; simp
  · have hc0 : 0 < mg (rung c) := by
      have := @mg_lt_iff 0 (rung c)
      rw [mg_zero] at this; omega
    have hab : 0 < mg (rung a) * mg (rung b) := by rw [hm]; exact Nat.mul_pos hc0 U_pos
    have e1 : sv a * sv b = sg (neg a ^^ neg b) (mg (rung a) * mg (rung b)) := by
      unfold sv sg
      cases neg a <;> cases neg b <;> simp [Int.neg_mul, Int.mul_neg, Int.natCast_mul]
    have e2 : sv c * U = sg (neg c) (mg (rung c) * U) := by unfold sv; rw [sg_mul]
    have : (neg a ^^ neg b) = neg c := by
      rw [e1, e2, hm] at h
      have hpos : (0 : Int) < ((mg (rung c) * U : Nat) : Int) := by exact_mod_cast Nat.mul_pos hc0 U_pos
      unfold sg at h
      generalize (neg a ^^ neg b) = s at h ⊢
      generalize ((mg (rung c) * U : Nat) : Int) = y at h hpos
      cases s <;> cases hn : neg c <;> simp [hn] at h ⊢ <;> omega
    rw [this]

/-! ### Sums, differences, products of whole numbers -/
theorem fadd_fi {a b : Int} (a1 : -9007199254740992 ≤ a) (a2 : a ≤ 9007199254740992) (b1 : -9007199254740992 ≤ b) (b2 : b ≤ 9007199254740992) (c1 : -9007199254740992 ≤ a + b) (c2 : a + b ≤ 9007199254740992) : key (fadd (fi a) (fi b)) = key (fi (a + b)) :=
  fadd_key (fi_fin a1 a2) (fi_fin b1 b2) (fi_fin c1 c2).nn (by rw [fi_sv a1 a2, fi_sv b1 b2, fi_sv c1 c2, Int.add_mul])
theorem fsub_fi {a b : Int} (a1 : -9007199254740992 ≤ a) (a2 : a ≤ 9007199254740992) (b1 : -9007199254740992 ≤ b) (b2 : b ≤ 9007199254740992) (c1 : -9007199254740992 ≤ a - b) (c2 : a - b ≤ 9007199254740992) : key (fsub (fi a) (fi b)) = key (fi (a - b)) :=
  fsub_key (fi_fin a1 a2) (fi_fin b1 b2) (fi_fin c1 c2).nn (by rw [fi_sv a1 a2, fi_sv b1 b2, fi_sv c1 c2, Int.sub_mul])
theorem fmul_fi {a b : Int} (a1 : -9007199254740992 ≤ a) (a2 : a ≤ 9007199254740992) (b1 : -9007199254740992 ≤ b) (b2 : b ≤ 9007199254740992) (c1 : -9007199254740992 ≤ a * b) (c2 : a * b ≤ 9007199254740992) : key (fmul (fi a) (fi b)) = key (fi (a * b)) :=
  fmul_key (fi_fin a1 a2) (fi_fin b1 b2) (fi_fin c1 c2).nn (by rw [fi_sv a1 a2, fi_sv b1 b2, fi_sv c1 c2]; simp [Int.mul_assoc, Int.mul_left_comm])

end Go.Proofs.Ytdfhefnjoekgbaa.Fl
