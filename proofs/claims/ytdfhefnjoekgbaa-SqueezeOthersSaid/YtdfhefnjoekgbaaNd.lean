/- Contracts of the functions of num and rebusref03 on whole numbers: products, rests. -/
import Derived.Test.YtdfhefnjoekgbaaNc
namespace Go.Proofs.Ytdfhefnjoekgbaa
open Go.RowKit Fl

set_option maxHeartbeats 400000
namespace Fl
theorem tmod_bd (a b : Int) (h : a ≠ 0) : -(a.natAbs : Int) < b.tmod a ∧ b.tmod a < a.natAbs := by
  have h1 := Int.natAbs_tmod b a
  have h2 : b.natAbs % a.natAbs < a.natAbs := Nat.mod_lt _ (by omega)
  omega
/-- what is left of b by a, of a's sign; b itself by 0 -/
def restI (a b : Int) : Int := if a = 0 then b else if b.tmod a ≠ 0 ∧ ¬ (b.tmod a < 0 ↔ a < 0) then b.tmod a + a else b.tmod a
theorem rest_zero (a b : Int) (h : ¬ a = 0) (h1 : b.tmod a = 0) : Ending.returned (.int .i64 0) = Ending.returned (.int .i64 (restI a b)) := by
  unfold restI; rw [if_neg h, if_neg (by omega), h1]
theorem rest_turn (a b : Int) (h : ¬ a = 0) (h2 : (b.tmod a != 0) = true ∧ (!decide (b.tmod a < 0) == decide (a < 0)) = true) (a1 : -9223372036854775808 ≤ a) (a2 : a ≤ 9223372036854775807) : Ending.returned (.int .i64 (wrap64 (b.tmod a + a))) = Ending.returned (.int .i64 (restI a b)) := by
  have h3 := tmod_bd a b h
  have h4 : b.tmod a ≠ 0 ∧ ¬ (b.tmod a < 0 ↔ a < 0) := by
    have h5 := h2.1
    have h6 := h2.2
    refine ⟨by simpa using h5, ?_⟩
    intro h7
    by_cases h8 : b.tmod a < 0 <;> by_cases h9 : a < 0 <;> simp [h8, h9] at h6 h7
  unfold restI; rw [if_neg h, if_pos h4]
  congr 2
  unfold wrap64
  omega
theorem rest_stay (a b : Int) (h : ¬ a = 0) (h2 : (b.tmod a != 0) = false ∨ (!decide (b.tmod a < 0) == decide (a < 0)) = false) : Ending.returned (.int .i64 (b.tmod a)) = Ending.returned (.int .i64 (restI a b)) := by
  unfold restI; rw [if_neg h, if_neg]
  rintro ⟨h3, h4⟩
  rcases h2 with h2 | h2
  · simp at h2; exact h3 h2
  · apply h4
    by_cases h5 : b.tmod a < 0 <;> by_cases h6 : a < 0 <;> simp [h5, h6] at h2 ⊢
theorem restI_lt {a b : Int} (a1 : -9223372036854775808 ≤ a) (a2 : a ≤ 9223372036854775807) (b1 : -9223372036854775808 ≤ b) (b2 : b ≤ 9223372036854775807) : -9223372036854775808 ≤ restI a b ∧ restI a b ≤ 9223372036854775807 := by
  unfold restI
  split
  · omega
  · have := tmod_bd a b ‹_›
    split <;> omega
theorem restI_G {a b : Int} (ha : G a) (hb : G b) : G (restI a b) := by
  unfold G at *
  unfold restI
  split
  · exact hb
  · have := tmod_bd a b ‹_›
    split <;> omega
theorem rrest_wrap (a b : Int) (h : a ≠ 0) (h' : a ≠ -1) (b1 : -9223372036854775808 ≤ b) (b2 : b ≤ 9223372036854775807) : wrap64 (b.tdiv a) = b.tdiv a ∧ wrap64 (b - wrap64 (b.tdiv a * a)) = b.tmod a := by
  have h1 := Int.tmod_add_mul_tdiv b a
  have h2 := Int.natAbs_tmod b a
  have h3 : (b.tdiv a).natAbs = b.natAbs / a.natAbs := Int.natAbs_tdiv b a
  have h5 : b.natAbs % a.natAbs ≤ b.natAbs := Nat.mod_le _ _
  have h6 : -9223372036854775808 ≤ b.tdiv a ∧ b.tdiv a ≤ 9223372036854775807 := by
    by_cases ha1 : a = 1
    · subst ha1; rw [Int.tdiv_one]; exact ⟨b1, b2⟩
    · have : b.natAbs / a.natAbs ≤ b.natAbs / 2 := Nat.div_le_div_left (by omega) (by omega)
      omega
  have h7 : wrap64 (b.tdiv a) = b.tdiv a := by unfold wrap64; omega
  have h8 : b.tdiv a * a = b - b.tmod a := by rw [Int.mul_comm]; omega
  have h9 : (b.tmod a < 0 → b < 0) ∧ (0 < b.tmod a → 0 < b) := by
    constructor
    · intro hh; have := Int.tmod_nonneg (a := b) a; omega
    · intro hh; have := Int.tmod_nonneg (a := -b) a; rw [Int.neg_tmod] at this; omega
  refine ⟨h7, ?_⟩
  rw [h8]
  unfold wrap64
  omega
end Fl

theorem ret_intb {a b : Int} {c : Bool} (h : a = b) : Ending.returned (.tuple #[.int .i64 a, .bool c]) = Ending.returned (.tuple #[.int .i64 b, .bool c]) := by rw [h]
end Go.Proofs.Ytdfhefnjoekgbaa
