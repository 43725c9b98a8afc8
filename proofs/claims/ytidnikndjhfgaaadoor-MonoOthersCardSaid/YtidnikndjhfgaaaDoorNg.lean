/- Contracts of the functions of num and rebusref03: powers, all words. -/
import Derived.Test.YtidnikndjhfgaaaDoorNf
namespace Go.Proofs.YtidnikndjhfgaaaDoor
open Go.RowKit Fl

set_option maxHeartbeats 400000
theorem powE_out {n : Int} {a : Nat} (h : n < -1023 ∨ 1023 < n) : powE n a = (0, 24) := if_pos h
/-! ### The reference -/
namespace Fl
theorem w1023 : 4652209618980700160 = fi 1023 := by decide +kernel
theorem wm1023 : 13875581655835475968 = fi (-1023) := by decide +kernel
theorem w0 : 0 = fi 0 := by decide +kernel
theorem w1 : 4607182418800017408 = fi 1 := by decide +kernel
theorem whole_lt {b : Nat} (hb : whole b) {n : Int} (h1 : -9007199254740992 ≤ n) (h2 : n ≤ 9007199254740992) : (key b < key (fi n) ↔ trn b < n) ∧ (key (fi n) < key b ↔ n < trn b) ∧ (key b = key (fi n) ↔ trn b = n) := by
  have h := trn_le hb.1
  rw [← (whole_key hb.1).2 hb]
  exact ⟨fi_lt h.1 h.2 h1 h2, fi_lt h1 h2 h.1 h.2, fi_inj h.1 h.2 h1 h2⟩
theorem gt_1023 {b : Nat} (hb : whole b) : (FloatKind.f64.format.order b 4652209618980700160 == some .gt) = decide (1023 < trn b) := by
  rw [c_gt hb.1.fin.nn (by decide), w1023]; exact decide_eq_decide.2 (whole_lt hb (by omega) (by omega)).2.1
theorem lt_1023 {b : Nat} (hb : whole b) : (FloatKind.f64.format.order b 13875581655835475968 == some .lt) = decide (trn b < -1023) := by
  rw [c_lt hb.1.fin.nn (by decide), wm1023]; exact decide_eq_decide.2 (whole_lt hb (by omega) (by omega)).1
theorem ge_0 {b : Nat} (hb : whole b) : (FloatKind.f64.format.order b 0 == some .gt || FloatKind.f64.format.order b 0 == some .eq) = decide (0 ≤ trn b) := by
  rw [c_gt hb.1.fin.nn nn_zero, c_eq hb.1.fin.nn nn_zero]
  have h := @whole_lt b hb 0 (by omega) (by omega)
  rw [← w0] at h
  rw [Bool.eq_iff_iff]
  simp only [Bool.or_eq_true, decide_eq_true_eq]
  omega
end Fl

end Go.Proofs.YtidnikndjhfgaaaDoor
