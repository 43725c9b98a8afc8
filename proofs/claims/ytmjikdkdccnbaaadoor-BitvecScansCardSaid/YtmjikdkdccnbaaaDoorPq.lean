/- Contracts of math/bits: OnesCount64, TrailingZeros64. -/
import Derived.Test.YtmjikdkdccnbaaaDoorPp
namespace Go.Proofs.YtmjikdkdccnbaaaDoor
open Go.RowKit Bv

theorem ret_int {k : IntKind} {a b : Int} (h : a = b) : Ending.returned (.int k a) = .returned (.int k b) := by rw [h]

set_option maxHeartbeats 400000
theorem onesCount_any (x : Nat) (hx : x < 18446744073709551616) (w : World) :
    Calls Tryd.prog 37 #[.int .u64 (x : Int)] w fun e w' => e = .returned (.int .i64 (pop x 64 : Int)) ∧ w = w' := by
  obtain ⟨x1, x2, x3, e1, e2, e3, h1, h2, h3, e4⟩ := ones_count x hx
  have hA : (x / 2 &&& 6148914691236517205) ≤ 6148914691236517205 := Nat.and_le_right
  have hB : (x &&& 6148914691236517205) ≤ 6148914691236517205 := Nat.and_le_right
  have hC : (x1 / 4 &&& 3689348814741910323) ≤ 3689348814741910323 := Nat.and_le_right
  have hD : (x1 &&& 3689348814741910323) ≤ 3689348814741910323 := Nat.and_le_right
  have a1 : bits .and .u64 ((x : Int) / 2) 6148914691236517205 = ((x / 2 &&& 6148914691236517205 : Nat) : Int) := u64_and_nat (x / 2) 6148914691236517205 (by omega) (by decide)
  have b1 : bits .and .u64 (x : Int) 6148914691236517205 = ((x &&& 6148914691236517205 : Nat) : Int) := u64_and_nat x 6148914691236517205 hx (by decide)
  have a2 : bits .and .u64 ((x1 : Int) / 4) 3689348814741910323 = ((x1 / 4 &&& 3689348814741910323 : Nat) : Int) := u64_and_nat (x1 / 4) 3689348814741910323 (by omega) (by decide)
  have b2 : bits .and .u64 (x1 : Int) 3689348814741910323 = ((x1 &&& 3689348814741910323 : Nat) : Int) := u64_and_nat x1 3689348814741910323 h1 (by decide)
  have a3 : bits .and .u64 ((x2 : Int) / 16 + (x2 : Int)) 1085102592571150095 = (x3 : Int) := by
    rw [← e3]
    exact u64_and_nat (x2 / 16 + x2) 1085102592571150095 (by omega) (by decide)
  have HE : Hid (bits .and .i64 ((x3 : Int) + (x3 : Int) / 256 + ((x3 : Int) + (x3 : Int) / 256) / 65536 + ((x3 : Int) + (x3 : Int) / 256 + ((x3 : Int) + (x3 : Int) / 256) / 65536) / 4294967296) 127 = (pop x 64 : Int)) := by
    have h := bits_mask .i64 63 (by decide) wraps_i64 7 (by decide) ((x3 : Int) + (x3 : Int) / 256 + ((x3 : Int) + (x3 : Int) / 256) / 65536 + ((x3 : Int) + (x3 : Int) / 256 + ((x3 : Int) + (x3 : Int) / 256) / 65536) / 4294967296) (by omega) (by omega)
    refine Eq.trans h ?_
    rw [← e4]
    simp
  clear e3
  generalize (x / 2 &&& 6148914691236517205) = A at *
  generalize (x &&& 6148914691236517205) = B at *
  generalize (x1 / 4 &&& 3689348814741910323) = C at *
  generalize (x1 &&& 3689348814741910323) = D at *
  have s1 : (A : Int) + (B : Int) = (x1 : Int) := by omega
  have s2 : (C : Int) + (D : Int) = (x2 : Int) := by omega
  clear e1 e2 e4
  go_enter Tryd.func37, Tryd.ntmps37
  go_wp2
  go_ret
  exact ⟨ret_int HE.out, rfl⟩

/-- the table of math/bits, as it is laid -/
def tz (k : Nat) : Nat := [0, 1, 56, 2, 57, 49, 28, 3, 61, 58, 42, 50, 38, 29, 17, 4, 62, 47, 59, 36, 45, 43, 51, 22, 53, 39, 33, 30, 24, 18, 12, 5, 63, 55, 48, 27, 60, 41, 37, 16, 46, 35, 44, 21, 52, 32, 23, 11, 54, 26, 40, 15, 34, 20, 31, 10, 25, 14, 19, 9, 13, 8, 7, 6].getD k 0
theorem tz_right : ∀ t, t < 64 → tz (2 ^ t * 285870213051353865 % 18446744073709551616 / 288230376151711744) = t := by decide
def Tab (w : World) : Prop := ∀ k, k < 64 → w.cell? ⟨0, k, none⟩ = some (.int .u8 (tz k : Int))
theorem Tab.ext {w w' : World} (h : Tab w) (he : Ext w w') : Tab w' := fun k hk => (Below.cell (p := ⟨0, k, none⟩) he (World.block_lt_of_cell? _ _ (h k hk))).trans (h k hk)
theorem tz_any (x t q : Nat) (hx : x < 18446744073709551616) (e : x = 2 ^ t * (2 * q + 1)) (w : World) (hw : Tab w) :
    Calls Tryd.prog 38 #[.int .u64 (x : Int)] w fun e w' => e = .returned (.int .i64 (t : Int)) ∧ w = w' := by
  have hp := Nat.two_pow_pos t
  have hge : 2 ^ t ≤ x := by rw [e]; exact Nat.le_mul_of_pos_right _ (by omega)
  have ht : t < 64 := by
    rcases Nat.lt_or_ge t 64 with h' | h'
    · exact h'
    · have := Nat.pow_le_pow_right (n := 2) (by decide) h'
      omega
  have hlow : x &&& (18446744073709551616 - x) = 2 ^ t := by
    have h := low_bit t q (by rw [← e]; exact hx)
    rw [← e] at h
    exact h
  have hn : IntKind.u64.wrap (-(x : Int)) = ((18446744073709551616 - x : Nat) : Int) := by
    simp only [IntKind.wrap, IntKind.bits, IntKind.signed]
    simp
    omega
  have hand : bits .and .u64 (x : Int) ((18446744073709551616 - x : Nat) : Int) = ((2 ^ t : Nat) : Int) := by
    rw [← hlow]
    exact u64_and_nat x (18446744073709551616 - x) hx (by omega)
  have hmul : IntKind.u64.wrap (((2 ^ t : Nat) : Int) * 285870213051353865) = ((2 ^ t * 285870213051353865 % 18446744073709551616 : Nat) : Int) := by
    simp only [IntKind.wrap, IntKind.bits, IntKind.signed]
    simp
  have hcell := hw (2 ^ t * 285870213051353865 % 18446744073709551616 / 288230376151711744) (by omega)
  rw [tz_right t ht] at hcell
  have hm : ((2 ^ t * 285870213051353865 % 18446744073709551616 : Nat) : Int) / 288230376151711744 < 64 := by omega
  generalize 18446744073709551616 - x = nx at *
  generalize 2 ^ t * 285870213051353865 % 18446744073709551616 = m at *
  generalize 2 ^ t = p at *
  have hx0 : (0 : Int) < (x : Int) := by omega
  clear hlow e hge
  go_enter Tryd.func38, Tryd.ntmps38
  go_wp2
  go_ret
  exact ⟨rfl, rfl⟩
end Go.Proofs.YtmjikdkdccnbaaaDoor
