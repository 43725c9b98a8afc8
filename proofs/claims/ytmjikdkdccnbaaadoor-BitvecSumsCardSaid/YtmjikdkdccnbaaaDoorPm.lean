/- The table of math/bits: what the row's listing gives a walk; the door's own heap meets it. -/
import Derived.Test.YtmjikdkdccnbaaaDoorPk
import Derived.Test.YtmjikdkdccnbaaaDoorOs
import Derived.Test.YtmjikdkdccnbaaaDoorTie
import Derived.Test.YtmjikdkdccnbaaaDoorCards
import Derived.ProofKit
import Derived.LaidMore
import Derived.Stop.Joined
import Derived.SevenTiedAt
namespace Go.Proofs.YtmjikdkdccnbaaaDoor
open Go.ChangeShapes Go.WideShapes Go.ChangeAt Go.RowKit Bv

def laid1 : List (String × DataW Unit) := [("math/bits.deBruijn64tab", Rows.laid_math_bits_deBruijn64tab)]
theorem gTab : Tryd.prog.globalNamed "math/bits.deBruijn64tab" = some 0 := by kernel_rfl
theorem tTab : (Tryd.prog.globals[0]?).map (·.type) = some 62 := by kernel_rfl
/-- The door's own heap meets the condition: three closed facts. -/
theorem door_met (os : Os) (args : Array Value) : laidMetH Tryd.prog laid1 ((World.doorLaid Tryd.prog 400 os).forCall (fun _ _ => 0) ⟨#[], args, []⟩).memory :=
  laidMetH_of_parts3 (fuel := 8) (laidMet_of_run' 8 (by kernel_rfl) (by kernel_rfl)) (by kernel_rfl) (by kernel_rfl)
def tzl : List Nat := [0, 1, 56, 2, 57, 49, 28, 3, 61, 58, 42, 50, 38, 29, 17, 4, 62, 47, 59, 36, 45, 43, 51, 22, 53, 39, 33, 30, 24, 18, 12, 5, 63, 55, 48, 27, 60, 41, 37, 16, 46, 35, 44, 21, 52, 32, 23, 11, 54, 26, 40, 15, 34, 20, 31, 10, 25, 14, 19, 9, 13, 8, 7, 6]
theorem tz_tzl (k : Nat) : tz k = tzl.getD k 0 := rfl
theorem laid_tzl {H : Type} : (Rows.laid_math_bits_deBruijn64tab : DataW H) = .agg (tzl.map fun (n : Nat) => .lit (.int .u8 (n : Int))) := rfl
theorem tab_of_laid {W : World} (h : laidMetH Tryd.prog laid1 W) : Tab W := by
  rw [MakeChecks.laidMetH_plain _ _ _ (by kernel_rfl)] at h
  obtain ⟨ps, ⟨g0, t0, cs0, f0, p0, q0, hg0, ht0, hv0, hd0, _, _⟩, _, _⟩ := h
  obtain rfl := Option.some.inj (gTab.symm.trans hg0)
  obtain rfl := Option.some.inj (tTab.symm.trans ht0)
  obtain ⟨xs, m1, rfl, hx1, hlen, hn3, hel⟩ := DataW.trod_array Tryd.underlying62 hd0
  have c3 : Tryd.prog.cellsOf 5 = 1 := by kernel_rfl
  intro k hk
  have h0 := hel k hk
  rw [World.var?_cell hg0 hv0 k]
  have hkx : k < xs.length := by omega
  rw [List.getElem?_eq_getElem hkx] at h0
  rw [laid_tzl] at hx1
  simp only [Prod.mk.injEq, DataW.agg.injEq] at hx1
  obtain ⟨n, e1, e2, _⟩ := DataW.trod_int Tryd.underlying5 h0
  have hk2 : (tzl.map fun n : Nat => (DataW.lit (.int .u8 (n : Int)) : DataW Unit))[k]? = some (xs[k].1) := by
    rw [hx1.1]; simp [hkx]
  have hkl : k < tzl.length := hk
  rw [List.getElem?_map, List.getElem?_eq_getElem hkl, e2] at hk2
  simp at hk2
  have e3 : tz k = tzl[k] := by rw [tz_tzl]; simp [List.getD, hkl]
  rw [e3, hk2]
  rw [c3] at e1
  obtain ⟨l0⟩ := cs0
  have e4 : (l0.drop k).take 1 = [.int .u8 n] := by simpa using e1
  have e5 : l0[k]? = ((l0.drop k).take 1)[0]? := by simp
  simp only [List.getElem?_toArray]
  rw [e5, e4]; rfl
end Go.Proofs.YtmjikdkdccnbaaaDoor
