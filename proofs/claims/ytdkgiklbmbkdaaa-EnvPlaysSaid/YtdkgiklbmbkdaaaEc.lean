/- Maps of whole values; frames. -/
import Derived.Test.YtdkgiklbmbkdaaaEb
import Derived.Maps.Own
namespace Go.Proofs.Ytdkgiklbmbkdaaa
open Go.ChangeShapes Go.WideShapes Go.RowKit Go.Maps Bv Fl
set_option maxHeartbeats 1000000
set_option maxRecDepth 100000
/-- a value reads as itself -/
def RV (v : Value) : Option (DataW Value × List MemPlace) := some (.held v, [])
/-- block b is a map from strings to values, of at most n entries, that reads as D -/
def OM (w : World) (b n : Nat) (D : DataW Value) : Prop := w.ownsMap Try.prog 9 RV b n D
section
variable {w w' : World} {b n g : Nat} {D : DataW Value}
theorem OM.ext (h : OM w b n D) (hx : Ext w w') : OM w' b n D := World.ownsMap.kept h (row := none) ⟨hx.os, hx.tape, hx.output, hx.size, fun i hi _ => hx.block i hi⟩ (by simp)
theorem OM.grown (h : OM w b n D) (hg : w.grownBy w' (some g)) (hne : b ≠ g) : OM w' b n D := World.ownsMap.kept h hg (by simpa using hne)
theorem OM.lt (h : OM w b n D) : b < w.heap.size := World.ownsMap.lt h
theorem OM.lookA (h : OM w b n D) {s : ByteArray} (hs : s.size ≤ maxLen) : ∃ v, (Instr.lookup 59 (.map (some b)) (.string s) true).run Try.prog w = .ok (.tuple #[v, .bool (Maps.has D (.string s.data.toList))]) w ∧ .held v = D.atKey (.string s.data.toList) (.held zeroArr) := by
  obtain ⟨v, ps, h1, h2⟩ := World.ownsMap.look_ok (z := zeroArr) h lawS Try.underlying59 (zvA w) (zd := .held zeroArr) (zp := []) rfl (keyS hs)
  refine ⟨v, h1, ?_⟩
  have : (DataW.held v, ([] : List MemPlace)) = (D.atKey (.string s.data.toList) (.held zeroArr), ps) := by simpa [RV] using h2
  exact (Prod.mk.injEq .. ▸ this).1
theorem OM.lookC (h : OM w b n D) {s : ByteArray} (hs : s.size ≤ maxLen) : ∃ v, (Instr.lookup 60 (.map (some b)) (.string s) true).run Try.prog w = .ok (.tuple #[v, .bool (Maps.has D (.string s.data.toList))]) w ∧ .held v = D.atKey (.string s.data.toList) (.held zeroClo) := by
  obtain ⟨v, ps, h1, h2⟩ := World.ownsMap.look_ok (z := zeroClo) h lawS Try.underlying60 (zvC w) (zd := .held zeroClo) (zp := []) rfl (keyS hs)
  refine ⟨v, h1, ?_⟩
  have : (DataW.held v, ([] : List MemPlace)) = (D.atKey (.string s.data.toList) (.held zeroClo), ps) := by simpa [RV] using h2
  exact (Prod.mk.injEq .. ▸ this).1
end
theorem new_nil (w : World) : Calls Try.prog 5 #[.pointer none] w fun e w' => e = .returned (.pointer (some ⟨w.heap.size + 2, 0, none⟩)) ∧ w' = (((w.alloc (.map #[] 0)).alloc (.map #[] 0)).alloc (.cells #[.pointer none, .map (some w.heap.size), .map (some (w.heap.size + 1)), .int .i64 0] 62)) := by
  have hmm := @run_makeMap Try.prog
  go_enter Try.func5, Try.ntmps5
  go_wp2
  go_ret
  exact ⟨by first | rfl | simp, by first | rfl | simp⟩
theorem new_par (w : World) (B : Nat) (d : Int) (hd : 0 ≤ d ∧ d < 1000) (hc : w.cell? ⟨B, 3, none⟩ = some (.int .i64 d)) : Calls Try.prog 5 #[.pointer (some ⟨B, 0, none⟩)] w fun e w' => e = .returned (.pointer (some ⟨w.heap.size + 2, 0, none⟩)) ∧ w' = (((w.alloc (.map #[] 0)).alloc (.map #[] 0)).alloc (.cells #[.pointer (some ⟨B, 0, none⟩), .map (some w.heap.size), .map (some (w.heap.size + 1)), .int .i64 (d + 1)] 62)) := by
  have hmm := @run_makeMap Try.prog
  have hB : B < w.heap.size := World.block_lt_of_cell? _ _ hc
  have hc3 := fun o1 o2 o3 => cell_ext ((((Ext.refl w).alloc o1).alloc o2).alloc o3) hc
  obtain ⟨h1, h2⟩ := hd
  go_enter Try.func5, Try.ntmps5
  go_wp2
  go_ret
  exact ⟨by first | rfl | simp, by first | rfl | simp⟩
end Go.Proofs.Ytdkgiklbmbkdaaa
