/- slices.Clone at the program's element types. -/
import Derived.Test.YtdkgiklbmbkdaaaHp
namespace Go.Proofs.Ytdkgiklbmbkdaaa
open Go.RowKit

theorem run_buildSlice_none {P : Program} (t e : TypeId) (ht : P.underlying t = some (.slice e)) (hi : (P.info? e).isSome = true) (w : World) : (Instr.buildSlice t 0 #[]).run P w = .ok (.slice (some ⟨w.heap.size, 0, none⟩) 0 0) (w.alloc (.cells #[] e)) := by
  obtain ⟨i, hi⟩ := Option.isSome_iff_exists.1 hi
  have h0 : Array.range 0 = #[] := Array.eq_empty_of_size_eq_zero (by simp)
  simp [Instr.buildSlice, run_underlying ht, sizeOf, typeInfo, hi, Instr.fill, newRow, h0]
set_option maxHeartbeats 400000
def nilS : Value := .slice none 0 0
def zeroArr : Value := .agg #[.slice none 0 0, .int .i64 0, .slice none 0 0, .int .i64 0, .slice none 0 0, .slice none 0 0, .slice none 0 0, .slice none 0 0, .slice none 0 0]
theorem infoI8 : (Try.prog.info? 92).map (fun i => (i.zero, i.size, i.bytes)) = some (some (.int .i8 0), 1, 1) := by kernel_rfl
theorem cloneI8 (A : Option Addr) (n c : Nat) (xs : List Value) (w : World) (hs : Sl w 1 A n xs) (h1 : ∀ u ∈ xs, u.oneCell' = true) (hn : n ≤ 2097152) :
    Calls Try.prog 81 #[.slice A n c] w fun e w' => ∃ v, e = .returned v ∧ w'.ownsRow w.heap.size 92 1 v n xs ∧ Ext w w' := by
  have heq := fun w : World => Lib.run_eql_slice_nil (P := Try.prog) w 41 92 A n c 0 0 Try.underlying41
  cases A with
  | none =>
    have h0 : n = 0 := by
      rcases Nat.eq_zero_or_pos n with h | h
      · exact h
      · obtain ⟨a, e, _⟩ := hs.2 (by omega); cases e
    subst h0
    have hx : xs = [] := List.eq_nil_of_length_eq_zero (by simpa using hs.1)
    subst hx
    go_enter Try.func81, Try.ntmps81
    go_wp2
    go_ret
    exact ⟨_, rfl, World.ownsRow_nil _ _ _ _, Ext.refl _⟩
  | some a =>
    obtain ⟨i0, hi0, hz0, hz1, hz2⟩ := info_parts infoI8
    have hbs := fun w : World => run_buildSlice_none (P := Try.prog) 41 92 Try.underlying41 (by kernel_rfl) w
    have ho := World.ownsRow_made (size := 1) (e := 92) (base := w.heap.size) w #[] 0 (Nat.le_refl _) (by simp only [maxLen]; omega) (by simp)
    go_enter Try.func81, Try.ntmps81
    go_wp2_with (at_builtin; refine wpList_append_sl _ rfl _ _ 41 rfl w.heap.size 92 i0 (.int .i8 0) 1 1 Try.underlying41 hi0 hz0 hz1 hz2 rfl (by omega) _ 0 [] rfl ho (some a) n c xs rfl (hs.alloc _) h1 (by omega) (by omega) (by simp) ?_; intro v' w1 hown hbel)
    go_ret
    refine ⟨_, rfl, by simpa using hown, ?_⟩
    exact ((Ext.refl w).alloc _).trans' hbel
theorem infoI64 : (Try.prog.info? 2).map (fun i => (i.zero, i.size, i.bytes)) = some (some (.int .i64 0), 1, 8) := by kernel_rfl
theorem cloneI64 (A : Option Addr) (n c : Nat) (xs : List Value) (w : World) (hs : Sl w 1 A n xs) (h1 : ∀ u ∈ xs, u.oneCell' = true) (hn : n ≤ 2097152) :
    Calls Try.prog 78 #[.slice A n c] w fun e w' => ∃ v, e = .returned v ∧ w'.ownsRow w.heap.size 2 1 v n xs ∧ Ext w w' := by
  have heq := fun w : World => Lib.run_eql_slice_nil (P := Try.prog) w 42 2 A n c 0 0 Try.underlying42
  cases A with
  | none =>
    have h0 : n = 0 := by
      rcases Nat.eq_zero_or_pos n with h | h
      · exact h
      · obtain ⟨a, e, _⟩ := hs.2 (by omega); cases e
    subst h0
    have hx : xs = [] := List.eq_nil_of_length_eq_zero (by simpa using hs.1)
    subst hx
    go_enter Try.func78, Try.ntmps78
    go_wp2
    go_ret
    exact ⟨_, rfl, World.ownsRow_nil _ _ _ _, Ext.refl _⟩
  | some a =>
    obtain ⟨i0, hi0, hz0, hz1, hz2⟩ := info_parts infoI64
    have hbs := fun w : World => run_buildSlice_none (P := Try.prog) 42 2 Try.underlying42 (by kernel_rfl) w
    have ho := World.ownsRow_made (size := 1) (e := 2) (base := w.heap.size) w #[] 0 (Nat.le_refl _) (by simp only [maxLen]; omega) (by simp)
    go_enter Try.func78, Try.ntmps78
    go_wp2_with (at_builtin; refine wpList_append_sl _ rfl _ _ 42 rfl w.heap.size 2 i0 (.int .i64 0) 1 8 Try.underlying42 hi0 hz0 hz1 hz2 rfl (by omega) _ 0 [] rfl ho (some a) n c xs rfl (hs.alloc _) h1 (by omega) (by omega) (by simp) ?_; intro v' w1 hown hbel)
    go_ret
    refine ⟨_, rfl, by simpa using hown, ?_⟩
    exact ((Ext.refl w).alloc _).trans' hbel
end Go.Proofs.Ytdkgiklbmbkdaaa
