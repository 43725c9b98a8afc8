/- The chapter's example; VecChars's walk. -/
import Derived.Test.YtmjikdkdccnbaaaVl
import Derived.Test.YtmjikdkdccnbaaaOs
namespace Go.Proofs.Ytmjikdkdccnbaaa
open Go.RowKit Bv Fl

/-- what a literal slice leaves -/
theorem Sl.lit (w : World) (us : Array Value) (t : TypeId) : Sl (w.alloc (.cells us t)) 1 (some ⟨w.heap.size, 0, none⟩) us.size us.toList := by
  refine ⟨by simp, fun _ => ⟨_, rfl, by simp, fun j u hu => ?_⟩⟩
  rw [show (Addr.add ⟨w.heap.size, 0, none⟩ j) = ⟨w.heap.size, j, none⟩ by unfold Addr.add; split <;> simp_all]
  rw [World.cell?_alloc_new]
  simpa using hu

set_option maxHeartbeats 1000000
theorem awake_any (w : World) : Calls Try.prog 8 #[] w fun e w' => e = .returned (.bool true) ∧ Ext w w' := by
  have hs : Sl (w.alloc (.cells #[.int .i8 3, .int .i8 (-4)] 50)) 1 (some ⟨w.heap.size, 0, none⟩) 2 (i8s [3, -4]) := Sl.lit w #[.int .i8 3, .int .i8 (-4)] 50
  have hb : ∀ x ∈ ([3, -4] : List Int), -128 ≤ x ∧ x ≤ 127 := by intro x hx; simp at hx; omega
  have hc0 := vsmalls_any (some ⟨w.heap.size, 0, none⟩) [3, -4] 2 rfl hb 2 _ (by omega) hs
  have hn : (VD.smalls [3, -4]).numI 1 = 13839561654909534208 := by kernel_rfl
  clear hs hb
  go_enter Try.func8, Try.ntmps8
  go_wp2_with fail
  refine hc0.mono ?_
  rintro e w1 ⟨v, rfl, hv, hx⟩
  obtain ⟨a1, n1, k1, bn, a3, n3, k3, a4, n4, k4, a5, n5, k5, a6, n6, k6, a7, n7, k7, rfl⟩ := hv.shape
  obtain ⟨d, hk, hcl, hln, hnm, HV⟩ : ∃ d : VD, ((d.kind : Nat) : Int) = 2 ∧ ((d.cls : Nat) : Int) = 0 ∧ ((d.len : Nat) : Int) = 2 ∧ d.numI 1 = 13839561654909534208 ∧ Hid (IsVec w1 (.agg #[.int .i64 2, .slice a1 n1 k1, .int .i64 bn, .slice a3 n3 k3, .slice a4 n4 k4, .slice a5 n5 k5, .slice a6 n6 k6, .slice a7 n7 k7]) d) := ⟨VD.smalls [3, -4], rfl, rfl, rfl, hn, hv⟩
  have HE := Lib.hid (((Ext.refl w).alloc _).trans hx)
  clear hv hx hc0 hn
  rw [show (((VD.smalls [3, -4]).kind : Nat) : Int) = 2 from rfl]
  have HX := Lib.hid ((Ext.refl w1).alloc (.cells #[.int .i64 2, .slice a1 n1 k1, .int .i64 bn, .slice a3 n3 k3, .slice a4 n4 k4, .slice a5 n5 k5, .slice a6 n6 k6, .slice a7 n7 k7] 34))
  have HB := Lib.hid (Ext.refl (w1.alloc (.cells #[.int .i64 2, .slice a1 n1 k1, .int .i64 bn, .slice a3 n3 k3, .slice a4 n4 k4, .slice a5 n5 k5, .slice a6 n6 k6, .slice a7 n7 k7] 34)))
  have HV := Lib.hid (HV.out.ext HX.out)
  have HE := Lib.hid (HE.out.trans HX.out)
  clear HX
  have HX := HB
  obtain ⟨hc, hf⟩ := HX.out.cells
  go_wp2_with fail
  refine (vkind_any _ d _ (HV.out.ext HX.out)).mono ?_
  rintro e w' ⟨rfl, hx⟩
  replace HX := Lib.hid (HX.out.trans hx)
  clear hc hf hx
  obtain ⟨hc, hf⟩ := HX.out.cells
  rw [hk]
  go_wp2_with fail
  refine (vclass_any _ d _ (HV.out.ext HX.out)).mono ?_
  rintro e w' ⟨rfl, hx⟩
  replace HX := Lib.hid (HX.out.trans hx)
  clear hc hf hx
  obtain ⟨hc, hf⟩ := HX.out.cells
  rw [hcl]
  go_wp2_with fail
  refine (vnum_any _ d 1 _ (HV.out.ext HX.out)).mono ?_
  rintro e w' ⟨rfl, hx⟩
  replace HX := Lib.hid (HX.out.trans hx)
  clear hc hf hx
  obtain ⟨hc, hf⟩ := HX.out.cells
  rw [hnm]
  go_wp2_with fail
  refine (vlen_any _ d _ (HV.out.ext HX.out)).mono ?_
  rintro e w' ⟨rfl, hx⟩
  replace HX := Lib.hid (HX.out.trans hx)
  clear hc hf hx
  obtain ⟨hc, hf⟩ := HX.out.cells
  rw [hln]
  go_wp2
  go_ret
  exact ⟨rfl, HE.out.trans HX.out⟩
end Go.Proofs.Ytmjikdkdccnbaaa
