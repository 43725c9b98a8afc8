/- OrderSorted: the walk that joins its cases. -/
import Derived.Test.YtidnikndjhfgaaaTs
namespace Go.Proofs.Ytidnikndjhfgaaa
open Go.ChangeShapes Go.WideShapes Go.RowKit Bv Fl
set_option maxHeartbeats 2000000
set_option maxRecDepth 100000
theorem plK_length (p : Pl) : p.its.length = (plK p).length := by simp [plK]
theorem orderSorted_walk (w : World) (p : Pl) (n : Nat) (hp : Deep n w p) (size : Int) (_ : (Lit.int .i64 size).wf = true) (down : Bool) (_ : True) (A : Option Addr) (a : List Int) (c : Nat) (_ : a.length ≤ c) (_ : c ≤ maxLen) (hs : Sl w 1 A a.length (a.map fun x => .int .i64 x)) (_ : ∀ x ∈ a, (Lit.int .i64 x).wf = true) :
    Calls Try.prog 5 #[p.val, .int .i64 size, .bool down, .slice A a.length c] w fun e w' => e = .returned (.bool true) ∧ Ext w w' := by
  obtain ⟨zc, hg, hck⟩ := plCheck n w p hp
  have cg : ∀ w', Ext w w' → Calls Try.prog 14 #[p.val] w' (GoodB p.its.length zc p.fill w') := fun w' hx =>
    ogood_any _ _ _ _ _ _ _ _ w' (fun w2 h2 => plcount_any n w2 p 3000 (hp.ext (hx.trans h2))) (fun w2 h2 => hck w2 (hx.trans h2))
  by_cases h1 : size < 1
  · exact osorted_b1 _ _ _ _ _ _ _ zc A a.length c down w cg size h1
  by_cases h2 : 300 < size
  · exact osorted_b2 _ _ _ _ _ _ _ zc A a.length c down w cg size h1 h2
  by_cases h3 : 300 < (a.length : Int)
  · exact osorted_b3 _ _ _ _ _ _ _ zc A a.length c down w cg size h1 h2 h3
  obtain ⟨z, rfl⟩ : ∃ z : Nat, size = z := ⟨size.toNat, by omega⟩
  have hl := plK_length p
  have hs' : Sl w 1 A a.length (i64s a) := hs
  obtain ⟨N, hN⟩ : ∃ N, p.its.length / z = N := ⟨_, rfl⟩
  have hz : 1 ≤ z := by omega
  have ht := lessZ_tot (plK p) z N down
  have hGl := gradeL_length (fun x y => lessZ (plK p) z x y down) N N
  have hsg := srt_grade (plK p) z down N ht
  have hiff := fun h => srt_iff (plK p) z down N ht (a := a) h
  refine osorted_main _ _ _ _ _ _ _ zc A a.length c down w cg (plK p) (gradeL (fun x y => lessZ (plK p) z x y down) N N) a z N (decide (a = gradeL (fun x y => lessZ (plK p) z x y down) N N)) hz (by omega) (by omega) hs'
    (fun hz hf w' hx => tidy_p n w w' p (hg hz) hx hf) (fun hz hf w' hx => lOf_p n w w' p (hg hz) hx hf)
    (fun hm B cB L w' ho => grade_any B _ cB _ (plK p) z N down w' ho hz (by omega) (by omega) hN)
    (fun v B cB w' hv hB => ?_) (fun v w' hv hA => ?_) (fun B cB w' hA hB => ?_) (fun v w' hv => sorted_zero v hv.flat down w')
  · have := sorted_go v (plK p) z N down B _ hGl.symm cB w' hv hz (by omega) (by rw [← hl]; exact hN) hB
    rw [hsg] at this
    exact this
  · by_cases e : a.length = N
    · have := sorted_go v (plK p) z a.length down A a rfl c w' hv hz (by omega) (by rw [← hl, hN, e]) hA
      rw [show srtZ (plK p) z down a a.length = decide (a = gradeL (fun x y => lessZ (plK p) z x y down) N N) by rw [e]; exact hiff e] at this
      exact this
    · have := sorted_len v (plK p) z N a.length down A c w' hv hz (by rw [← hl]; exact hN) e
      rw [show decide (a = gradeL (fun x y => lessZ (plK p) z x y down) N N) = false from decide_eq_false fun h => e (by rw [h]; exact hGl)]
      exact this
  · refine (intsZ_any A B a _ a.length N c cB rfl hGl.symm w' (by omega) hA hB).mono fun e w2 h => ?_
    obtain ⟨h1, m, rfl⟩ := h
    exact ⟨h1, (Ext.refl w').drewN m⟩
end Go.Proofs.Ytidnikndjhfgaaa
