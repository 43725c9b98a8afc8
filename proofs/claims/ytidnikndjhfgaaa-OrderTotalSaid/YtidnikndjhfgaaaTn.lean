/- OrderCells: the walk that joins its cases. -/
import Derived.Test.YtidnikndjhfgaaaTl
import Derived.Test.YtidnikndjhfgaaaTm
namespace Go.Proofs.Ytidnikndjhfgaaa
open Go.ChangeShapes Go.WideShapes Go.RowKit Bv Fl
set_option maxHeartbeats 2000000
set_option maxRecDepth 100000
theorem Deep.itmax {n : Nat} {w : World} {p : Pl} (h : Deep n w p) : p.its.length ≤ 9223372036854775807 := by
  cases n with
  | zero => exact h.elim
  | succ n =>
    have := h.1.itL
    simp only [maxLen] at *
    omega
theorem plK_len (p : Pl) : p.its.length = (plK p).length := by simp [plK]
theorem orderCells_walk (w : World) (p : Pl) (n : Nat) (hp : Deep n w p) (size : Int) (_ : (Lit.int .i64 size).wf = true) (i : Int) (_ : (Lit.int .i64 i).wf = true) (k : Int) (_ : (Lit.int .i64 k).wf = true) (down : Bool) (_ : True) :
    Calls Try.prog 4 #[p.val, .int .i64 size, .int .i64 i, .int .i64 k, .bool down] w fun e w' => e = .returned (.bool true) ∧ Ext w w' := by
  obtain ⟨zc, hg, hck⟩ := plCheck n w p hp
  have cg : ∀ w', Ext w w' → Calls Try.prog 14 #[p.val] w' (GoodB p.its.length zc p.fill w') := fun w' hx =>
    ogood_any _ _ _ _ _ _ _ _ w' (fun w2 h2 => plcount_any n w2 p 3000 (hp.ext (hx.trans h2))) (fun w2 h2 => hck w2 (hx.trans h2))
  have hm := hp.itmax
  by_cases h1 : size < 1
  · exact ocells_b1 _ _ _ _ _ _ _ zc w cg size i k down h1
  by_cases h2 : 300 < size
  · exact ocells_b2 _ _ _ _ _ _ _ zc w cg size i k down h1 h2
  by_cases h3 : i < 0
  · exact ocells_b3 _ _ _ _ _ _ _ zc w cg size i k down h1 h2 h3
  by_cases h4 : k < 0
  · exact ocells_b4 _ _ _ _ _ _ _ zc w cg size i k down h1 h2 h3 h4
  obtain ⟨z, rfl⟩ : ∃ z : Nat, size = z := ⟨size.toNat, by omega⟩
  obtain ⟨i, rfl⟩ : ∃ z : Nat, i = z := ⟨i.toNat, by omega⟩
  obtain ⟨k, rfl⟩ : ∃ z : Nat, k = z := ⟨k.toNat, by omega⟩
  by_cases h5 : p.its.length / z ≤ i
  · exact ocells_b5 _ _ _ _ _ _ _ zc w cg z _ i k down (by omega) (by omega) hm rfl h5
  by_cases h6 : p.its.length / z ≤ k
  · exact ocells_b6 _ _ _ _ _ _ _ zc w cg z _ i k down (by omega) (by omega) hm rfl h5 h6
  exact ocells_main _ _ _ _ _ _ _ zc w cg z _ i k down (by omega) (by omega) hm rfl (plK p) (plK_len p)
    (fun hz hf w' hx => tidy_p n w w' p (hg hz) hx hf) (fun hz hf w' hx => lOf_p n w w' p (hg hz) hx hf) h5 h6
end Go.Proofs.Ytidnikndjhfgaaa
