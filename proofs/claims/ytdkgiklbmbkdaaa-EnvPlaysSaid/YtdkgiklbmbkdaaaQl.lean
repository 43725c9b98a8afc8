/- Contracts of squeeze: Tight, Numbers, Common. -/
import Derived.Test.YtdkgiklbmbkdaaaQj
namespace Go.Proofs.Ytdkgiklbmbkdaaa
open Go.RowKit Bv Fl
attribute [local go_sem ↓] Go.wp_at_zero Go.wp_at_succ
set_option maxHeartbeats 1000000
/-- Floats, at numbers all of them -/
def NewNum (k : Nat) (l : List Nat) (w : World) (e : Ending) (w' : World) : Prop := ∃ v, e = .returned (.tuple #[v, .bool true]) ∧ NumS w' v k l (New w.heap.size) ∧ Ext w w'
theorem floats_yes (A : Option Addr) (l : List Nat) (n : Nat) (hn : n = l.length) (hw : ∀ x ∈ l, x < 18446744073709551616) (hf : allF l = true) (c : Nat) (w : World) (hl : n ≤ 1048576) (hs : Sl w 1 A n (f64s l)) : Calls Try.prog 36 #[.slice A n c] w (NewNum 4 (dnL l) w) := by
  refine (vfloats_own A l n hn c w hl hs).mono ?_
  rintro e w' ⟨B, cb, rfl, ho, hx⟩
  rw [hf] at ho ⊢
  refine ⟨_, rfl, ?_, hx⟩
  have hh := ho rfl
  refine NumS.mk (IsNum.mk4 ?_) (In.one (A := B) (n := n) (c := cb) (fun a ha => ?_) (.inr rfl) ⟨_, rfl⟩ (.inr rfl) (.inr rfl) (.inl rfl) (.inr rfl) (.inr rfl))
  · exact isvec_floats (by rw [dnL_length]; exact hn) hl (dnL_tidy hw) (Sl.own hh)
  · obtain ⟨A', c', e', _, hA⟩ := own_form hh
    cases e'
    exact (hA a ha).1
theorem numbers_yes (A : Option Addr) (l : List Nat) (n : Nat) (hn : n = l.length) (hw : ∀ x ∈ l, x < 18446744073709551616) (hf : allF l = true) (c : Nat) (w : World) (hl : n ≤ 1048576) (hs : Sl w 1 A n (f64s l)) : Calls Try.prog 28 #[.slice A n c] w (NewNum (leastL (dnL l)) (dnL l) w) := by
  have cf := fun w hs => floats_yes A l n hn hw hf c w hl hs
  have HS := hs
  clear hs hn hw hf
  generalize dnL l = L at *
  have cq := fun v w h => squeeze_num v 4 L w h
  generalize leastL L = r at *
  go_enter Try.func28, Try.ntmps28
  go_wp2_with (refine allocsV rfl rfl ?_; intro B2 w2 b2 c2 x2 L2 R2)
  refine (cf _ (HS.ext x2)).mono ?_
  rintro e w3 ⟨v, rfl, N1, x3⟩
  have hF := N1.is.flat
  replace N1 := N1.now
  replace R2 := R2.ext x3
  have z3 := x3.size
  clear HS cf
  go_wp2_with (first | (refine allocsV rfl rfl ?_; intro B4 w4 b4 c4 x4 L4 R4; replace N1 := N1.ext x4; replace R2 := R2.ext x4; have z4 := x4.size) | (refine storesV rfl rfl rfl (v := v) rfl R4 hF ?_; intro w5 g5 L5 R5; replace N1 := N1.grown g5 (by dsimp only [New]; omega); replace R2 := R2.grown g5 (by omega); have z5 := g5.size; have x5 := grown_ext (x2.trans (x3.trans x4)) g5 (by omega)) | (refine loadsV rfl rfl rfl L5 ?_))
  refine (cq v _ N1.is).mono ?_
  rintro e w6 ⟨v2, rfl, hq, x6⟩
  have N2 := hq _ N1
  have hF2 := N2.is.flat
  replace R2 := R2.ext x6
  have z6 := x6.size
  clear hq cq
  go_wp2_with (refine storesV rfl rfl rfl (v := v2) rfl R2 hF2 ?_; intro w7 g7 L7 R7)
  have N3 := N2.grown g7 (by dsimp only [New]; omega)
  exact bodyPost_ret (results_lay2 rfl rfl rfl (ldV L7)) rfl ⟨v2, rfl, N3.mono (fun i _ h => by dsimp only [New] at *; omega), grown_ext (x5.trans x6) g7 (by omega)⟩
end Go.Proofs.Ytdkgiklbmbkdaaa
