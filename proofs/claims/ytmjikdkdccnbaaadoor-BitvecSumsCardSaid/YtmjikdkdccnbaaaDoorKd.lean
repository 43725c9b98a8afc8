/- BitvecSums: the walk, whole. -/
import Derived.Test.YtmjikdkdccnbaaaDoorKc
namespace Go.Proofs.YtmjikdkdccnbaaaDoor
open Go.ChangeShapes Go.WideShapes Go.RowKit Bv
set_option maxHeartbeats 1000000
theorem bitvecSums_walk (w : World) (ht : Tab w) (A : Option Addr) (l : List Bool) (c : Nat) (hc : l.length ≤ c) (_ : c ≤ maxLen) (hs : Sl w 1 A l.length (bools l)) (_ : ∀ x ∈ l, True) (a : Int) (ha : (Lit.int .u16 a).wf = true) :
    Calls Tryd.prog 7 #[.slice A l.length c, .int .u16 a] w fun e w' => e = .returned (.bool true) ∧ Ext w w' := by
  by_cases h1 : l.length ≤ 1500
  · have ha2 : 0 ≤ a ∧ a < 65536 := by
      have h : IntKind.u16.min ≤ a ∧ a ≤ IntKind.u16.max := by simpa [Lit.wf] using ha
      have e1 : IntKind.u16.min = 0 := rfl
      have e2 : IntKind.u16.max = 65535 := rfl
      omega
    obtain ⟨at_, rfl⟩ : ∃ z : Nat, a = z := ⟨a.toNat, by omega⟩
    obtain ⟨k, hk⟩ : ∃ k, at_ % (l.length + 1) = k := ⟨_, rfl⟩
    have hkl : k ≤ l.length := by have := Nat.mod_lt at_ (show 0 < l.length + 1 by omega); omega
    have hki : (at_ : Int).tmod ((l.length : Int) + 1) = (k : Int) := by
      rw [Int.tmod_eq_emod_of_nonneg (by omega), ← hk]; simp
    have hl1 : (cutL l 0 k).length = k := cutL_length l 0 k (by omega)
    have hl2 : (cutL l k (l.length - k)).length = l.length - k := cutL_length l k _ (by omega)
    have hn1 : cnt (cutL l 0 k) (cutL l 0 k).length = cnt l k := by
      rw [hl1]; have := cut_cnt l 0 k; simp [cnt] at this; simpa using this
    have hn2 : cnt l k + cnt (cutL l k (l.length - k)) (cutL l k (l.length - k)).length = cnt l l.length := by
      rw [hl2, cut_cnt, show k + (l.length - k) = l.length by omega]
    have hf2 : fst1 (cutL l k (l.length - k)) ≤ 1500 := by have := fst1_le (cutL l k (l.length - k)); omega
    have b1 := cnt_le l k
    have b2 : cnt (cutL l k (l.length - k)) (cutL l k (l.length - k)).length ≤ 1500 := by have := cnt_le (cutL l k (l.length - k)) (cutL l k (l.length - k)).length; omega
    have ct := fun w' (hx : Ext w w') => awake_any w' (ht.ext hx)
    have PK : ∀ w', Ext w w' → Calls Tryd.prog 10 #[.slice A l.length c] w' fun e w2 => ∃ v, e = .returned v ∧ BitS w2 v l (New w'.heap.size) ∧ Ext w' w2 := fun w' hx => (pack_any A c l w' (by omega) hc (hs.ext hx)).mono fun e w2 ⟨v, h1, h2, h3⟩ => ⟨v, h1, h2.bs, h3⟩
    have C1 : ∀ v w', IsB w' v l → Calls Tryd.prog 24 #[v, .int .i64 0, .int .i64 (k : Int)] w' fun e w2 => ∃ v, e = .returned v ∧ BitS w2 v (cutL l 0 k) (New w'.heap.size) ∧ Ext w' w2 := fun v w' h => (cut_any v l 0 (k : Int) w' h).mono fun e w2 ⟨v, h1, h2, h3⟩ => ⟨v, h1, by
      have e0 : clampN 0 l.length = 0 := by unfold clampN; omega
      rw [e0, clampN_nat hkl, Nat.zero_max, Nat.sub_zero] at h2
      exact h2.bs, h3⟩
    have C2 : ∀ v w', IsB w' v l → Calls Tryd.prog 24 #[v, .int .i64 (k : Int), .int .i64 (l.length : Int)] w' fun e w2 => ∃ v, e = .returned v ∧ BitS w2 v (cutL l k (l.length - k)) (New w'.heap.size) ∧ Ext w' w2 := fun v w' h => (cut_any v l (k : Int) (l.length : Int) w' h).mono fun e w2 ⟨v, h1, h2, h3⟩ => ⟨v, h1, by
      rw [clampN_nat hkl, clampN_nat (Nat.le_refl _), Nat.max_eq_right hkl] at h2
      exact h2.bs, h3⟩
    have cL : ∀ v w', IsB w' v l → Calls Tryd.prog 17 #[v] w' fun e w2 => e = .returned (.int .i64 ((cnt l k : Int) + (cnt (cutL l k (l.length - k)) (cutL l k (l.length - k)).length : Int))) ∧ Ext w' w2 := fun v w' h => (count_any v l w' h).mono fun e w2 h => ⟨by rw [h.1, ← hn2]; simp, h.2⟩
    have cX : ∀ v w', IsB w' v (cutL l 0 k) → Calls Tryd.prog 17 #[v] w' fun e w2 => e = .returned (.int .i64 (cnt l k : Int)) ∧ Ext w' w2 := fun v w' h => (count_any v _ w' h).mono fun e w2 h => ⟨by rw [h.1, hn1], h.2⟩
    have cY := fun v w' h => count_any v (cutL l k (l.length - k)) w' h
    have cR : ∀ v w', IsB w' v l → Calls Tryd.prog 20 #[v, .int .i64 (k : Int)] w' fun e w2 => e = .returned (.int .i64 (cnt l k : Int)) ∧ Ext w' w2 := fun v w' h => (rank_any v l (k : Int) w' h).mono fun e w2 h => ⟨by rw [h.1, clampN_nat hkl], h.2⟩
    have gX := fun v w' (hx : Ext w w') h => first_any v (cutL l 0 k) w' h (ht.ext hx)
    have gY := fun v w' (hx : Ext w w') h => first_any v (cutL l k (l.length - k)) w' h (ht.ext hx)
    by_cases h0 : 0 < cnt l k
    · have gL : ∀ v w', Ext w w' → IsB w' v l → Calls Tryd.prog 21 #[v] w' fun e w2 => e = .returned (.int .i64 (fst1 (cutL l 0 k) : Int)) ∧ Ext w' w2 := fun v w' hx h => (first_any v l w' h (ht.ext hx)).mono fun e w2 h => ⟨by rw [h.1, cut_first_lo l k hkl h0], h.2⟩
      exact bsums_lo A l.length c at_ k w l (cutL l 0 k) (cutL l k (l.length - k)) ct PK C1 C2 _ _ _ _ ⟨by omega, b2, hf2, by omega⟩ cL cX cY cR gL gX gY (by omega) h1 (by omega) hki h0
    · have gL : ∀ v w', Ext w w' → IsB w' v l → Calls Tryd.prog 21 #[v] w' fun e w2 => e = .returned (.int .i64 ((fst1 (cutL l k (l.length - k)) : Int) + (k : Int))) ∧ Ext w' w2 := fun v w' hx h => (first_any v l w' h (ht.ext hx)).mono fun e w2 h => ⟨by rw [h.1, ← cut_first_hi l k hkl (by omega)]; simp, h.2⟩
      exact bsums_hi A l.length c at_ k w l (cutL l 0 k) (cutL l k (l.length - k)) ct PK C1 C2 _ _ _ _ ⟨by omega, b2, hf2, by omega⟩ cL cX cY cR gL gX gY (by omega) h1 (by omega) hki (by omega)
  · have ct := awake_any w ht
    clear hs ht hc
    generalize l.length = m at *
    go_enter Tryd.func7, Tryd.ntmps7
    go_wp2_with fail
    refine ct.mono ?_
    rintro e w1 ⟨rfl, hx⟩
    go_wp2
    go_ret
    exact ⟨rfl, hx⟩
end Go.Proofs.YtmjikdkdccnbaaaDoor
