/- BitvecCuts, for every input: the walk. -/
import Derived.Test.YtmjikdkdccnbaaaDoorPc
import Derived.Test.YtmjikdkdccnbaaaDoorPg
namespace Go.Proofs.YtmjikdkdccnbaaaDoor
open Go.ChangeShapes Go.WideShapes Go.RowKit Bv

theorem Sl.drop1 {w : World} {a : Addr} {n k : Nat} {xs : List Value} (h : Sl w 1 (some a) n xs) (hk : k ≤ n) : Sl w 1 (some (a.add k)) (n - k) (xs.drop k) := by
  refine ⟨by have := h.1; simp; omega, fun h0 => ?_⟩
  obtain ⟨a', e, hb, hc⟩ := h.2 (by omega)
  cases e
  refine ⟨_, rfl, by rw [addr_block]; exact hb, fun j u hu => ?_⟩
  rw [addr_add]
  refine hc (k + j) u ?_
  rwa [List.getElem?_drop] at hu
theorem intoLo (y : Int) (n a : Nat) (h : a ≤ n) : intoI y (a : Int) (n : Int) = ((max a (clampN y n) : Nat) : Int) := by
  unfold intoI clampN
  split
  · omega
  · split <;> omega
set_option maxHeartbeats 1000000
set_option maxRecDepth 100000 in
theorem cuts_main (w : World) (ht : Tab w) (A : Option Addr) (l : List Bool) (c : Nat) (hc : l.length ≤ c) (hs : Sl w 1 A l.length (bools l)) (x y : Int) (hl : l.length ≤ 1000) :
    Calls Tryd.prog 6 #[.slice A l.length c, .int .i64 x, .int .i64 y] w fun e w' => e = .returned (.bool true) ∧ Ext w w' := by
  have PK := Lib.hid (fun w1 h1 => pack_any A c l w1 (by omega) hc h1)
  have HT := Lib.hid ht
  have HS := Lib.hid hs
  have hka := clampN_le x l.length
  have hkb := clampN_le y l.length
  have hia := into_clamp x l.length
  have hib := intoLo y l.length (clampN x l.length) hka
  have CU := Lib.hid (fun v w1 (h1 : IsB w1 v l) => cut_any v l x y w1 h1)
  obtain ⟨a, ha⟩ : ∃ a, clampN x l.length = a := ⟨_, rfl⟩
  obtain ⟨b, hb⟩ : ∃ b, max a (clampN y l.length) = b := ⟨_, rfl⟩
  rw [ha] at hka hia hib CU
  rw [hb] at hib CU
  have hab : a ≤ b := by omega
  have hbn : b ≤ l.length := by omega
  obtain ⟨m, hm⟩ : ∃ m, l.length = m := ⟨_, rfl⟩
  have HN := Lib.hid hm
  rw [hm] at PK HS hia hib hbn hl hc ⊢
  have IA := Lib.hid (fun w1 => into_any x 0 (m : Int) w1)
  have IB := Lib.hid (fun w1 => into_any y (a : Int) (m : Int) w1)
  rw [hia] at IA
  rw [hib] at IB
  clear ht hs hia hib ha hb hka hkb hm
  have hcl : (cutL l a (b - a)).length = b - a := cutL_length l a (b - a) (by rw [HN.out]; omega)
  have hbl : bools (cutL l a (b - a)) = ((bools l).drop a).take (b - a) := by simp [bools, cutL]
  have h0a : (0 : Int) ≤ (a : Int) := by omega
  have hab' : (a : Int) ≤ (b : Int) := by omega
  have hbc : (b : Int) ≤ (c : Int) := by omega
  have hA2 : ∃ A2, (if c = a then A else A.map (·.add a)) = A2 ∧ Sl w 1 A2 (b - a) (bools (cutL l a (b - a))) := by
    refine ⟨_, rfl, ?_⟩
    rw [hbl]
    cases A with
    | none =>
      have h0 : m = 0 := by
        rcases Nat.eq_zero_or_pos m with h | h
        · exact h
        · obtain ⟨z, e, _⟩ := HS.out.2 (by omega); cases e
      have hz : b - a = 0 := by omega
      rw [hz]
      exact ⟨by simp, fun h => by omega⟩
    | some g =>
      by_cases hca : c = a
      · have hz : b - a = 0 := by omega
        rw [hz]
        exact ⟨by simp, fun h => by omega⟩
      · rw [if_neg hca]
        exact (HS.out.drop1 (show a ≤ m by omega)).take (by omega)
  obtain ⟨A2, hA2, hs2⟩ := hA2
  have HS2 := Lib.hid hs2
  have SH := Lib.hid (fun v w1 h1 h2 => shows_any v (cutL l a (b - a)) A2 (c - a) w1 h1 h2)
  rw [hcl] at SH
  clear hcl hbl hs2 hab hbn hc
  go_enter Tryd.func6, Tryd.ntmps6
  go_wp2_with fail
  refine (IA.out _).mono ?_
  rintro e w1 ⟨rfl, rfl⟩
  go_wp2_with fail
  refine (IB.out _).mono ?_
  rintro e w1 ⟨rfl, rfl⟩
  go_wp2_with fail
  have hE0 := Lib.hid (Ext.refl w).drew
  go_region_held3 (fun w' => Ext w w') ((go_split_ands; first | exact hE0.out | exact Ext.trans (by assumption) hx))
    (first
      | (go_at_call 10; refine (PK.out _ (HS.out.ext (by go_split_ands; assumption))).mono ?_; rintro e w1 ⟨v, rfl, hb, hx⟩)
      | (go_at_call 24; refine (CU.out _ _ hb.is).mono ?_; rintro e w2 ⟨v2, rfl, hb2, hx⟩)
      | (go_at_call 11; refine (SH.out _ _ hb2.is (HS2.out.ext (by go_split_ands; assumption))).mono ?_; rintro e w3 ⟨rfl, hx⟩)
      | (go_at_call 9; refine (awake_any _ (HT.out.ext (by go_split_ands; assumption))).mono ?_; rintro e w4 ⟨rfl, hx⟩))
  go_wp2
  go_ret
  exact ⟨rfl, by assumption⟩
theorem bitvecCuts_walk (w : World) (ht : Tab w) (A : Option Addr) (l : List Bool) (c : Nat) (hc : l.length ≤ c) (_ : c ≤ maxLen) (hs : Sl w 1 A l.length (bools l)) (_ : ∀ x ∈ l, True) (x : Int) (_ : (Lit.int .i64 x).wf = true) (y : Int) (_ : (Lit.int .i64 y).wf = true) :
    Calls Tryd.prog 6 #[.slice A l.length c, .int .i64 x, .int .i64 y] w fun e w' => e = .returned (.bool true) ∧ Ext w w' := by
  by_cases h1 : l.length ≤ 1000
  · exact cuts_main w ht A l c hc hs x y h1
  · have ct := awake_any w ht
    clear hs ht hc
    generalize l.length = m at *
    go_enter Tryd.func6, Tryd.ntmps6
    go_wp2_with fail
    refine ct.mono ?_
    rintro e w1 ⟨rfl, hx⟩
    go_wp2
    go_ret
    exact ⟨rfl, hx⟩
end Go.Proofs.YtmjikdkdccnbaaaDoor
