/- BitvecCounts, for every input: the walk. -/
import Derived.Test.YtmjikdkdccnbaaaDoorPm
namespace Go.Proofs.YtmjikdkdccnbaaaDoor
open Go.ChangeShapes Go.WideShapes Go.RowKit Bv

theorem Sl.take {w : World} {A : Option Addr} {n k : Nat} {xs : List Value} (h : Sl w 1 A n xs) (hk : k ≤ n) : Sl w 1 A k (xs.take k) := by
  refine ⟨by have := h.1; simp; omega, fun h0 => ?_⟩
  obtain ⟨a, e, hb, hc⟩ := h.2 (by omega)
  refine ⟨a, e, hb, fun j u hu => hc j u ?_⟩
  rw [List.getElem?_take] at hu
  split at hu
  · exact hu
  · cases hu
theorem bools_take (l : List Bool) (k : Nat) : (bools l).take k = bools (l.take k) := by simp [bools]
theorem into_clamp (x : Int) (n : Nat) : intoI x 0 (n : Int) = (clampN x n : Int) := by
  unfold intoI clampN
  split
  · omega
  · split <;> omega
theorem first_ones (l : List Bool) (h : 0 < cnt l l.length) : (nats (onesL l l.length))[0]? = some (.int .i64 ((fst1 l : Nat) : Int)) := by
  have h1 := onesL_head l
  have h2 := onesL_length l l.length
  cases he : onesL l l.length with
  | nil => rw [he] at h2; simp at h2; omega
  | cons a t => rw [he] at h1; simp at h1; rw [← h1]; rfl
theorem qints_same (A A' : Option Addr) (a : List Nat) (n c c' : Nat) (hn : n = a.length) (w : World) (hl : n ≤ 1048576) (hs : Sl w 1 A n (nats a)) (hs' : Sl w 1 A' n (nats a)) : Calls Tryd.prog 22 #[.slice A n c, .slice A' n c'] w fun e w' => e = .returned (.bool true) ∧ ∃ m, w' = w.drewN m :=
  (qints_any A A' a a n n c c' hn hn w hl hs hs').mono fun e w' ⟨h, hx⟩ => ⟨by rw [h, decide_eq_true rfl], hx⟩
set_option maxHeartbeats 1000000
set_option maxRecDepth 100000 in
theorem counts_main (w : World) (ht : Tab w) (A : Option Addr) (l : List Bool) (c : Nat) (hc : l.length ≤ c) (hs : Sl w 1 A l.length (bools l)) (x : Int) (hl : l.length ≤ 2000) :
    Calls Tryd.prog 5 #[.slice A l.length c, .int .i64 x] w fun e w' => e = .returned (.bool true) ∧ Ext w w' := by
  have ct := pack_any A c l w (by omega) hc hs
  have HT := Lib.hid ht
  have HS := Lib.hid hs
  have hfo := first_ones l
  have hfz := cnt_zero l
  have hkl := clampN_le x l.length
  have hcx := clampN_nat (Nat.le_refl l.length)
  have hic := into_clamp x l.length
  have hst := (hs.take hkl)
  rw [bools_take] at hst
  have hctk := cnt_take l (clampN x l.length) (clampN x l.length) (Nat.le_refl _)
  have htl : (l.take (clampN x l.length)).length = clampN x l.length := by simp; omega
  obtain ⟨m, hm⟩ : ∃ m, l.length = m := ⟨_, rfl⟩
  have HN := Lib.hid hm
  rw [hm] at ct HS hfo hfz hkl hcx hic hst hctk htl hl hc ⊢
  have CT := Lib.hid ct
  have HK := Lib.hid (And.intro hcx (And.intro hic (And.intro hctk htl)))
  have HST := Lib.hid hst
  have hq := cnt_le l m
  have hq2 := cnt_le l (clampN x m)
  have HO0 : Hid ((onesL l m).length = cnt l m) := onesL_length l m
  obtain ⟨k, hk⟩ : ∃ k, clampN x m = k := ⟨_, rfl⟩
  have HKK := Lib.hid hk
  rw [hk] at HK HST hkl hq2
  clear ht hs hm ct hst hctk htl hcx hic hk
  have RK := Lib.hid (fun v w1 (h1 : IsB w1 v l) => rank_any v l x w1 h1)
  have hz : cnt l m = 0 ∨ 0 < cnt l m := by omega
  have HF : Hid ((cnt l m = 0 → fst1 l = m) ∧ (0 < cnt l m → (nats (onesL l m))[0]? = some (.int .i64 ((fst1 l : Nat) : Int)))) := ⟨hfz.1, hfo⟩
  clear hfo hfz
  go_enter Tryd.func5, Tryd.ntmps5
  go_wp2_with fail
  refine CT.out.mono ?_
  rintro e w1 ⟨v, rfl, hb, hx⟩
  have HV := Lib.hid hb.is
  obtain ⟨_, g, c1, rfl, _, _⟩ := hb
  replace HX := Lib.hid hx
  rw [HN.out] at HV ⊢
  clear hx CT
  go_wp2_with fail
  refine (rones_any A l m HN.out.symm c _ (by omega) (HS.out.ext HX.out)).mono ?_
  rintro e w2 ⟨v2, rfl, hown, hx2⟩
  obtain ⟨A2, c2, rfl, hc2, -⟩ := own_form hown
  have HE := Lib.hid ((HX.out.trans hx2).alloc (.cells #[.slice (some ⟨g, 0, none⟩) (wc m) c1, .int .i64 (m : Int)] 26))
  replace HV := Lib.hid ((HV.out.ext hx2).ext ((Ext.refl w2).alloc (.cells #[.slice (some ⟨g, 0, none⟩) (wc m) c1, .int .i64 (m : Int)] 26)))
  have HO := Lib.hid ((Sl.own hown).alloc (.cells #[.slice (some ⟨g, 0, none⟩) (wc m) c1, .int .i64 (m : Int)] 26))
  replace HT := Lib.hid (HT.out.ext HE.out)
  replace HST := Lib.hid (HST.out.ext HE.out)
  have HX := Lib.hid (Ext.refl (w2.alloc (.cells #[.slice (some ⟨g, 0, none⟩) (wc m) c1, .int .i64 (m : Int)] 26)))
  have hcc := True.intro
  have hf := True.intro
  clear hown hx2
  generalize wc m = mw at *
  have hcase : (cnt l m = 0 ∧ fst1 l = m) ∨ (0 < cnt l m ∧ ∃ a2, A2 = some a2 ∧ (w2.alloc (.cells #[.slice (some ⟨g, 0, none⟩) mw c1, .int .i64 (m : Int)] 26)).cell? a2 = some (.int .i64 ((fst1 l : Nat) : Int))) := by
    rcases hz with h | h
    · exact .inl ⟨h, HF.out.1 h⟩
    · obtain ⟨a2, u, e2, hab, hu, hcell⟩ := HO.out.at1 h
      rw [HF.out.2 h] at hu
      cases hu
      exact .inr ⟨h, a2, e2, hcell⟩
  have hff : (fst1 l : Int) ≤ m := by have := fst1_le l; rw [HN.out] at this; omega
  have FS := Lib.hid (fun v w1 (h1 : IsB w1 v l) h2 => first_any v l w1 h1 h2)
  have CN := Lib.hid (fun v w1 (h1 : IsB w1 v l) => count_any v l w1 h1)
  have RM := Lib.hid (fun v w1 (h1 : IsB w1 v l) => rank_any v l (m : Int) w1 h1)
  have ON := Lib.hid (fun v w1 (h1 : IsB w1 v l) h2 => ones_any v l w1 h1 h2)
  rw [HN.out] at CN RK RM ON
  rw [HKK.out] at RK
  rw [HK.out.1] at RM
  have IN := Lib.hid (fun w1 => into_any x 0 (m : Int) w1)
  rw [HK.out.2.1] at IN
  have RO := Lib.hid (fun w1 h1 => rones_any A (l.take k) k HK.out.2.2.2.symm c w1 (by omega) h1)
  rw [HK.out.2.2.1] at RO
  have QI := Lib.hid (fun A1 c3 w1 h1 h2 => qints_same A1 A2 (onesL l m) (cnt l m) c3 c2 HO0.out.symm w1 (by omega) h1 h2)
  clear hz HF HK
  generalize fst1 l = f at *
  generalize cnt l k = qk at *
  generalize cnt l m = q at *
  have hkl2 : (k : Int) ≤ (c : Int) := by omega
  have hkl0 : (0 : Int) ≤ (k : Int) := by omega
  clear hl hc hkl hq hq2 hc2 hff
  rcases hcase with ⟨rfl, rfl⟩ | ⟨hq0, a2, rfl, L0⟩
  all_goals
   go_wp2_with fail
   refine (IN.out _).mono ?_
   rintro e w3 ⟨rfl, rfl⟩
   go_wp2_with fail
   refine (RO.out _ HST.out).mono ?_
   rintro e w4 ⟨v4, rfl, hown, hx⟩
   obtain ⟨A4, c4, rfl, -, -⟩ := own_form hown
   replace HX := Lib.hid (HX.out.trans hx)
   clear hcc hf hx hown
   obtain ⟨hcc, hf⟩ := HX.out.cells
   go_wp2_with fail
   refine (CN.out _ _ (HV.out.ext HX.out)).mono ?_
   rintro e w5 ⟨rfl, hx⟩
   replace HX := Lib.hid (HX.out.trans hx)
   clear hcc hf hx
   obtain ⟨hcc, hf⟩ := HX.out.cells
   go_wp2_with fail
   refine (RK.out _ _ (HV.out.ext HX.out)).mono ?_
   rintro e w6 ⟨rfl, hx⟩
   replace HX := Lib.hid (HX.out.trans hx)
   clear hcc hf hx
   obtain ⟨hcc, hf⟩ := HX.out.cells
   go_wp2_with fail
   refine (RM.out _ _ (HV.out.ext HX.out)).mono ?_
   rintro e w7 ⟨rfl, hx⟩
   replace HX := Lib.hid (HX.out.trans hx)
   clear hcc hf hx
   obtain ⟨hcc, hf⟩ := HX.out.cells
   go_wp2_with fail
   refine (FS.out _ _ (HV.out.ext HX.out) (HT.out.ext HX.out)).mono ?_
   rintro e w8 ⟨rfl, hx⟩
   replace HX := Lib.hid (HX.out.trans hx)
   clear hcc hf hx
   obtain ⟨hcc, hf⟩ := HX.out.cells
   go_wp2_with fail
   refine (ON.out _ _ (HV.out.ext HX.out) (HT.out.ext HX.out)).mono ?_
   rintro e w9 ⟨v9, rfl, hown, hx⟩
   obtain ⟨A9, c9, rfl, -, -⟩ := own_form hown
   have HO9 := Lib.hid (Sl.own hown)
   replace HX := Lib.hid (HX.out.trans hx)
   clear hcc hf hx hown
   obtain ⟨hcc, hf⟩ := HX.out.cells
   go_wp2_with fail
   refine (QI.out _ _ _ HO9.out (HO.out.ext HX.out)).mono ?_
   rintro e w10 ⟨rfl, hx⟩
   replace HX := Lib.hid (HX.out.trans (Ext.of_drewN' hx))
   clear hcc hf hx
   go_wp2_with fail
   refine (awake_any _ (HT.out.ext HX.out)).mono ?_
   rintro e w11 ⟨rfl, hx⟩
   replace HX := Lib.hid (HX.out.trans hx)
   clear hx
   go_wp2
   go_ret
   exact ⟨rfl, HE.out.trans HX.out⟩
theorem bitvecCounts_walk (w : World) (ht : Tab w) (A : Option Addr) (l : List Bool) (c : Nat) (hc : l.length ≤ c) (_ : c ≤ maxLen) (hs : Sl w 1 A l.length (bools l)) (_ : ∀ x ∈ l, True) (x : Int) (_ : (Lit.int .i64 x).wf = true) :
    Calls Tryd.prog 5 #[.slice A l.length c, .int .i64 x] w fun e w' => e = .returned (.bool true) ∧ Ext w w' := by
  by_cases h1 : l.length ≤ 2000
  · exact counts_main w ht A l c hc hs x h1
  · have ct := awake_any w ht
    clear hs ht hc
    generalize l.length = m at *
    go_enter Tryd.func5, Tryd.ntmps5
    go_wp2_with fail
    refine ct.mono ?_
    rintro e w1 ⟨rfl, hx⟩
    go_wp2
    go_ret
    exact ⟨rfl, hx⟩
end Go.Proofs.YtmjikdkdccnbaaaDoor
