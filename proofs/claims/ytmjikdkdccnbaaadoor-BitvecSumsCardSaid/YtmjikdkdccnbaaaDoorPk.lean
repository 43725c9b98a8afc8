/- Contracts of rebuslaw02's shows and awake. -/
import Derived.Test.YtmjikdkdccnbaaaDoorPx
import Derived.Test.YtmjikdkdccnbaaaDoorPu
import Derived.Test.YtmjikdkdccnbaaaDoorPz
import Derived.Test.YtmjikdkdccnbaaaDoorPf
namespace Go.Proofs.YtmjikdkdccnbaaaDoor
open Go.RowKit Bv

set_option maxHeartbeats 1600000
theorem shows_any (v : Value) (l : List Bool) (A : Option Addr) (c : Nat) (w : World) (hv : IsB w v l) (hs : Sl w 1 A l.length (bools l)) :
    Calls Tryd.prog 11 #[v, .slice A l.length c] w fun e w' => e = .returned (.bool true) ∧ Ext w w' := by
  have hvk := hv
  obtain ⟨hl, B, cb, rfl, _⟩ := hv
  have hwl : wc l.length ≤ 1048576 := by unfold wc; omega
  have HV := Lib.hid (hvk.ext ((Ext.refl w).alloc (.cells #[.slice B (wc l.length) cb, .int .i64 (l.length : Int)] 26)))
  have HS := Lib.hid (hs.alloc (.cells #[.slice B (wc l.length) cb, .int .i64 (l.length : Int)] 26))
  have HL := Lib.hid (words_length l)
  obtain ⟨n, hn⟩ : ∃ n, l.length = n := ⟨_, rfl⟩
  rw [hn] at HV HS HL hwl hl ⊢
  have HN := Lib.hid hn
  obtain ⟨m, hm⟩ : ∃ m, wc n = m := ⟨_, rfl⟩
  rw [hm] at HV HS HL hwl ⊢
  have HM := Lib.hid hm
  clear hvk hs hn hm
  have HE := Lib.hid ((Ext.refl w).alloc (.cells #[.slice B m cb, .int .i64 (n : Int)] 26))
  have HX := Lib.hid (Ext.refl (w.alloc (.cells #[.slice B m cb, .int .i64 (n : Int)] 26)))
  obtain ⟨hc, hf⟩ := HX.out.cells
  go_enter Tryd.func11, Tryd.ntmps11
  go_wp2_with fail
  refine (blen_any _ l _ (HV.out.ext HX.out)).mono ?_
  rintro e w1 ⟨rfl, hx⟩
  replace HX := Lib.hid (HX.out.trans hx)
  clear hc hf hx
  obtain ⟨hc, hf⟩ := HX.out.cells
  rw [HN.out]
  go_wp2_with fail
  refine (btidy_any _ l _ (HV.out.ext HX.out)).mono ?_
  rintro e w1 ⟨rfl, hx⟩
  replace HX := Lib.hid (HX.out.trans hx)
  clear hc hf hx
  obtain ⟨hc, hf⟩ := HX.out.cells
  go_wp2_with fail
  refine (unpack_any _ l _ (HV.out.ext HX.out)).mono ?_
  rintro e w1 ⟨v1, rfl, hown, hx⟩
  obtain ⟨A1, c1, rfl, -, -⟩ := own_form hown
  have HO := Lib.hid (Sl.own hown)
  replace HX := Lib.hid (HX.out.trans hx)
  clear hc hf hx hown
  obtain ⟨hc, hf⟩ := HX.out.cells
  rw [HN.out] at HO ⊢
  go_wp2_with fail
  refine (qbools_any A1 A l l n n c1 c HN.out.symm HN.out.symm _ hl HO.out (HS.out.ext HX.out)).mono ?_
  rintro e w1 ⟨rfl, hx⟩
  replace HX := Lib.hid (HX.out.trans (Ext.of_drewN' hx))
  clear hc hf hx
  obtain ⟨hc, hf⟩ := HX.out.cells
  rw [show decide (l = l) = true from decide_eq_true rfl]
  go_wp2_with fail
  refine (bwords_any _ l _ (HV.out.ext HX.out)).mono ?_
  rintro e w1 ⟨v2, rfl, hown, hx⟩
  obtain ⟨A2, c2, rfl, -, -⟩ := own_form hown
  have HO2 := Lib.hid (Sl.own hown)
  replace HX := Lib.hid (HX.out.trans hx)
  clear hc hf hx hown HO
  obtain ⟨hc, hf⟩ := HX.out.cells
  rw [HN.out, HM.out] at HO2 ⊢
  go_wp2_with fail
  refine (rwords_any A l n HN.out.symm c _ hl (HS.out.ext HX.out)).mono ?_
  rintro e w1 ⟨v3, rfl, hown, hx⟩
  obtain ⟨A3, c3, rfl, -, -⟩ := own_form hown
  have HO3 := Lib.hid (Sl.own hown)
  replace HO2 := Lib.hid (HO2.out.ext hx)
  replace HX := Lib.hid (HX.out.trans hx)
  clear hc hf hx hown
  obtain ⟨hc, hf⟩ := HX.out.cells
  rw [HM.out] at HO3 ⊢
  go_wp2_with fail
  refine (qnums_any A2 A3 (words l) (words l) m m c2 c3 HL.out.symm HL.out.symm _ hwl HO2.out HO3.out).mono ?_
  rintro e w1 ⟨rfl, hx⟩
  replace HX := Lib.hid (HX.out.trans (Ext.of_drewN' hx))
  clear hc hf hx HO2 HO3
  rw [show decide (words l = words l) = true from decide_eq_true rfl]
  go_wp2
  go_ret
  exact ⟨rfl, HE.out.trans HX.out⟩

theorem sl_lit (w : World) (us : Array Value) (t : TypeId) : Sl (w.alloc (.cells us t)) 1 (some ⟨w.heap.size, 0, none⟩) us.size us.toList := by
  refine ⟨by simp, fun _ => ⟨_, rfl, by simp, fun j u hu => ?_⟩⟩
  rw [show (Addr.add ⟨w.heap.size, 0, none⟩ j) = ⟨w.heap.size, j, none⟩ by unfold Addr.add; split <;> simp_all]
  rw [World.cell?_alloc_new]
  simpa using hu
theorem awake_any (w : World) (ht : Tab w) : Calls Tryd.prog 9 #[] w fun e w' => e = .returned (.bool true) ∧ Ext w w' := by
  have hs0 : Sl (w.alloc (.cells #[.bool false, .bool true, .bool true] 4)) 1 (some ⟨w.heap.size, 0, none⟩) 3 (bools [false, true, true]) := sl_lit w #[.bool false, .bool true, .bool true] 4
  have ct := pack_any (some ⟨w.heap.size, 0, none⟩) 3 [false, true, true] _ (by decide) (by decide) hs0
  have CT := Lib.hid (show Calls Tryd.prog 10 #[.slice (some ⟨w.heap.size, 0, none⟩) 3 3] (w.alloc (.cells #[.bool false, .bool true, .bool true] 4)) _ from ct)
  have HT := Lib.hid (ht.ext ((Ext.refl w).alloc (.cells #[.bool false, .bool true, .bool true] 4)))
  clear hs0 ht ct
  go_enter Tryd.func9, Tryd.ntmps9
  go_wp2_with fail
  refine CT.out.mono ?_
  rintro e w1 ⟨v, rfl, ⟨hl, g, c, rfl, hg, hown⟩, hx⟩
  have HV : Hid (IsB w1 (.agg #[.slice (some ⟨g, 0, none⟩) 1 c, .int .i64 3]) [false, true, true]) := ⟨hl, _, c, rfl, Sl.own hown⟩
  rw [show wc [false, true, true].length = 1 from rfl, show (([false, true, true].length : Nat) : Int) = 3 from rfl]
  replace HT := Lib.hid (HT.out.ext hx)
  have HE := Lib.hid ((((Ext.refl w).alloc _).trans hx).alloc (.cells #[.slice (some ⟨g, 0, none⟩) 1 c, .int .i64 3] 26))
  replace HT := Lib.hid (HT.out.ext ((Ext.refl w1).alloc (.cells #[.slice (some ⟨g, 0, none⟩) 1 c, .int .i64 3] 26)))
  replace HV := Lib.hid (HV.out.ext ((Ext.refl w1).alloc (.cells #[.slice (some ⟨g, 0, none⟩) 1 c, .int .i64 3] 26)))
  have HX := Lib.hid (Ext.refl (w1.alloc (.cells #[.slice (some ⟨g, 0, none⟩) 1 c, .int .i64 3] 26)))
  clear hx hown hl hg CT
  obtain ⟨hc, hf⟩ := HX.out.cells
  go_wp2_with fail
  refine (bwords_any _ _ _ (HV.out.ext HX.out)).mono ?_
  rintro e w2 ⟨v1, rfl, hown, hx⟩
  obtain ⟨A1, c1, rfl, -, -⟩ := own_form hown
  have HO : Hid (Sl w2 1 A1 1 (u64s [6])) := Sl.own hown
  replace HX := Lib.hid (HX.out.trans hx)
  clear hc hf hx hown
  obtain ⟨hc, hf⟩ := HX.out.cells
  rw [show wc [false, true, true].length = 1 from rfl]
  have HB : Hid (Sl (w2.alloc (.cells #[.int .u64 6] 55)) 1 (some ⟨w2.heap.size, 0, none⟩) 1 (u64s [6])) := sl_lit w2 #[.int .u64 6] 55
  go_wp2_with fail
  refine (qnums_any A1 _ [6] [6] 1 1 c1 1 rfl rfl _ (by decide) (HO.out.alloc _) HB.out).mono ?_
  rintro e w3 ⟨rfl, hx⟩
  replace HX := Lib.hid ((HX.out.alloc _).trans (Ext.of_drewN' hx))
  clear hc hf hx HO HB
  obtain ⟨hc, hf⟩ := HX.out.cells
  rw [show decide (([6] : List Nat) = [6]) = true from rfl]
  go_wp2_with fail
  refine (count_any _ _ _ (HV.out.ext HX.out)).mono ?_
  rintro e w4 ⟨rfl, hx⟩
  replace HX := Lib.hid (HX.out.trans hx)
  clear hc hf hx
  obtain ⟨hc, hf⟩ := HX.out.cells
  rw [show ((cnt [false, true, true] [false, true, true].length : Nat) : Int) = 2 from rfl]
  go_wp2_with fail
  refine (ones_any _ _ _ (HV.out.ext HX.out) (HT.out.ext HX.out)).mono ?_
  rintro e w5 ⟨v1, rfl, hown, hx⟩
  obtain ⟨A1, c1, rfl, -, -⟩ := own_form hown
  have HO : Hid (Sl w5 1 A1 2 (nats [1, 2])) := Sl.own hown
  replace HX := Lib.hid (HX.out.trans hx)
  clear hc hf hx hown
  obtain ⟨hc, hf⟩ := HX.out.cells
  rw [show cnt [false, true, true] [false, true, true].length = 2 from rfl]
  have HB : Hid (Sl (w5.alloc (.cells #[.int .i64 1, .int .i64 2] 3)) 1 (some ⟨w5.heap.size, 0, none⟩) 2 (nats [1, 2])) := sl_lit w5 #[.int .i64 1, .int .i64 2] 3
  go_wp2_with fail
  refine (qints_any A1 _ [1, 2] [1, 2] 2 2 c1 2 rfl rfl _ (by decide) (HO.out.alloc _) HB.out).mono ?_
  rintro e w6 ⟨rfl, hx⟩
  replace HX := Lib.hid ((HX.out.alloc _).trans (Ext.of_drewN' hx))
  clear hc hf hx HO HB
  obtain ⟨hc, hf⟩ := HX.out.cells
  rw [show decide (([1, 2] : List Nat) = [1, 2]) = true from rfl]
  go_wp2_with fail
  refine (parity_any _ _ _ (HV.out.ext HX.out)).mono ?_
  rintro e w7 ⟨v1, rfl, hb, hx⟩
  have HP := Lib.hid hb.is
  replace HX := Lib.hid (HX.out.trans hx)
  clear hc hf hx hb
  obtain ⟨hc, hf⟩ := HX.out.cells
  go_wp2_with fail
  refine (unpack_any _ _ _ HP.out).mono ?_
  rintro e w8 ⟨v2, rfl, hown, hx⟩
  obtain ⟨A1, c1, rfl, -, -⟩ := own_form hown
  have HO : Hid (Sl w8 1 A1 3 (bools [false, true, false])) := Sl.own hown
  replace HX := Lib.hid (HX.out.trans hx)
  clear hc hf hx hown HP
  obtain ⟨hc, hf⟩ := HX.out.cells
  rw [show (parL [false, true, true]).length = 3 from rfl]
  have HB : Hid (Sl (w8.alloc (.cells #[.bool false, .bool true, .bool false] 4)) 1 (some ⟨w8.heap.size, 0, none⟩) 3 (bools [false, true, false])) := sl_lit w8 #[.bool false, .bool true, .bool false] 4
  go_wp2_with fail
  refine (qbools_any A1 _ [false, true, false] [false, true, false] 3 3 c1 3 rfl rfl _ (by decide) (HO.out.alloc _) HB.out).mono ?_
  rintro e w9 ⟨rfl, hx⟩
  replace HX := Lib.hid ((HX.out.alloc _).trans (Ext.of_drewN' hx))
  clear hc hf hx HO HB
  obtain ⟨hc, hf⟩ := HX.out.cells
  rw [show decide (([false, true, false] : List Bool) = [false, true, false]) = true from rfl]
  go_wp2_with fail
  refine (fill_any _ _ _ (HV.out.ext HX.out) (HT.out.ext HX.out)).mono ?_
  rintro e w10 ⟨v1, rfl, hb, hx⟩
  have HP := Lib.hid hb.is
  replace HX := Lib.hid (HX.out.trans hx)
  clear hc hf hx hb
  obtain ⟨hc, hf⟩ := HX.out.cells
  go_wp2_with fail
  refine (unpack_any _ _ _ HP.out).mono ?_
  rintro e w11 ⟨v2, rfl, hown, hx⟩
  obtain ⟨A1, c1, rfl, -, -⟩ := own_form hown
  have HO : Hid (Sl w11 1 A1 3 (bools [false, true, true])) := Sl.own hown
  replace HX := Lib.hid (HX.out.trans hx)
  clear hc hf hx hown HP
  rw [show (anyL [false, true, true]).length = 3 from rfl]
  have HB : Hid (Sl (w11.alloc (.cells #[.bool false, .bool true, .bool true] 4)) 1 (some ⟨w11.heap.size, 0, none⟩) 3 (bools [false, true, true])) := sl_lit w11 #[.bool false, .bool true, .bool true] 4
  go_wp2_with fail
  refine (qbools_any A1 _ [false, true, true] [false, true, true] 3 3 c1 3 rfl rfl _ (by decide) (HO.out.alloc _) HB.out).mono ?_
  rintro e w12 ⟨rfl, hx⟩
  replace HX := Lib.hid ((HX.out.alloc _).trans (Ext.of_drewN' hx))
  clear hx HO HB
  rw [show decide (([false, true, true] : List Bool) = [false, true, true]) = true from rfl]
  go_wp2
  go_ret
  exact ⟨rfl, HE.out.trans HX.out⟩
end Go.Proofs.YtmjikdkdccnbaaaDoor
