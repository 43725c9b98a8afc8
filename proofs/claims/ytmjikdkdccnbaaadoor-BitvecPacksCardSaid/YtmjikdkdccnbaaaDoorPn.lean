/- BitvecPacks, for every input: the walk. -/
import Derived.Test.YtmjikdkdccnbaaaDoorPm
namespace Go.Proofs.YtmjikdkdccnbaaaDoor
open Go.ChangeShapes Go.WideShapes Go.RowKit Bv

set_option maxHeartbeats 1000000
theorem bmake_any (n : Int) (b : Bool) (w : World) : Calls Tryd.prog 13 #[.int .i64 n, .bool b] w fun e w' => ∃ v, e = .returned v ∧ OwnB w' w.heap.size v (List.replicate (nclamp n) b) ∧ Ext w w' := by
  cases b
  · exact make_false n w
  · exact make_true n w
theorem rep_succ (k : Nat) (b : Bool) : bools (List.replicate k b) ++ [.bool b] = bools (List.replicate (k + 1) b) := by
  simp [bools, List.replicate_succ']
theorem packs_main (w : World) (ht : Tab w) (A : Option Addr) (l : List Bool) (c : Nat) (hc : l.length ≤ c) (hs : Sl w 1 A l.length (bools l)) (i n : Int) (b : Bool) (hl : l.length ≤ 2000) (hn : n ≤ 2000) (hn0 : -9223372036854775808 ≤ n) :
    Calls Tryd.prog 3 #[.slice A l.length c, .int .i64 i, .int .i64 n, .bool b] w fun e w' => e = .returned (.bool true) ∧ Ext w w' := by
  obtain ⟨i0, hi0, hz0, hz1, hz2⟩ := info_parts infoB
  have ct := pack_any A c l w (by omega) hc hs
  have HT := Lib.hid ht
  have HS := Lib.hid hs
  obtain ⟨m, hm⟩ : ∃ m, l.length = m := ⟨_, rfl⟩
  have HN := Lib.hid hm
  have hms := fun v w1 h1 h2 => shows_any v l A c w1 h1 h2
  rw [hm] at ct HS hms hl ⊢
  have CT := Lib.hid ct
  have SH := Lib.hid hms
  have HL : Hid (∀ k : Nat, i = (k : Int) → k < m → ∃ a, A = some a ∧ a.block < w.heap.size ∧ w.cell? (a.add k) = some (.bool (bget l i))) := by
    intro k e hk
    obtain ⟨a, u, ea, hab, hu, hcell⟩ := HS.out.at1 hk
    rw [bools_get (by rw [hm]; exact hk)] at hu
    cases hu
    refine ⟨a, ea, hab, ?_⟩
    rw [hcell]; unfold bget; rw [e, if_pos (by omega), Int.toNat_natCast]
  have HG : Hid (¬ (0 ≤ i ∧ i < (m : Int)) → bget l i = false) := by
    intro h
    unfold bget
    by_cases h0 : 0 ≤ i
    · rw [if_pos h0, getD_past l _ (by omega)]
    · rw [if_neg h0]
  clear ht hs hm hc ct hms
  go_enter Tryd.func3, Tryd.ntmps3
  go_wp2_with fail
  refine CT.out.mono ?_
  rintro e w1 ⟨v, rfl, hb, hx⟩
  have HV := Lib.hid hb.is
  obtain ⟨hlv, g, c1, rfl, _, _⟩ := hb
  have HX := Lib.hid hx
  have HE := Lib.hid (hx.alloc (.cells #[.slice (some ⟨g, 0, none⟩) (wc l.length) c1, .int .i64 (l.length : Int)] 26))
  replace HV := Lib.hid (HV.out.ext ((Ext.refl w1).alloc (.cells #[.slice (some ⟨g, 0, none⟩) (wc l.length) c1, .int .i64 (l.length : Int)] 26)))
  replace HT := Lib.hid (HT.out.ext HE.out)
  replace HS := Lib.hid (HS.out.ext HE.out)
  have hcase : (0 ≤ i ∧ i < (m : Int) ∧ ∃ k a, i = ((k : Nat) : Int) ∧ A = some a ∧ (w1.alloc (.cells #[.slice (some ⟨g, 0, none⟩) (wc l.length) c1, .int .i64 (l.length : Int)] 26)).cell? (a.add k) = some (.bool (bget l i))) ∨ ((i < 0 ∨ (0 ≤ i ∧ ¬ i < (m : Int))) ∧ bget l i = false) := by
    by_cases h : 0 ≤ i ∧ i < (m : Int)
    · obtain ⟨k, hk⟩ := Int.eq_ofNat_of_zero_le h.1
      obtain ⟨a, ea, hab, hcell⟩ := HL.out k hk (by omega)
      exact .inl ⟨h.1, h.2, k, a, hk, ea, cell_ext'' HE.out hcell⟩
    · exact .inr ⟨by omega, HG.out h⟩
  obtain ⟨d, hd⟩ : ∃ d, bget l i = d := ⟨_, rfl⟩
  have hat := at_any (.agg #[.slice (some ⟨g, 0, none⟩) (wc l.length) c1, .int .i64 (l.length : Int)]) l i
  rw [hd] at hcase hat
  have AT := Lib.hid hat
  have HN2 : Hid (nclamp n = n.toNat) := by show _ = _; unfold nclamp; omega
  clear hat hd HL HG hx hlv CT
  generalize wc l.length = mw at *
  generalize (l.length : Int) = ln at *
  have HX := Lib.hid (Ext.refl (w1.alloc (.cells #[.slice (some ⟨g, 0, none⟩) mw c1, .int .i64 ln] 26)))
  obtain ⟨hc, hf⟩ := HX.out.cells
  rcases hcase with ⟨h1, h2, k0, a0, rfl, rfl, L0⟩ | ⟨h1 | ⟨h1, h2⟩, rfl⟩
  all_goals
   go_wp2_with fail
   refine (SH.out _ _ (HV.out.ext HX.out) (HS.out.ext HX.out)).mono ?_
   rintro e w2 ⟨rfl, hx⟩
   replace HX := Lib.hid (HX.out.trans hx)
   clear hc hf hx
   try clear L0
   obtain ⟨hc, hf⟩ := HX.out.cells
   go_wp2_with fail
   refine (AT.out _ (HV.out.ext HX.out)).mono ?_
   rintro e w3 ⟨rfl, hx⟩
   replace HX := Lib.hid (HX.out.trans hx)
   clear hc hf hx
   have hbd : ∀ x : Bool, (x != x) = false := fun x => by cases x <;> rfl
   go_wp2_with fail
   clear hbd
   go_loopw [11, 12] (fun o j wr => ∃ k : Nat, k ≤ n.toNat ∧ j = .int .i64 k ∧ wr.ownsRow w3.heap.size 4 1 o k (bools (List.replicate k b)) ∧ Ext w3 wr) (fun _ j _ => n.toNat - (intOf j).toNat)
   case atStart => exact ⟨0, Nat.zero_le _, rfl, own_nil _ _ _ _, Ext.refl _⟩
   case round =>
    obtain ⟨k, hk, rfl, hown, hx⟩ := hrel
    have HO := Lib.hid hown
    have HY := Lib.hid hx
    clear hown hx
    by_cases hlt : k < n.toNat
    · have hkn : (k : Int) < n := by omega
      have HP := Lib.hid (rep_succ k b)
      generalize bools (List.replicate k b) = xs at *
      have HW : Hid (∀ o, (wr.alloc o).ownsRow w3.heap.size 4 1 u11 k xs) := fun o => own_ext HO.out ((Ext.refl _).alloc _)
      have HR : Hid (Sl (wr.alloc (.cells #[.bool b] 4)) 1 (some ⟨wr.heap.size, 0, none⟩) 1 [.bool b]) := sl_built wr #[.bool b] 4
      have h1' : ∀ u ∈ [Value.bool b], u.oneCell' = true := by intro u hu; simp at hu; subst hu; rfl
      have hbase : ∀ o, w3.heap.size ≤ (wr.alloc o).heap.size := fun o => by have := HY.out.size; simp; omega
      have hlim : k + 1 ≤ 1099511627776 := by omega
      go_wp2_with (at_builtin; refine wpList_append_sl _ rfl _ _ 22 rfl w3.heap.size 4 i0 (.bool false) 1 1 Tryd.underlying22 hi0 hz0 hz1 hz2 rfl (by omega) _ k _ rfl (HW.out _) (some ⟨wr.heap.size, 0, none⟩) 1 1 [.bool b] rfl HR.out h1' hlim (by omega) (hbase _) ?_; intro v' w4 hown hbel)
      refine ⟨⟨k + 1, by omega, by go_num, by rw [← HP.out]; exact hown, (HY.out.alloc _).trans' hbel⟩, by simp [intOf]; omega⟩
    · have hkN : k = n.toNat := by omega
      have hkn : ¬ (k : Int) < n := by omega
      obtain ⟨A1, cc, rfl, _, _⟩ := own_form HO.out
      have HS1 := Lib.hid (Sl.own HO.out)
      have HZ := Lib.hid (HX.out.trans HY.out)
      have HKN := Lib.hid hkN
      clear hkN
      go_wp2_with fail
      refine (bmake_any n b _).mono ?_
      rintro e w5 ⟨v2, rfl, hb2, hx2⟩
      rw [HN2.out, ← HKN.out] at hb2
      have HB2 := Lib.hid hb2.is
      replace HS1 := Lib.hid (HS1.out.ext hx2)
      replace HZ := Lib.hid (HZ.out.trans hx2)
      clear hb2 hx2 HX HY HO
      have sh2 := shows_any v2 (List.replicate k b) A1 cc w5 HB2.out (by rw [List.length_replicate]; exact HS1.out)
      rw [List.length_replicate] at sh2
      obtain ⟨_, g2, c2, hv2, _⟩ := HB2.out
      rw [List.length_replicate] at hv2
      subst hv2
      have SH2 := Lib.hid sh2
      clear sh2
      go_wp2_with fail
      refine SH2.out.mono ?_
      rintro e w6 ⟨rfl, hx3⟩
      replace HZ := Lib.hid (HZ.out.trans hx3)
      clear hx3
      go_wp2_with fail
      refine (awake_any _ (HT.out.ext HZ.out)).mono ?_
      rintro e w7 ⟨rfl, hx4⟩
      replace HZ := Lib.hid (HZ.out.trans hx4)
      clear hx4
      go_wp2
      go_ret
      exact ⟨rfl, HE.out.trans HZ.out⟩
theorem bitvecPacks_walk (w : World) (ht : Tab w) (A : Option Addr) (l : List Bool) (c : Nat) (hc : l.length ≤ c) (_ : c ≤ maxLen) (hs : Sl w 1 A l.length (bools l)) (_ : ∀ x ∈ l, True) (i : Int) (_ : (Lit.int .i64 i).wf = true) (n : Int) (hn : (Lit.int .i64 n).wf = true) (b : Bool) (_ : True) :
    Calls Tryd.prog 3 #[.slice A l.length c, .int .i64 i, .int .i64 n, .bool b] w fun e w' => e = .returned (.bool true) ∧ Ext w w' := by
  have hn0 : -9223372036854775808 ≤ n := by
    simp [Lit.wf, IntKind.min, IntKind.max, IntKind.signed, IntKind.bits] at hn
    omega
  by_cases h1 : l.length ≤ 2000
  · by_cases h2 : n ≤ 2000
    · exact packs_main w ht A l c hc hs i n b h1 h2 hn0
    · have ct := awake_any w ht
      clear hs ht hc hn
      generalize l.length = m at *
      go_enter Tryd.func3, Tryd.ntmps3
      go_wp2_with fail
      refine ct.mono ?_
      rintro e w1 ⟨rfl, hx⟩
      go_wp2
      go_ret
      exact ⟨rfl, hx⟩
  · have ct := awake_any w ht
    clear hs ht hc hn
    generalize l.length = m at *
    go_enter Tryd.func3, Tryd.ntmps3
    go_wp2_with fail
    refine ct.mono ?_
    rintro e w1 ⟨rfl, hx⟩
    go_wp2
    go_ret
    exact ⟨rfl, hx⟩
end Go.Proofs.YtmjikdkdccnbaaaDoor
