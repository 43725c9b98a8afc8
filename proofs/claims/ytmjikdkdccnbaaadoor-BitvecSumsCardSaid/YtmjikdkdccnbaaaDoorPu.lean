/- Contract of bitvec's Ones. -/
import Derived.Test.YtmjikdkdccnbaaaDoorPt
import Derived.Test.YtmjikdkdccnbaaaDoorPw
namespace Go.Proofs.YtmjikdkdccnbaaaDoor
open Go.RowKit Bv

namespace Bv
/-- the digits of the word i from the place p on -/
def restW (l : List Bool) (i p x : Nat) : Prop := x < 18446744073709551616 ∧ ∀ j, j < 64 → x.testBit j = (decide (p ≤ 64 * i + j) && l.getD (64 * i + j) false)
theorem restW_full (l : List Bool) (i : Nat) : restW l i (64 * i) (wd l i) := ⟨wd_lt _ _, fun j hj => by rw [wd_testBit, decide_eq_true hj, decide_eq_true (by omega)]⟩
theorem restW_zero {l : List Bool} {i p : Nat} (h : restW l i p 0) (h1 : 64 * i ≤ p) (h2 : p ≤ 64 * (i + 1)) : onesL l (64 * (i + 1)) = onesL l p := by
  obtain ⟨d, hd⟩ := Nat.exists_eq_add_of_le h2
  rw [hd]
  refine onesL_skip l p d fun j hj1 hj2 => ?_
  have h3 := h.2 (j - 64 * i) (by omega)
  rw [Nat.zero_testBit, show 64 * i + (j - 64 * i) = j by omega, decide_eq_true (by omega), Bool.true_and] at h3
  exact h3.symm
theorem restW_step {l : List Bool} {i p t q : Nat} (h : restW l i p (2 ^ t * (2 * q + 1))) (h1 : 64 * i ≤ p) : t < 64 ∧ p ≤ 64 * i + t ∧ onesL l (64 * i + t + 1) = onesL l p ++ [64 * i + t] ∧ cnt l (64 * i + t + 1) = cnt l p + 1 ∧ restW l i (64 * i + t + 1) (2 ^ t * (2 * q)) := by
  have hb : (2 ^ t * (2 * q + 1)).testBit t = true := by rw [odd_bit, if_neg (by omega), Nat.sub_self]; simp
  have ht : t < 64 := by
    rcases Nat.lt_or_ge t 64 with h' | h'
    · exact h'
    · rw [Nat.testBit_lt_two_pow (Nat.lt_of_lt_of_le h.1 (Nat.pow_le_pow_right (n := 2) (by decide) h'))] at hb; cases hb
  have h2 := h.2 t ht
  rw [hb] at h2
  have hp : p ≤ 64 * i + t := by
    by_cases h' : p ≤ 64 * i + t
    · exact h'
    · rw [decide_eq_false h'] at h2; cases h2
  rw [decide_eq_true hp, Bool.true_and] at h2
  have hz : ∀ j, p ≤ j → j < 64 * i + t → l.getD j false = false := fun j hj1 hj2 => by
    have h3 := h.2 (j - 64 * i) (by omega)
    rw [odd_bit, if_pos (by omega), show 64 * i + (j - 64 * i) = j by omega, decide_eq_true hj1, Bool.true_and] at h3
    exact h3.symm
  have hs : onesL l (64 * i + t) = onesL l p := by
    obtain ⟨d, hd⟩ := Nat.exists_eq_add_of_le hp
    rw [hd]
    exact onesL_skip l p d fun j hj1 hj2 => hz j hj1 (by omega)
  have ho : onesL l (64 * i + t + 1) = onesL l p ++ [64 * i + t] := by rw [onesL_succ, hs, ← h2]; rfl
  refine ⟨ht, hp, ho, ?_, ?_⟩
  · rw [← onesL_length, ho, List.length_append, onesL_length]; rfl
  · have hle : 2 ^ t * (2 * q) ≤ 2 ^ t * (2 * q + 1) := Nat.mul_le_mul_left _ (by omega)
    refine ⟨Nat.lt_of_le_of_lt hle h.1, fun j hj => ?_⟩
    have h4 := Nat.testBit_two_pow_mul_add (i := t) (2 * q) (Nat.two_pow_pos t) j
    simp only [Nat.add_zero, Nat.zero_testBit] at h4
    rw [h4]
    have h5 := h.2 j hj
    rw [odd_bit] at h5
    by_cases hjt : j < t
    · rw [if_pos hjt, decide_eq_false (by omega)]; rfl
    · rw [if_neg hjt] at h5 ⊢
      rw [odd_bits] at h5
      by_cases e : j = t
      · subst e; rw [Nat.sub_self, decide_eq_false (by omega)]; simp
      · rw [decide_eq_false (by omega), Bool.false_or] at h5
        rw [h5, decide_eq_true (by omega), decide_eq_true (by omega)]
end Bv

set_option maxHeartbeats 1000000
theorem ones_any (v : Value) (l : List Bool) (w : World) (hv : IsB w v l) (ht : Tab w) :
    Calls Tryd.prog 23 #[v] w fun e w' => ∃ v', e = .returned v' ∧ w'.ownsRow w.heap.size 3 1 v' (cnt l l.length) (nats (onesL l l.length)) ∧ Ext w w' := by
  have hvk := hv
  obtain ⟨hl, A, c, rfl, hs⟩ := hv
  obtain ⟨i0, hi0, hz0, hz1, hz2⟩ := info_parts infoN
  have hwl : wc l.length ≤ 16384 := by unfold wc; omega
  have HS := Lib.hid hs
  have HT := Lib.hid ht
  have HV := Lib.hid hvk
  have hcl : cnt l l.length ≤ 1048576 := Nat.le_trans (cnt_le l _) hl
  have hsz : i0.bytes * cnt l l.length ≤ 281474976710656 := by rw [hz2]; omega
  have HE : Hid (onesL l (64 * wc l.length) = onesL l l.length ∧ cnt l (64 * wc l.length) = cnt l l.length) := ⟨onesL_past l _ (by unfold wc; omega), cnt_all l _ (by unfold wc; omega)⟩
  have ct := fun w1 h1 => count_any (.agg #[.slice A (wc l.length) c, .int .i64 (l.length : Int)]) l w1 h1
  generalize hq : cnt l l.length = q at *
  obtain ⟨m, hm⟩ : ∃ m, wc l.length = m := ⟨_, rfl⟩
  rw [hm] at HS hwl HV HE ct ⊢
  have HM := Lib.hid hm
  obtain ⟨n, hn⟩ : ∃ n, l.length = n := ⟨_, rfl⟩
  have hn1 : n ≤ 1048576 := by omega
  have HNL := Lib.hid hn
  rw [hn] at HV HE ct ⊢
  clear hs hm hl ht hn hvk hq
  go_enter Tryd.func23, Tryd.ntmps23
  go_wp2_with fail
  refine (ct _ (HV.out.ext ((Ext.refl w).alloc _))).mono ?_
  rintro e w1 ⟨rfl, hx1⟩
  have c0 : w1.cell? ⟨w.heap.size, 0, none⟩ = some (.slice A m c) := cell_ext'' hx1 (by simp)
  have HX1 := Lib.hid (((Ext.refl w).alloc _).trans hx1)
  have hb1 : w.heap.size ≤ w1.heap.size := HX1.out.size
  clear hx1 ct
  go_wp2_with (at_make; refine wpList_make_own _ rfl _ _ 36 rfl w.heap.size 3 i0 (.int .i64 0) 1 Tryd.underlying36 hi0 hz0 hz1 .i64 .i64 _ q rfl rfl rfl hsz (by simp only [maxLen]; omega) hb1 ?_)
  intro w2 hown2 hg2
  have HX2 := Lib.hid (HX1.out.trans (ext_none hg2))
  have HO2 := Lib.hid hown2
  have c1 : w2.cell? ⟨w.heap.size, 0, none⟩ = some (.slice A m c) := cell_ext'' (ext_none hg2) c0
  clear hown2 hg2 c0
  go_wp2_with fail
  go_loopw [3, 12] (fun o i wr => ∃ k : Nat, k ≤ m ∧ i = .int .i64 k ∧ wr.ownsRow w.heap.size 3 1 o (cnt l (64 * k)) (nats (onesL l (64 * k))) ∧ Ext w wr) (fun _ i _ => m - (intOf i).toNat)
  case atStart => exact ⟨0, Nat.zero_le _, rfl, HO2.out, HX2.out⟩
  case round =>
    obtain ⟨k, hk, rfl, hown, hx⟩ := hrel
    have HX := Lib.hid hx
    by_cases hlt : k < m
    · obtain ⟨a, rfl, hab, hcell⟩ := IsB.word (l := l) (by rw [HM.out]; exact HS.out) (i := k) (by rw [HM.out]; exact hlt)
      have L0 : wr.cell? (a.add k) = some (.int .u64 ((wd l k : Nat) : Int)) := cell_ext'' hx hcell
      have HO := Lib.hid hown
      have HR := Lib.hid (restW_full l k)
      clear hcell hx hown HO2 HX2 c1
      generalize wd l k = x at *
      go_wp2_with fail
      go_loopw [3, 5] (fun o s wr' => ∃ p y : Nat, 64 * k ≤ p ∧ p ≤ 64 * (k + 1) ∧ s = .int .u64 (y : Int) ∧ restW l k p y ∧ wr'.ownsRow w.heap.size 3 1 o (cnt l p) (nats (onesL l p)) ∧ Ext w wr') (fun _ s _ => (intOf s).toNat)
      case atStart => exact ⟨64 * k, x, Nat.le_refl _, by omega, rfl, HR.out, HO.out, HX.out⟩
      case round =>
        obtain ⟨p, y, hp1, hp2, rfl, hr, hown', hx'⟩ := hrel
        have HX' := Lib.hid hx'
        have HO' := Lib.hid hown'
        have HR' := Lib.hid hr
        have HT' := Lib.hid (HT.out.ext hx')
        have hyb := hr.1
        clear HO HR HX L0 hown' hx' hr
        by_cases hz : y = 0
        · subst hz
          have hs1 := restW_zero HR'.out hp1 hp2
          have hs2 : cnt l (64 * (k + 1)) = cnt l p := by rw [← onesL_length, hs1, onesL_length]
          have H1 := Lib.hid (show wr.ownsRow w.heap.size 3 1 u3 (cnt l (64 * (k + 1))) (nats (onesL l (64 * (k + 1)))) by rw [hs1, hs2]; exact HO'.out)
          clear hs1 hs2
          go_wp2
          exact ⟨⟨k + 1, by omega, by go_num, H1.out, HX'.out⟩, by simp [intOf]; omega⟩
        · obtain ⟨t, q', he⟩ := odd_part _ hz
          have hst := restW_step (by rw [← he]; exact HR'.out) hp1
          obtain ⟨ht, hp3, ho, hcn, hrs⟩ := hst
          have hand : bits .and .u64 (y : Int) ((y - 1 : Nat) : Int) = ((2 ^ t * (2 * q') : Nat) : Int) := by
            rw [← drop_bit, ← he]
            exact u64_and_nat y (y - 1) hyb (by omega)
          have hsub : (y : Int) - 1 = ((y - 1 : Nat) : Int) := by omega
          have hwr : IntKind.u64.wrap ((y - 1 : Nat) : Int) = ((y - 1 : Nat) : Int) := by
            simp only [IntKind.wrap, IntKind.bits, IntKind.signed]
            simp
            omega
          have hlt2 : 2 ^ t * (2 * q') < y := by rw [he]; exact Nat.mul_lt_mul_of_pos_left (by omega) (Nat.two_pow_pos t)
          have HP := Lib.hid (show nats (onesL l p) ++ [.int .i64 ((64 * k + t : Nat) : Int)] = nats (onesL l (64 * k + t + 1)) ∧ cnt l p + 1 = cnt l (64 * k + t + 1) by rw [ho, hcn]; exact ⟨by simp [nats], rfl⟩)
          have ctz := fun w1 hw1 => tz_any y t q' hyb he w1 hw1
          have CT := Lib.hid ctz
          have HRS := Lib.hid hrs
          have HLT := Lib.hid hlt2
          have hy0 : (0 : Int) < (y : Int) := by omega
          have hyn : ((y : Int) != 0) = true := by simp; omega
          have hpl := cnt_le l p
          have hsum : (k : Int) * 64 + (t : Int) = ((64 * k + t : Nat) : Int) := by omega
          clear ho hcn hrs hlt2 he ctz hz hyb
          generalize 2 ^ t * (2 * q') = y2 at *
          generalize nats (onesL l p) = xs at *
          generalize cnt l p = r at *
          have HW : Hid (∀ o, (wr.alloc o).ownsRow w.heap.size 3 1 u3 r xs) := fun o => own_ext HO'.out ((Ext.refl _).alloc _)
          have HB : Hid (∀ z : Int, Sl (wr.alloc (.cells #[.int .i64 z] 3)) 1 (some ⟨wr.heap.size, 0, none⟩) 1 [.int .i64 z]) := fun z => sl_built wr #[.int .i64 z] 3
          have h1' : ∀ z : Int, ∀ u ∈ [Value.int .i64 z], u.oneCell' = true := by intro z u hu; simp at hu; subst hu; rfl
          have hbase : ∀ o, w.heap.size ≤ (wr.alloc o).heap.size := fun o => by have := HX'.out.size; simp; omega
          have hlim : r + 1 ≤ 1099511627776 := by omega
          go_wp2_with fail
          refine (CT.out _ HT'.out).mono ?_
          rintro e w5 ⟨rfl, rfl⟩
          go_wp2_with (at_builtin; refine wpList_append_sl _ rfl _ _ 36 rfl w.heap.size 3 i0 (.int .i64 0) 1 8 Tryd.underlying36 hi0 hz0 hz1 hz2 rfl (by omega) _ r _ rfl (HW.out _) (some ⟨wr.heap.size, 0, none⟩) 1 1 [.int .i64 _] rfl (HB.out _) (h1' _) hlim (by omega) (hbase _) ?_; intro v' w6 hown hbel)
          refine ⟨⟨64 * k + t + 1, y2, by omega, by omega, rfl, HRS.out, by rw [← HP.out.1, ← HP.out.2]; first | exact hown | (rw [← hsum]; exact hown), (HX'.out.alloc _).trans' hbel⟩, by simp [intOf]; have := HLT.out; omega⟩
    · have hkm : k = m := by omega
      subst hkm
      have HO := Lib.hid (show wr.ownsRow w.heap.size 3 1 u3 q (nats (onesL l n)) by rw [← HE.out.1, ← HE.out.2]; exact hown)
      clear hown hx HO2 HX2 c1
      go_wp2
      go_ret
      exact ⟨_, rfl, HO.out, HX.out⟩
end Go.Proofs.YtmjikdkdccnbaaaDoor
