/- Contract of rebusref02.Words. -/
import Derived.Test.YtmjikdkdccnbaaaDoorPw
namespace Go.Proofs.YtmjikdkdccnbaaaDoor
open Go.RowKit Bv

set_option maxHeartbeats 1000000
theorem rwords_any (A : Option Addr) (l : List Bool) (n : Nat) (hn : n = l.length) (c : Nat) (w : World) (hl : n ≤ 1048576) (hs : Sl w 1 A n (bools l)) :
    Calls Tryd.prog 35 #[.slice A n c] w fun e w' => ∃ v, e = .returned v ∧ w'.ownsRow w.heap.size 55 1 v (wc n) (u64s (words l)) ∧ Ext w w' := by
  obtain ⟨i0, hi0, hz0, hz1, hz2⟩ := info_parts infoW
  have HS := Lib.hid hs
  have HN := Lib.hid hn
  clear hs hn
  go_enter Tryd.func35, Tryd.ntmps35
  go_wp2_with fail
  go_loopw [3, 4] (fun o i wr => ∃ k : Nat, k ≤ n ∧ i = .int .i64 k ∧ wr.ownsRow w.heap.size 55 1 o (wc k) (u64s (wordsT l k)) ∧ Ext w wr) (fun _ i _ => n - (intOf i).toNat)
  case atStart => exact ⟨0, Nat.zero_le _, rfl, own_nil _ _ _ _, Ext.refl w⟩
  case round =>
    obtain ⟨k, hk, rfl, hown, hx⟩ := hrel
    have HX := Lib.hid hx
    by_cases hlt : k < n
    · obtain ⟨a, u, rfl, hab, hu, hcell⟩ := HS.out.at1 hlt
      rw [bools_get (by rw [← HN.out]; exact hlt)] at hu
      cases hu
      have L0 : wr.cell? (a.add k) = some (.bool (l.getD k false)) := (Below.cell hx (by rw [addr_block]; exact hab)).trans hcell
      have hxb : wd (l.take k) (k / 64) < 18446744073709551616 := wd_lt _ _
      have hor := bv_or (wd (l.take k) (k / 64)) (k % 64) hxb (by omega)
      obtain ⟨m1, m2⟩ := u64_mask (k % 64) (by omega)
      have hk64 : k / 64 < wc (k + 1) := by unfold wc; omega
      have hwm : wc (k + 1) ≤ 20000 := by unfold wc; omega
      have hat := u64s_get (wordsX_at l k)
      have htr := wordsX_true l k
      have hfa := wordsX_false l k
      have HZ := Lib.hid (And.intro hat (And.intro htr hfa))
      have HSTEP : Hid (∀ (g cc : Nat) (w1 : World), Ext w w1 → w1.ownsRow w.heap.size 55 1 (.slice (some ⟨g, 0, none⟩) (wc (k + 1)) cc) (wc (k + 1)) (u64s (wordsX l k)) → l.getD k false = true →
          (w1.setCell ⟨g, k / 64, none⟩ (.int .u64 ((wd (l.take k) (k / 64) ||| 2 ^ (k % 64) : Nat) : Int))).ownsRow w.heap.size 55 1 (.slice (some ⟨g, 0, none⟩) (wc (k + 1)) cc) (wc (k + 1)) (u64s (wordsT l (k + 1))) ∧ Ext w (w1.setCell ⟨g, k / 64, none⟩ (.int .u64 ((wd (l.take k) (k / 64) ||| 2 ^ (k % 64) : Nat) : Int)))) := fun g cc w1 hx1 ho hd => by
        have hst := (ho.stored (k / 64) (.int .u64 ((wd (l.take k) (k / 64) ||| 2 ^ (k % 64) : Nat) : Int))).1
        have e2 : (u64s (wordsX l k)).set (k / 64) (.int .u64 ((wd (l.take k) (k / 64) ||| 2 ^ (k % 64) : Nat) : Int)) = u64s (wordsT l (k + 1)) := by
          rw [← htr hd]; simp [u64s]
        rw [e2] at hst
        exact ⟨hst, hx1.setCell (ho.lt g rfl).1 _⟩
      clear hcell hx hat htr hfa
      have hab' : a.block < w.heap.size := hab
      by_cases h64 : k % 64 = 0
      · have e2 : ((k : Int) % 64 == 0) = true := by simp; omega
        obtain ⟨hm1, hm2⟩ := wordsX_more l k h64
        have HM := Lib.hid (show u64s (wordsT l k) ++ [.int .u64 0] = u64s (wordsX l k) by rw [← hm1]; simp [u64s])
        have HM2 := Lib.hid hm2
        have HW : Hid (∀ o, (wr.alloc o).ownsRow w.heap.size 55 1 u3 (wc k) (u64s (wordsT l k))) := fun o => own_ext hown ((Ext.refl _).alloc _)
        have HR : Hid (Sl (wr.alloc (.cells #[.int .u64 0] 55)) 1 (some ⟨wr.heap.size, 0, none⟩) 1 [.int .u64 0]) := sl_built wr #[.int .u64 0] 55
        have h1' : ∀ u ∈ [Value.int .u64 0], u.oneCell' = true := by intro u hu; simp at hu; subst hu; rfl
        have hbase : ∀ o, w.heap.size ≤ (wr.alloc o).heap.size := fun o => by have := HX.out.size; simp; omega
        have hlim : wc k + 1 ≤ 1099511627776 := by unfold wc; omega
        clear hown hm1 hm2 h64
        generalize l.getD k false = d at *
        generalize wd (l.take k) (k / 64) = x at *
        generalize hmm : wc (k + 1) = mm at *
        have HMM := Lib.hid hmm
        clear hmm
        go_wp2_with (at_builtin; refine wpList_append_sl _ rfl _ _ 24 rfl w.heap.size 55 i0 (.int .u64 0) 1 8 Tryd.underlying24 hi0 hz0 hz1 hz2 rfl (by omega) _ (wc k) _ rfl (HW.out _) (some ⟨wr.heap.size, 0, none⟩) 1 1 [.int .u64 0] rfl HR.out h1' hlim (by omega) (hbase _) ?_)
        intro v' w1 hown hbel
        rw [HM.out, HM2.out] at hown
        obtain ⟨g, cc, rfl, hgb, hgs, hgc⟩ := own_pos hown (by omega)
        have hx1 : Ext w w1 := (HX.out.alloc _).trans' hbel
        have L1 : w1.cell? (a.add k) = some (.bool d) := (Below.cell hbel (by rw [addr_block]; exact hab')).trans ((World.cell?_alloc_lt wr _ _ (by rw [addr_block]; have := HX.out.size; omega)).trans L0)
        have W0 : w1.cell? ⟨g, k / 64, none⟩ = some (.int .u64 (x : Int)) := by
          rw [hown.cellAt (k / 64) (by omega)]; exact HZ.out.1
        have W1 : w1.frozen? ⟨g, k / 64, none⟩ = false := hown.frozenAt _
        have HO := Lib.hid hown
        have HX1 := Lib.hid hx1
        clear hown hbel hx1 L0 HR HW hbase
        cases d with
        | false =>
          have H1 := Lib.hid (show w1.ownsRow w.heap.size 55 1 (.slice (some ⟨g, 0, none⟩) mm cc) mm (u64s (wordsT l (k + 1))) by rw [← HZ.out.2.2 rfl]; exact HO.out)
          clear W0 W1
          go_wp2
          exact ⟨⟨k + 1, by omega, by go_num, by rw [HMM.out]; exact H1.out, HX1.out⟩, by simp [intOf]; omega⟩
        | true =>
          have H1 := Lib.hid (HSTEP.out g cc w1 HX1.out HO.out rfl)
          go_wp2
          exact ⟨⟨k + 1, by omega, by go_num, by rw [HMM.out]; exact H1.out.1, H1.out.2⟩, by simp [intOf]; omega⟩
      · have e2 : ((k : Int) % 64 == 0) = false := by simp; omega
        obtain ⟨hm1, hm2⟩ := wordsX_same l k h64
        rw [hm1, hm2] at hown
        obtain ⟨g, cc, rfl, hgb, hgs, hgc⟩ := own_pos hown (by omega)
        have W0 : wr.cell? ⟨g, k / 64, none⟩ = some (.int .u64 (wd (l.take k) (k / 64) : Int)) := by
          rw [hown.cellAt (k / 64) (by omega)]; exact HZ.out.1
        have W1 : wr.frozen? ⟨g, k / 64, none⟩ = false := hown.frozenAt _
        have HO := Lib.hid hown
        clear hown hm1 hm2 h64
        generalize l.getD k false = d at *
        generalize wd (l.take k) (k / 64) = x at *
        generalize hmm : wc (k + 1) = mm at *
        have HMM := Lib.hid hmm
        clear hmm
        cases d with
        | false =>
          have H1 := Lib.hid (show wr.ownsRow w.heap.size 55 1 (.slice (some ⟨g, 0, none⟩) mm cc) mm (u64s (wordsT l (k + 1))) by rw [← HZ.out.2.2 rfl]; exact HO.out)
          clear W0 W1
          go_wp2
          exact ⟨⟨k + 1, by omega, by go_num, by rw [HMM.out]; exact H1.out, HX.out⟩, by simp [intOf]; omega⟩
        | true =>
          have H1 := Lib.hid (HSTEP.out g cc wr HX.out HO.out rfl)
          go_wp2
          exact ⟨⟨k + 1, by omega, by go_num, by rw [HMM.out]; exact H1.out.1, H1.out.2⟩, by simp [intOf]; omega⟩
    · have hkn : k = n := by omega
      subst hkn
      have hf : wordsT l k = words l := by have h := wordsT_full l; rw [← HN.out] at h; exact h
      rw [hf] at hown
      have HO := Lib.hid hown
      clear hown hx hf
      go_wp2
      go_ret
      exact ⟨_, rfl, HO.out, HX.out⟩
end Go.Proofs.YtmjikdkdccnbaaaDoor
