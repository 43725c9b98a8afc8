/- The document's Tidy of a list; a box. -/
import Derived.Test.YtidnikndjhfgaaaVk
namespace Go.Proofs.Ytidnikndjhfgaaa
open Go.RowKit Bv Fl

/-- what a loop that appends has so far -/
def pre (f : Nat → Value) (k : Nat) : List Value := (List.range k).map f
theorem pre_step (f : Nat → Value) (k : Nat) : pre f k ++ [f k] = pre f (k + 1) := by simp [pre, List.range_succ]
theorem pre_length (f : Nat → Value) (k : Nat) : (pre f k).length = k := by simp [pre]
/-- one element, laid for an append -/
theorem Sl.built (w : World) (us : Array Value) (t : TypeId) : Sl (w.alloc (.cells us t)) us.size (some ⟨w.heap.size, 0, none⟩) 1 us.toList := by
  refine ⟨by simp, fun _ => ⟨_, rfl, by simp, fun j u hu => ?_⟩⟩
  rw [show (Addr.add ⟨w.heap.size, 0, none⟩ j) = ⟨w.heap.size, j, none⟩ by unfold Addr.add; split <;> simp_all]
  rw [World.cell?_alloc_new]
  simpa using hu

set_option maxHeartbeats 1000000
def TidyPost (b : Bool) (l : List Nat) (n : Nat) (w : World) (e : Ending) (w' : World) : Prop :=
  ∃ v, e = .returned (.tuple #[v, .bool b]) ∧ (b = true → w'.ownsRow w.heap.size 56 1 v n (f64s (dnL l))) ∧ Ext w w'
theorem rtidyL_any (A : Option Addr) (l : List Nat) (n : Nat) (hn : n = l.length) (c : Nat) (w : World) (hl : n ≤ 1048576) (hs : Sl w 1 A n (f64s l)) : Calls Try.prog 37 #[.slice A n c] w (TidyPost (allF l) l n w) := by
  obtain ⟨i0, hi0, hz0, hz1, hz2⟩ := info_parts infoF
  have hfull := dnL_fill l
  rw [fillL_full, ← hn] at hfull
  have HS := Lib.hid hs
  have HN := Lib.hid hn
  have HF : Hid (f64s (dnL l) = pre (fun k => .float .f64 (dn (l.getD k 0))) n) := hfull
  clear hs hn hfull
  obtain ⟨b, hb⟩ : ∃ b, allF l = b := ⟨_, rfl⟩
  rw [hb]
  have HB := Lib.hid hb
  clear hb
  go_enter Try.func37, Try.ntmps37
  go_wp2_with fail
  go_loopw [4, 5] (fun o i wr => ∃ k : Nat, k ≤ n ∧ i = .int .i64 k ∧ upF l k ∧ wr.ownsRow w.heap.size 56 1 o k (pre (fun k => .float .f64 (dn (l.getD k 0))) k) ∧ Ext w wr) (fun _ i _ => n - (intOf i).toNat)
  case atStart => exact ⟨0, Nat.zero_le _, rfl, fun j hj => absurd hj (by omega), ⟨rfl, Or.inl ⟨rfl, rfl⟩⟩, Ext.refl w⟩
  case round =>
    obtain ⟨k, hk, rfl, hup, hown, hx⟩ := hrel
    have HU := Lib.hid hup
    have HX := Lib.hid hx
    clear hup
    by_cases hlt : k < n
    · obtain ⟨a, u, rfl, hab, hu, hcell⟩ := HS.out.at1 hlt
      rw [f64s_get (by rw [← HN.out]; exact hlt)] at hu
      cases hu
      have L0 : wr.cell? (a.add k) = some (.float .f64 (l.getD k 0)) := (Below.cell hx (by rw [addr_block]; exact hab)).trans hcell
      have ct := rtidy_any (l.getD k 0) wr
      clear hcell hx
      by_cases hg : fin (l.getD k 0)
      · have hup := Lib.hid (upF_step HU.out hg)
        rw [decide_eq_true hg] at ct
        have HO := Lib.hid hown
        have HP : Hid (pre (fun k => Value.float .f64 (dn (l.getD k 0))) k ++ [.float .f64 (dn (l.getD k 0))] = pre (fun k => Value.float .f64 (dn (l.getD k 0))) (k + 1)) := pre_step _ k
        clear hown HU hg
        generalize l.getD k 0 = x at *
        have HW : Hid (∀ o, (wr.alloc o).ownsRow w.heap.size 56 1 u4 k (pre (fun k => .float .f64 (dn (l.getD k 0))) k)) := fun o => own_ext HO.out ((Ext.refl _).alloc _)
        have HR : Hid (Sl (wr.alloc (.cells #[.float .f64 (dn x)] 56)) 1 (some ⟨wr.heap.size, 0, none⟩) 1 [.float .f64 (dn x)]) := Sl.built wr #[.float .f64 (dn x)] 56
        have h1 : ∀ u ∈ [Value.float .f64 (dn x)], u.oneCell' = true := by intro u hu; simp at hu; subst hu; rfl
        have hbase : ∀ o, w.heap.size ≤ (wr.alloc o).heap.size := fun o => by have := HX.out.size; simp; omega
        have hlim : k + 1 ≤ 1099511627776 := by omega
        go_wp2_with fail
        refine ct.mono ?_
        rintro e w4 ⟨rfl, rfl⟩
        go_wp2_with (at_builtin; refine wpList_append_sl _ rfl _ _ 37 rfl w.heap.size 56 i0 (.float .f64 0) 1 8 Try.underlying37 hi0 hz0 hz1 hz2 rfl (by omega) _ k _ rfl (HW.out _) (some ⟨wr.heap.size, 0, none⟩) 1 1 [.float .f64 (dn x)] rfl HR.out h1 hlim (by omega) (hbase _) ?_; intro v' w1 hown hbel)
        refine ⟨⟨k + 1, by omega, by go_num, hup.out, by rw [← HP.out]; exact hown, ?_⟩, by simp [intOf]; omega⟩
        exact (HX.out.alloc _).trans' hbel
      · have hf := allF_false (by rw [← HN.out]; exact hlt) hg
        rw [HB.out] at hf
        subst hf
        rw [decide_eq_false hg] at ct
        clear hg hown
        generalize l.getD k 0 = x at *
        go_wp2_with fail
        refine ct.mono ?_
        rintro e w4 ⟨rfl, rfl⟩
        go_wp2
        refine bodyPost_ret (v := .tuple #[.slice none 0 0, .bool false]) (by simp [results, Try.results37, go_sem]) rfl ⟨_, rfl, (fun h => absurd h (by decide)), HX.out⟩
    · have hkn : k = n := by omega
      subst hkn
      have hup := HU.out
      rw [HN.out] at hup
      have ht := upF_all hup
      rw [HB.out] at ht
      subst ht
      have HO := Lib.hid hown
      clear hup hown hx
      go_wp2
      refine bodyPost_ret (v := .tuple #[u4, .bool true]) (by simp [results, Try.results37, go_sem]) rfl ⟨_, rfl, fun _ => ?_, HX.out⟩
      rw [HF.out]
      exact HO.out

end Go.Proofs.Ytidnikndjhfgaaa
