/- The document's Tidy of a list; a box. -/
import Derived.Test.YtmjikdkdccnbaaaVk
namespace Go.Proofs.Ytmjikdkdccnbaaa
open Go.RowKit Bv Fl

/-- what a loop that appends has so far -/
def pre (f : Nat → Value) (k : Nat) : List Value := (List.range k).map f
theorem pre_step (f : Nat → Value) (k : Nat) : pre f k ++ [f k] = pre f (k + 1) := by simp [pre, List.range_succ]
theorem pre_length (f : Nat → Value) (k : Nat) : (pre f k).length = k := by simp [pre]
/-- one element, laid for an append -/
theorem Sl.built (w : World) (us : Array Value) (t : TypeId) : Sl (w.alloc (.cells us t)) us.size (some ⟨w.heap.size, 0, none⟩) 1 us.toList := by
  refine ⟨by simp, fun _ => ⟨_, rfl, by simp, fun j u hu => ?_⟩⟩
  rw [show (Addr.add ⟨w.heap.size, 0, none⟩ j) = ⟨w.heap.size, j, none⟩ by unfold Addr.add; split <;> simp_all]
  rw [World.cell?_alloc_new]
  simpa using hu

set_option maxHeartbeats 1000000
def TidyPost (b : Bool) (l : List Nat) (n : Nat) (w : World) (e : Ending) (w' : World) : Prop :=
  ∃ v, e = .returned (.tuple #[v, .bool b]) ∧ (b = true → w'.ownsRow w.heap.size 53 1 v n (f64s (dnL l))) ∧ Ext w w'
theorem rtidyL_any (A : Option Addr) (l : List Nat) (n : Nat) (hn : n = l.length) (c : Nat) (w : World) (hl : n ≤ 1048576) (hs : Sl w 1 A n (f64s l)) : Calls Try.prog 27 #[.slice A n c] w (TidyPost (allF l) l n w) := by
  obtain ⟨i0, hi0, hz0, hz1, hz2⟩ := info_parts infoF
  have hfull := dnL_fill l
  rw [fillL_full, ← hn] at hfull
  have HS := Lib.hid hs
  have HN := Lib.hid hn
  have HF : Hid (f64s (dnL l) = pre (fun k => .float .f64 (dn (l.getD k 0))) n) := hfull
  clear hs hn hfull
  obtain ⟨b, hb⟩ : ∃ b, allF l = b := ⟨_, rfl⟩
  rw [hb]
  have HB := Lib.hid hb
  clear hb
  go_enter Try.func27, Try.ntmps27
  go_wp2_with fail
  go_loopw [4, 5] (fun o i wr => ∃ k : Nat, k ≤ n ∧ i = .int .i64 k ∧ upF l k ∧ wr.ownsRow w.heap.size 53 1 o k (pre (fun k => .float .f64 (dn (l.getD k 0))) k) ∧ Ext w wr) (fun _ i _ => n - (intOf i).toNat)
  case atStart => exact ⟨0, Nat.zero_le _, rfl, fun j hj => absurd hj (by omega), ⟨rfl, Or.inl ⟨rfl, rfl⟩⟩, Ext.refl w⟩
  case round =>
    obtain ⟨k, hk, rfl, hup, hown, hx⟩ := hrel
    have HU := Lib.hid hup
    have HX := Lib.hid hx
    clear hup
    by_cases hlt : k < n
    · obtain ⟨a, u, rfl, hab, hu, hcell⟩ := HS.out.at1 hlt
      rw [f64s_get (by rw [← HN.out]; exact hlt)] at hu
      cases hu
      have L0 : wr.cell? (a.add k) = some (.float .f64 (l.getD k 0)) := (Below.cell hx (by rw [addr_block]; exact hab)).trans hcell
      have ct := rtidy_any (l.getD k 0) wr
      clear hcell hx
      by_cases hg : fin (l.getD k 0)
      · have hup := Lib.hid (upF_step HU.out hg)
        rw [decide_eq_true hg] at ct
        have HO := Lib.hid hown
        have HP : Hid (pre (fun k => Value.float .f64 (dn (l.getD k 0))) k ++ [.float .f64 (dn (l.getD k 0))] = pre (fun k => Value.float .f64 (dn (l.getD k 0))) (k + 1)) := pre_step _ k
        clear hown HU hg
        generalize l.getD k 0 = x at *
        have HW : Hid (∀ o, (wr.alloc o).ownsRow w.heap.size 53 1 u4 k (pre (fun k => .float .f64 (dn (l.getD k 0))) k)) := fun o => own_ext HO.out ((Ext.refl _).alloc _)
        have HR : Hid (Sl (wr.alloc (.cells #[.float .f64 (dn x)] 53)) 1 (some ⟨wr.heap.size, 0, none⟩) 1 [.float .f64 (dn x)]) := Sl.built wr #[.float .f64 (dn x)] 53
        have h1 : ∀ u ∈ [Value.float .f64 (dn x)], u.oneCell' = true := by intro u hu; simp at hu; subst hu; rfl
        have hbase : ∀ o, w.heap.size ≤ (wr.alloc o).heap.size := fun o => by have := HX.out.size; simp; omega
        have hlim : k + 1 ≤ 1099511627776 := by omega
        go_wp2_with fail
        refine ct.mono ?_
        rintro e w4 ⟨rfl, rfl⟩
        go_wp2_with (at_builtin; refine wpList_append_sl _ rfl _ _ 32 rfl w.heap.size 53 i0 (.float .f64 0) 1 8 Try.underlying32 hi0 hz0 hz1 hz2 rfl (by omega) _ k _ rfl (HW.out _) (some ⟨wr.heap.size, 0, none⟩) 1 1 [.float .f64 (dn x)] rfl HR.out h1 hlim (by omega) (hbase _) ?_; intro v' w1 hown hbel)
        refine ⟨⟨k + 1, by omega, by go_num, hup.out, by rw [← HP.out]; exact hown, ?_⟩, by simp [intOf]; omega⟩
        exact (HX.out.alloc _).trans' hbel
      · have hf := allF_false (by rw [← HN.out]; exact hlt) hg
        rw [HB.out] at hf
        subst hf
        rw [decide_eq_false hg] at ct
        clear hg hown
        generalize l.getD k 0 = x at *
        go_wp2_with fail
        refine ct.mono ?_
        rintro e w4 ⟨rfl, rfl⟩
        go_wp2
        refine bodyPost_ret (v := .tuple #[.slice none 0 0, .bool false]) (by simp [results, Try.results27, go_sem]) rfl ⟨_, rfl, (fun h => absurd h (by decide)), HX.out⟩
    · have hkn : k = n := by omega
      subst hkn
      have hup := HU.out
      rw [HN.out] at hup
      have ht := upF_all hup
      rw [HB.out] at ht
      subst ht
      have HO := Lib.hid hown
      clear hup hown hx
      go_wp2
      refine bodyPost_ret (v := .tuple #[u4, .bool true]) (by simp [results, Try.results27, go_sem]) rfl ⟨_, rfl, fun _ => ?_, HX.out⟩
      rw [HF.out]
      exact HO.out

theorem vbox_none (v : Value) (d : VD) (i : Int) (w : World) (h : IsVec w v d) (hi : ¬ (d.kind = 6 ∧ 0 ≤ i ∧ i < (d.len : Int))) : Calls Try.prog 17 #[v, .int .i64 i] w fun e w' => e = .returned zeroArr ∧ Ext w w' := by
  have HV := Lib.hid h
  by_cases hk : d.kind = 6
  · have hd := decide_eq_false (fun h => hi ⟨hk, h⟩ : ¬ (0 ≤ i ∧ i < (d.len : Int)))
    obtain ⟨a1, n1, k1, bn, a3, n3, k3, a4, n4, k4, a5, n5, k5, a6, n6, k6, a7, n7, k7, rfl⟩ := h.shape
    rw [hk] at HV ⊢
    have HV : Hid (IsVec w (.agg #[.int .i64 6, .slice a1 n1 k1, .int .i64 bn, .slice a3 n3 k3, .slice a4 n4 k4, .slice a5 n5 k5, .slice a6 n6 k6, .slice a7 n7 k7]) d) := HV
    show Calls Try.prog 17 #[.agg #[.int .i64 6, .slice a1 n1 k1, .int .i64 bn, .slice a3 n3 k3, .slice a4 n4 k4, .slice a5 n5 k5, .slice a6 n6 k6, .slice a7 n7 k7], .int .i64 i] w _
    clear h hi hk
    go_enter Try.func17, Try.ntmps17
    go_wp2_with fail
    refine (vin_any _ d _ _ (by exact HV.out.ext (((Ext.refl w).alloc _).alloc _))).mono ?_
    rintro e w1 ⟨rfl, hx⟩
    have HX := Lib.hid ((((Ext.refl w).alloc _).alloc _).trans hx)
    obtain ⟨hc, hf⟩ := hx.cells
    clear hx
    rw [hd]
    go_wp2
    refine bodyPost_ret (v := zeroArr) (by simp [results, Try.results17, go_sem, zeroArr, hc]) rfl ⟨rfl, ?_⟩
    repeat (refine Ext.setCell ?_ (by simp) _)
    exact HX.out
  · obtain ⟨a1, n1, k1, bn, a3, n3, k3, a4, n4, k4, a5, n5, k5, a6, n6, k6, a7, n7, k7, rfl⟩ := h.shape
    have hb : ((d.kind : Int) != 6) = true := by simp; omega
    clear h hi hk HV
    generalize (d.kind : Int) = kk at *
    go_enter Try.func17, Try.ntmps17
    go_wp2
    refine bodyPost_ret (v := zeroArr) (by simp [results, Try.results17, go_sem, zeroArr]) rfl ⟨rfl, ?_⟩
    exact ((Ext.refl w).alloc _).alloc _

theorem vbox_in (v : Value) (cs : List Value) (k : Nat) (w : World) (h : IsVec w v (VD.boxes cs)) (hk : 9 * k + 9 ≤ cs.length)
    (a0 : Option Addr) (n0 c0 : Nat) (k1 : Int) (a2 : Option Addr) (n2 c2 : Nat) (k3 : Int) (a4 : Option Addr) (n4 c4 : Nat) (a5 : Option Addr) (n5 c5 : Nat) (a6 : Option Addr) (n6 c6 : Nat) (a7 : Option Addr) (n7 c7 : Nat) (a8 : Option Addr) (n8 c8 : Nat)
    (hc : (cs.drop (9 * k)).take 9 = [.slice a0 n0 c0, .int .i64 k1, .slice a2 n2 c2, .int .i64 k3, .slice a4 n4 c4, .slice a5 n5 c5, .slice a6 n6 c6, .slice a7 n7 c7, .slice a8 n8 c8]) :
    Calls Try.prog 17 #[v, .int .i64 (k : Int)] w fun e w' => e = .returned (.agg #[.slice a0 n0 c0, .int .i64 k1, .slice a2 n2 c2, .int .i64 k3, .slice a4 n4 c4, .slice a5 n5 c5, .slice a6 n6 c6, .slice a7 n7 c7, .slice a8 n8 c8]) ∧ Ext w w' := by
  have HV := Lib.hid h
  have hlim := h.lim
  rcases h with ⟨h, _⟩ | ⟨l, A, c, h, _⟩ | ⟨l, A, c, h, _⟩ | ⟨l, A, c, h, _⟩ | ⟨l, A, c, h, _⟩ | ⟨l, A, c, h, hl, hv, hs⟩ | ⟨n, cs', A, c, h, hn, hl, h1, rfl, hs⟩
  · cases h
  · cases h
  · cases h
  · cases h
  · cases h
  · cases h
  · obtain rfl : cs = cs' := by cases h; rfl
    clear h
    have hkn : k < n := by omega
    have hlen := VD.len_boxes cs n hl
    have hd : decide (0 ≤ (k : Int) ∧ (k : Int) < ((VD.boxes cs).len : Int)) = true := decide_eq_true ⟨by omega, by rw [hlen]; omega⟩
    obtain ⟨a, rfl, hab, hcell⟩ := hs.2 (by omega)
    have hg : ∀ j, j < 9 → w.cell? ((a.add (k * 9)).add j) = some ([Value.slice a0 n0 c0, .int .i64 k1, .slice a2 n2 c2, .int .i64 k3, .slice a4 n4 c4, .slice a5 n5 c5, .slice a6 n6 c6, .slice a7 n7 c7, .slice a8 n8 c8].getD j undef) := by
      intro j hj
      rw [addr_add]
      refine hcell _ _ ?_
      rw [← hc]
      have h2 : 9 * k + j < cs.length := by omega
      simp [List.getD, hj, List.getElem?_drop, h2, Nat.mul_comm k 9]
    clear hc hcell hs hlim h1 hl hlen
    generalize VD.boxes cs = d at *
    go_enter Try.func17, Try.ntmps17
    go_wp2_with fail
    refine (vin_any _ d _ _ (by exact HV.out.ext (((Ext.refl w).alloc _).alloc _))).mono ?_
    rintro e w1 ⟨rfl, hx⟩
    have HX := Lib.hid ((((Ext.refl w).alloc _).alloc _).trans hx)
    obtain ⟨hc, hf⟩ := hx.cells
    have hL : ∀ j, j < 9 → w1.cell? ((a.add (k * 9)).add j) = some ([Value.slice a0 n0 c0, .int .i64 k1, .slice a2 n2 c2, .int .i64 k3, .slice a4 n4 c4, .slice a5 n5 c5, .slice a6 n6 c6, .slice a7 n7 c7, .slice a8 n8 c8].getD j undef) := fun j hj => (Below.cell HX.out (by rw [addr_block, addr_block]; exact hab)).trans (hg j hj)
    have L0 : w1.cell? (a.add (k * 9)) = some (.slice a0 n0 c0) := by have := hL 0 (by omega); rwa [show (a.add (k * 9)).add 0 = a.add (k * 9) from rfl] at this
    have L1 : w1.cell? ⟨(a.add (k * 9)).block, (a.add (k * 9)).off + 1, none⟩ = some (.int .i64 k1) := hL 1 (by omega)
    have L2 : w1.cell? ⟨(a.add (k * 9)).block, (a.add (k * 9)).off + 2, none⟩ = some (.slice a2 n2 c2) := hL 2 (by omega)
    have L3 : w1.cell? ⟨(a.add (k * 9)).block, (a.add (k * 9)).off + 3, none⟩ = some (.int .i64 k3) := hL 3 (by omega)
    have L4 : w1.cell? ⟨(a.add (k * 9)).block, (a.add (k * 9)).off + 4, none⟩ = some (.slice a4 n4 c4) := hL 4 (by omega)
    have L5 : w1.cell? ⟨(a.add (k * 9)).block, (a.add (k * 9)).off + 5, none⟩ = some (.slice a5 n5 c5) := hL 5 (by omega)
    have L6 : w1.cell? ⟨(a.add (k * 9)).block, (a.add (k * 9)).off + 6, none⟩ = some (.slice a6 n6 c6) := hL 6 (by omega)
    have L7 : w1.cell? ⟨(a.add (k * 9)).block, (a.add (k * 9)).off + 7, none⟩ = some (.slice a7 n7 c7) := hL 7 (by omega)
    have L8 : w1.cell? ⟨(a.add (k * 9)).block, (a.add (k * 9)).off + 8, none⟩ = some (.slice a8 n8 c8) := hL 8 (by omega)
    clear hx hg hL hab
    rw [hd]
    go_wp2
    refine bodyPost_ret (v := .agg #[.slice a0 n0 c0, .int .i64 k1, .slice a2 n2 c2, .int .i64 k3, .slice a4 n4 c4, .slice a5 n5 c5, .slice a6 n6 c6, .slice a7 n7 c7, .slice a8 n8 c8]) (by simp [results, Try.results17, go_sem, hc]) rfl ⟨rfl, ?_⟩
    repeat (refine Ext.setCell ?_ (by simp) _)
    exact HX.out
end Go.Proofs.Ytmjikdkdccnbaaa
