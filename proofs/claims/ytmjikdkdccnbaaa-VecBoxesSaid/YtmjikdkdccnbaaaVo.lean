/- 'shows': a Vec shows just these numbers. -/
import Derived.Test.YtmjikdkdccnbaaaVm
import Derived.Deep.RegionHeld3
import Derived.Deep.CutRange
import Derived.Deep.DeepCutAuto
namespace Go.Proofs.Ytmjikdkdccnbaaa
open Go.RowKit Bv Fl

attribute [local go_sem] run_store_f64
theorem cell_ext {w w' : World} {p : Addr} {u : Value} (hx : Ext w w') (h : w.cell? p = some u) : w'.cell? p = some u := (Below.cell hx (World.block_lt_of_cell? _ _ h)).trans h
/-- a struct of eight cells lies there -/
def St (w : World) (B : Nat) (c0 c1 c2 c3 c4 c5 c6 c7 : Value) : Prop :=
  w.cell? ⟨B, 0, none⟩ = some c0 ∧ w.cell? ⟨B, 1, none⟩ = some c1 ∧ w.cell? ⟨B, 2, none⟩ = some c2 ∧ w.cell? ⟨B, 3, none⟩ = some c3 ∧ w.cell? ⟨B, 4, none⟩ = some c4 ∧ w.cell? ⟨B, 5, none⟩ = some c5 ∧ w.cell? ⟨B, 6, none⟩ = some c6 ∧ w.cell? ⟨B, 7, none⟩ = some c7
theorem St.new (w : World) (c0 c1 c2 c3 c4 c5 c6 c7 : Value) (t : TypeId) : St (w.alloc (.cells #[c0, c1, c2, c3, c4, c5, c6, c7] t)) w.heap.size c0 c1 c2 c3 c4 c5 c6 c7 := by
  simp [St, World.cell?_alloc_new]
theorem St.ext {w w' : World} {B : Nat} {c0 c1 c2 c3 c4 c5 c6 c7 : Value} (h : St w B c0 c1 c2 c3 c4 c5 c6 c7) (hx : Ext w w') : St w' B c0 c1 c2 c3 c4 c5 c6 c7 :=
  ⟨cell_ext hx h.1, cell_ext hx h.2.1, cell_ext hx h.2.2.1, cell_ext hx h.2.2.2.1, cell_ext hx h.2.2.2.2.1, cell_ext hx h.2.2.2.2.2.1, cell_ext hx h.2.2.2.2.2.2.1, cell_ext hx h.2.2.2.2.2.2.2⟩
theorem ext_drew (a b : World) : Ext a b.drew ↔ Ext a b := ⟨fun h => ⟨h.os, h.tape, h.output, h.size, h.block⟩, fun h => h.drew⟩

theorem bitW_tidy (b : Bool) : tidy (bitW b) := by
  cases b
  · exact ⟨by decide, by decide, fun _ => rfl⟩
  · exact ⟨by decide, by decide, fun h => absurd h (by decide)⟩
theorem IsVec.num_tidy {w : World} {v : Value} {d : VD} (h : IsVec w v d) (hc : d.cls = 0) {k : Nat} (hk : k < d.len) : tidy (d.num k) := by
  rcases h with ⟨rfl, _⟩ | ⟨l, A, c, rfl, _⟩ | ⟨l, A, c, rfl, _, hb, _⟩ | ⟨l, A, c, rfl, _, hb, _⟩ | ⟨l, A, c, rfl, _, hb, _⟩ | ⟨l, A, c, rfl, _⟩ | ⟨n, cs, A, c, rfl, _⟩
  · exact absurd hk (Nat.not_lt_zero _)
  · exact bitW_tidy _
  · have hk : k < l.length := hk
    have h1 := hb _ (getD_mem hk)
    exact fi_tidy (n := l.getD k 0) (by omega) (by omega)
  · have hk : k < l.length := hk
    have := hb _ (getD_mem hk)
    exact fi_tidy this.1 this.2
  · have hk : k < l.length := hk
    exact hb _ (getD_memN hk)
  · exact absurd hc (by show ¬ (1 = 0); omega)
  · exact absurd hc (by show ¬ (2 = 0); omega)
theorem bitW_fi (b : Bool) : bitW b = fi (if b then 1 else 0) := by cases b <;> kernel_rfl
theorem IsVec.num_whl {w : World} {v : Value} {d : VD} (h : IsVec w v d) (hw : d.isWhl = true) (k : Nat) : d.num k = fi (d.whl k) := by
  rcases h with ⟨rfl, _⟩ | ⟨l, A, c, rfl, _⟩ | ⟨l, A, c, rfl, _, hb, _⟩ | ⟨l, A, c, rfl, _, hb, _⟩ | ⟨l, A, c, rfl, _, hb, _⟩ | ⟨l, A, c, rfl, _⟩ | ⟨n, cs, A, c, rfl, _⟩
  · exact absurd (show false = true from hw) (by decide)
  · exact bitW_fi _
  · rfl
  · rfl
  · exact absurd (show false = true from hw) (by decide)
  · exact absurd (show false = true from hw) (by decide)
  · exact absurd (show false = true from hw) (by decide)
theorem VD.nums_get (d : VD) {k : Nat} (h : k < d.len) : d.nums.getD k 0 = d.num k := by simp [VD.nums, List.getD, h]
theorem VD.nums_length (d : VD) : d.nums.length = d.len := by simp [VD.nums]
theorem VD.whls_get (d : VD) {k : Nat} (h : k < d.len) : d.whls.getD k 0 = d.whl k := by simp [VD.whls, List.getD, h]
theorem VD.whls_length (d : VD) : d.whls.length = d.len := by simp [VD.whls]

theorem same_yes (A A' : Option Addr) (l : List Nat) (n c c' : Nat) (hn : n = l.length) (w : World) (hl : n ≤ 1048576) (ht : ∀ x ∈ l, tidy x) (hs : Sl w 1 A n (f64s l)) (hs' : Sl w 1 A' n (f64s l)) : Calls Try.prog 46 #[.slice A n c, .slice A' n c'] w fun e w' => e = .returned (.bool true) ∧ Ext w w' := by
  refine (same_any A A' l l n n c c' hn hn w hl (fun x hx => ⟨(ht x hx).1.nn, (ht x hx).2.1⟩) (fun x hx => ⟨(ht x hx).1.nn, (ht x hx).2.1⟩) hs hs').mono ?_
  rintro e w' ⟨rfl, h⟩
  exact ⟨by simp, Ext.of_drewN h⟩

set_option maxHeartbeats 1500000
set_option maxRecDepth 100000 in
theorem shows_not (v : Value) (d : VD) (A : Option Addr) (n c : Nat) (w : World) (h : IsVec w v d) (hcl : d.cls = 0) (hw : d.isWhl = false) (hln : d.len = n) (hs : Sl w 1 A n (f64s d.nums)) :
    Calls Try.prog 28 #[v, .int .i64 (d.kind : Int), .slice A n c, .bool false] w fun e w' => e = .returned (.bool true) ∧ Ext w w' := by
  have hlim := h.lim
  have hnt := fun k (hk : k < d.len) => h.num_tidy hcl hk
  have hts : ∀ x ∈ d.nums, tidy x := by
    intro x hx
    obtain ⟨i, hi, rfl⟩ := List.mem_map.1 hx
    exact hnt i (by simpa using hi)
  have hk5 : d.kind ≠ 5 := fun e => by unfold VD.cls at hcl; rw [e] at hcl; exact absurd hcl (by decide)
  have hk6 : d.kind ≠ 6 := fun e => by unfold VD.cls at hcl; rw [e] at hcl; exact absurd hcl (by decide)
  obtain ⟨a1, n1, k1, bn, a3, n3, k3, a4, n4, k4, a5, n5, k5, a6, n6, k6, a7, n7, k7, rfl⟩ := h.shape
  obtain ⟨kk, hkk⟩ : ∃ kk : Int, ((d.kind : Nat) : Int) = kk := ⟨_, rfl⟩
  rw [hkk] at h ⊢
  have hcI : ((d.cls : Nat) : Int) = 0 := by rw [hcl]; rfl
  have hlI : ((d.len : Nat) : Int) = (n : Int) := by rw [hln]
  have hch : ∀ i, d.chrI i = 0 := fun i => by unfold VD.chrI; rw [if_neg (fun h => hk5 h.2.2)]
  have hn1 : d.numI (n : Int) = 0 := by unfold VD.numI; rw [if_neg (by omega)]
  have hn2 : d.numI (-1) = 0 := by unfold VD.numI; rw [if_neg (by omega)]
  have hno : ¬ (0 ≤ (n : Int) ∧ (n : Int) < (d.len : Int)) := by omega
  have HV : Hid (IsVec (w.alloc (.cells #[.int .i64 kk, .slice a1 n1 k1, .int .i64 bn, .slice a3 n3 k3, .slice a4 n4 k4, .slice a5 n5 k5, .slice a6 n6 k6, .slice a7 n7 k7] 34)) (.agg #[.int .i64 kk, .slice a1 n1 k1, .int .i64 bn, .slice a3 n3 k3, .slice a4 n4 k4, .slice a5 n5 k5, .slice a6 n6 k6, .slice a7 n7 k7]) d) := Lib.hid (h.ext ((Ext.refl _).alloc _))
  have HS := Lib.hid (hs.alloc (.cells #[.int .i64 kk, .slice a1 n1 k1, .int .i64 bn, .slice a3 n3 k3, .slice a4 n4 k4, .slice a5 n5 k5, .slice a6 n6 k6, .slice a7 n7 k7] 34))
  have HX := Lib.hid (Ext.refl (w.alloc (.cells #[.int .i64 kk, .slice a1 n1 k1, .int .i64 bn, .slice a3 n3 k3, .slice a4 n4 k4, .slice a5 n5 k5, .slice a6 n6 k6, .slice a7 n7 k7] 34)))
  have HT := Lib.hid hts
  have HNT := Lib.hid hnt
  have HLN := Lib.hid hln
  have HCL := Lib.hid hcl
  have HLI := Lib.hid hlim
  have HNO := Lib.hid hno
  have HNL : Hid (n = d.nums.length) := Lib.hid (by rw [VD.nums_length]; exact hln.symm)
  have HN1 : Hid (n ≤ 1048576) := Lib.hid (by omega)
  have HCI := Lib.hid hcI
  have HK5 := Lib.hid hk5
  have HK6 := Lib.hid hk6
  have HW := Lib.hid hw
  have HWZ : Hid (∀ i, d.whl i = 0) := Lib.hid fun i => by
    unfold VD.isWhl at hw; unfold VD.whl
    split at hw <;> simp_all
  clear h hs hts hnt hln hcl hlim hno hcI hk5 hk6 hw
  obtain ⟨hc, hf⟩ := HX.out.cells
  go_enter Try.func28, Try.ntmps28
  go_wp2_with fail
  refine (vwholes_none _ d _ (HV.out.ext HX.out) HW.out).mono ?_
  rintro e w' ⟨rfl, hx⟩
  replace HX := Lib.hid (HX.out.trans hx)
  clear hc hf hx
  obtain ⟨hc, hf⟩ := HX.out.cells
  go_wp2_with fail
  refine (vkind_any _ d _ (HV.out.ext HX.out)).mono ?_
  rintro e w' ⟨rfl, hx⟩
  replace HX := Lib.hid (HX.out.trans hx)
  clear hc hf hx
  obtain ⟨hc, hf⟩ := HX.out.cells
  rw [hkk]
  go_wp2_with fail
  refine (vclass_any _ d _ (HV.out.ext HX.out)).mono ?_
  rintro e w' ⟨rfl, hx⟩
  replace HX := Lib.hid (HX.out.trans hx)
  clear hc hf hx
  obtain ⟨hc, hf⟩ := HX.out.cells
  rw [HCI.out]
  go_wp2_with fail
  refine (vlen_any _ d _ (HV.out.ext HX.out)).mono ?_
  rintro e w' ⟨rfl, hx⟩
  replace HX := Lib.hid (HX.out.trans hx)
  clear hc hf hx
  obtain ⟨hc, hf⟩ := HX.out.cells
  rw [hlI]
  go_wp2_with fail
  refine (vnums_any _ d _ (HV.out.ext HX.out) HCL.out).mono ?_
  rintro e w' ⟨v', rfl, hown, hx⟩
  obtain ⟨B, cb, rfl, -, -⟩ := own_form hown
  replace HX := Lib.hid (HX.out.trans hx)
  rw [HLN.out] at hown
  have HT1 : Hid (Sl w' 1 B n (f64s d.nums)) := Lib.hid (Sl.own hown)
  have HS' := Lib.hid (HS.out.ext HX.out)
  rw [HLN.out]
  clear hc hf hx hown
  obtain ⟨hc, hf⟩ := HX.out.cells
  go_wp2_with fail
  refine (same_yes _ _ d.nums n _ _ HNL.out _ HN1.out HT.out HT1.out HS'.out).mono ?_
  rintro e w' ⟨rfl, hx⟩
  replace HX := Lib.hid (HX.out.trans hx)
  clear hc hf hx
  obtain ⟨hc, hf⟩ := HX.out.cells
  clear HT1 HS'
  go_wp2_with fail
  refine (vtext_none _ d _ (HV.out.ext HX.out) HK5.out).mono ?_
  rintro e w' ⟨rfl, hx⟩
  replace HX := Lib.hid (HX.out.trans hx)
  clear hc hf hx
  obtain ⟨hc, hf⟩ := HX.out.cells
  go_wp2_with fail
  refine (varrays_none _ d _ (HV.out.ext HX.out) HK6.out).mono ?_
  rintro e w' ⟨rfl, hx⟩
  replace HX := Lib.hid (HX.out.trans hx)
  clear hc hf hx
  obtain ⟨hc, hf⟩ := HX.out.cells
  go_wp2_with fail
  go_loopw [11] (fun i wr => ∃ k : Nat, k ≤ n ∧ i = .int .i64 k ∧ Ext (w.alloc (.cells #[.int .i64 kk, .slice a1 n1 k1, .int .i64 bn, .slice a3 n3 k3, .slice a4 n4 k4, .slice a5 n5 k5, .slice a6 n6 k6, .slice a7 n7 k7] 34)) wr) (fun i _ => n - (intOf i).toNat)
  case atStart => exact ⟨0, Nat.zero_le _, rfl, HX.out⟩
  case round =>
    obtain ⟨k, hk, rfl, hx⟩ := hrel
    clear hc hf HX
    have HX := Lib.hid hx
    obtain ⟨hc, hf⟩ := HX.out.cells
    clear hx
    by_cases hlt : k < n
    · have hkd : k < d.len := by rw [HLN.out]; exact hlt
      obtain ⟨g, u, rfl, hab, hu, hcell⟩ := HS.out.at1 hlt
      rw [f64s_get (by rw [VD.nums_length]; exact hkd), VD.nums_get d hkd] at hu
      cases hu
      have hkI : ((0 : Int) ≤ k) ∧ ((k : Int) < d.len) := ⟨by omega, by omega⟩
      have hnk : d.numI (k : Int) = d.num k := by unfold VD.numI; rw [if_pos hkI, Int.toNat_natCast]
      have hne : (FloatKind.f64.format.order (d.num k) (d.num k) != some .eq) = false := by
        have := (HNT.out k hkd).1.nn
        rw [c_ne this this]; simp
      have hcell : (w.alloc (.cells #[.int .i64 kk, .slice a1 n1 k1, .int .i64 bn, .slice a3 n3 k3, .slice a4 n4 k4, .slice a5 n5 k5, .slice a6 n6 k6, .slice a7 n7 k7] 34)).cell? (g.add k) = some (.float .f64 (d.num k)) := hcell
      have cw := fun w (hv : IsVec w (.agg #[.int .i64 kk, .slice a1 n1 k1, .int .i64 bn, .slice a3 n3 k3, .slice a4 n4 k4, .slice a5 n5 k5, .slice a6 n6 k6, .slice a7 n7 k7]) d) => vwhole_in _ d k w hv hkd
      rw [HW.out, HWZ.out k] at cw
      have HKD := Lib.hid hkd
      clear hkI hkd
      generalize d.num k = x at *
      go_wp2_with fail
      refine (cw _ (HV.out.ext HX.out)).mono ?_
      rintro e w' ⟨rfl, hx⟩
      replace HX := Lib.hid (HX.out.trans hx)
      clear hc hf hx
      obtain ⟨hc, hf⟩ := HX.out.cells
      go_upto_region 8 with fail
      have L9 : w'.cell? (g.add k) = some (.float .f64 x) := (Below.cell HX.out (by rw [addr_block]; exact hab)).trans hcell
      have hXX := HX.out
      have C0 : w'.cell? ⟨w.heap.size, 0, none⟩ = some (.int .i64 kk) := by simp [hc]
      have C1 : w'.cell? ⟨w.heap.size, 1, none⟩ = some (.slice a1 n1 k1) := by simp [hc]
      have C2 : w'.cell? ⟨w.heap.size, 2, none⟩ = some (.int .i64 bn) := by simp [hc]
      have C3 : w'.cell? ⟨w.heap.size, 3, none⟩ = some (.slice a3 n3 k3) := by simp [hc]
      have C4 : w'.cell? ⟨w.heap.size, 4, none⟩ = some (.slice a4 n4 k4) := by simp [hc]
      have C5 : w'.cell? ⟨w.heap.size, 5, none⟩ = some (.slice a5 n5 k5) := by simp [hc]
      have C6 : w'.cell? ⟨w.heap.size, 6, none⟩ = some (.slice a6 n6 k6) := by simp [hc]
      have C7 : w'.cell? ⟨w.heap.size, 7, none⟩ = some (.slice a7 n7 k7) := by simp [hc]
      go_cut [129] from 71 to 129 (fun t wx => t = .bool false ∧ Ext (w.alloc (.cells #[.int .i64 kk, .slice a1 n1 k1, .int .i64 bn, .slice a3 n3 k3, .slice a4 n4 k4, .slice a5 n5 k5, .slice a6 n6 k6, .slice a7 n7 k7] 34)) wx)
      case first =>
        refine wp_region_held_drew (S := (fun w' => Ext (w.alloc (.cells #[.int .i64 kk, .slice a1 n1 k1, .int .i64 bn, .slice a3 n3 k3, .slice a4 n4 k4, .slice a5 n5 k5, .slice a6 n6 k6, .slice a7 n7 k7] 34)) w' ∧ w'.cell? ⟨w.heap.size, 0, none⟩ = some (.int .i64 kk) ∧ w'.cell? ⟨w.heap.size, 1, none⟩ = some (.slice a1 n1 k1) ∧ w'.cell? ⟨w.heap.size, 2, none⟩ = some (.int .i64 bn) ∧ w'.cell? ⟨w.heap.size, 3, none⟩ = some (.slice a3 n3 k3) ∧ w'.cell? ⟨w.heap.size, 4, none⟩ = some (.slice a4 n4 k4) ∧ w'.cell? ⟨w.heap.size, 5, none⟩ = some (.slice a5 n5 k5) ∧ w'.cell? ⟨w.heap.size, 6, none⟩ = some (.slice a6 n6 k6) ∧ w'.cell? ⟨w.heap.size, 7, none⟩ = some (.slice a7 n7 k7) ∧ w'.cell? (g.add k) = some (.float .f64 x))) (by kernel_rfl) (by exact ⟨(ext_drew _ _).2 hXX, C0, C1, C2, C3, C4, C5, C6, C7, L9⟩) (fun hHeld => ?_)
        refine wpAnyH_take (i := 0) (oi := { dst := some 83, op := Op.load 34 (Operand.tmp 4), type := 34, pos := "law.go:26", after := #[], guard := none }) (v := ?v0) rfl (by kernel_rfl) (by kernel_rfl) (by kernel_rfl) (fun _ _ _ h => h) (Or.inl ⟨by rfl, ?hy0⟩) (by assumption) ?rest0
        case hy0 => (intro w hSw; (try dsimp only at hSw); go_simp; (first | done | with_reducible rfl))
        try simp only [Act.put, List.setIfInBounds_toArray, List.set_cons_zero, List.set_cons_succ]
        refine wpAnyH_take (i := 1) (oi := { dst := some 84, op := Op.move (Operand.tmp 11), type := 3, pos := "law.go:26", after := #[], guard := none }) (v := ?v1) rfl (by kernel_rfl) (by kernel_rfl) (by kernel_rfl) (fun _ _ _ h => h) (Or.inl ⟨by rfl, ?hy1⟩) (by assumption) ?rest1
        case hy1 => (intro w hSw; (try dsimp only at hSw); go_simp; (first | done | with_reducible rfl))
        try simp only [Act.put, List.setIfInBounds_toArray, List.set_cons_zero, List.set_cons_succ]
        refine wpAnyH_take (i := 3) (oi := { dst := some 86, op := Op.move (Operand.tmp 2), type := 32, pos := "law.go:26", after := #[], guard := none }) (v := ?v3) rfl (by kernel_rfl) (by kernel_rfl) (by kernel_rfl) (fun _ _ _ h => h) (Or.inl ⟨by rfl, ?hy3⟩) (by assumption) ?rest3
        case hy3 => (intro w hSw; (try dsimp only at hSw); go_simp; (first | done | with_reducible rfl))
        try simp only [Act.put, List.setIfInBounds_toArray, List.set_cons_zero, List.set_cons_succ]
        refine wpAnyH_take (i := 4) (oi := { dst := some 87, op := Op.move (Operand.tmp 11), type := 3, pos := "law.go:26", after := #[], guard := none }) (v := ?v4) rfl (by kernel_rfl) (by kernel_rfl) (by kernel_rfl) (fun _ _ _ h => h) (Or.inl ⟨by rfl, ?hy4⟩) (by assumption) ?rest4
        case hy4 => (intro w hSw; (try dsimp only at hSw); go_simp; (first | done | with_reducible rfl))
        try simp only [Act.put, List.setIfInBounds_toArray, List.set_cons_zero, List.set_cons_succ]
        refine wpAnyH_take (i := 5) (oi := { dst := some 88, op := Op.indexAddr 32 (Operand.tmp 86) (Operand.tmp 87), type := 0, pos := "law.go:26", after := #[{ on := 3, ground := Ground.data }, { on := 4, ground := Ground.data }], guard := none }) (v := ?v5) rfl (by kernel_rfl) (by kernel_rfl) (by kernel_rfl) (fun _ _ _ h => h) (Or.inl ⟨by rfl, ?hy5⟩) (by assumption) ?rest5
        case hy5 => (intro w hSw; (try dsimp only at hSw); go_simp; (first | done | with_reducible rfl))
        try simp only [Act.put, List.setIfInBounds_toArray, List.set_cons_zero, List.set_cons_succ]
        refine wpAnyH_take (i := 6) (oi := { dst := some 89, op := Op.load 53 (Operand.tmp 88), type := 53, pos := "law.go:26", after := #[{ on := 5, ground := Ground.data }], guard := none }) (v := ?v6) rfl (by kernel_rfl) (by kernel_rfl) (by kernel_rfl) (fun _ _ _ h => h) (Or.inl ⟨by rfl, ?hy6⟩) (by assumption) ?rest6
        case hy6 => (intro w hSw; (try dsimp only at hSw); go_simp; (first | done | with_reducible rfl))
        try simp only [Act.put, List.setIfInBounds_toArray, List.set_cons_zero, List.set_cons_succ]
        refine wpAnyH_ready (rs := [2]) (by kernel_rfl) (by simp) ?_
        refine AllReadyH.cons (o := { dst := some 85, op := Op.call { callee := Callee.value (Operand.func 23), args := #[Operand.tmp 83, Operand.tmp 84], argTypes := #[34, 3] }, type := 53, pos := "law.go:26", after := #[{ on := 0, ground := Ground.data }, { on := 1, ground := Ground.data }], guard := none }) rfl (fun K hK => ?_) AllReadyH.nil
        go_simp
        go_at_call 23
        refine (vnum_any _ d k _ (HV.out.ext hHeld.1)).mono ?_
        rintro e w5 ⟨rfl, hx5⟩
        rw [hnk]
        go_wp2_with fail
        refine hK.out _ _ ?_ (fun hHeld => ?_)
        · exact ⟨Ext.trans hHeld.1 hx5, cell_ext hx5 hHeld.2.1, cell_ext hx5 hHeld.2.2.1, cell_ext hx5 hHeld.2.2.2.1, cell_ext hx5 hHeld.2.2.2.2.1, cell_ext hx5 hHeld.2.2.2.2.2.1, cell_ext hx5 hHeld.2.2.2.2.2.2.1, cell_ext hx5 hHeld.2.2.2.2.2.2.2.1, cell_ext hx5 hHeld.2.2.2.2.2.2.2.2.1, cell_ext hx5 hHeld.2.2.2.2.2.2.2.2.2⟩
        clear hK K
        try simp only [Act.put, List.setIfInBounds_toArray, List.set_cons_zero, List.set_cons_succ]
        refine wpAnyH_take (i := 7) (oi := { dst := some 90, op := Op.binOp BinOp.neq 53 (Operand.tmp 85) (Operand.tmp 89) 53, type := 4, pos := "law.go:26", after := #[{ on := 2, ground := Ground.data }, { on := 6, ground := Ground.data }], guard := none }) (v := ?v7) rfl (by kernel_rfl) (by kernel_rfl) (by kernel_rfl) (fun _ _ _ h => h) (Or.inl ⟨by rfl, ?hy7⟩) (by assumption) ?rest7
        case hy7 => (intro w hSw; (try dsimp only at hSw); go_simp; (first | done | with_reducible rfl))
        try simp only [Act.put, List.setIfInBounds_toArray, List.set_cons_zero, List.set_cons_succ]
        refine wpAnyH_take (i := 8) (oi := { dst := some 91, op := Op.move (Operand.tmp 90), type := 4, pos := "law.go:26", after := #[{ on := 7, ground := Ground.data }, { on := 2, ground := Ground.chain }], guard := none }) (v := ?v8) rfl (by kernel_rfl) (by kernel_rfl) (by kernel_rfl) (fun _ _ _ h => h) (Or.inl ⟨by rfl, ?hy8⟩) (by assumption) ?rest8
        case hy8 => (intro w hSw; (try dsimp only at hSw); go_simp; (first | done | with_reducible rfl))
        try simp only [Act.put, List.setIfInBounds_toArray, List.set_cons_zero, List.set_cons_succ]
        refine wpAnyH_take (i := 9) (oi := { dst := some 92, op := Op.move (Operand.tmp 13), type := 4, pos := "law.go:26", after := #[{ on := 8, ground := Ground.guard }], guard := some (8, false) }) (v := ?v9) rfl (by kernel_rfl) (by kernel_rfl) (by kernel_rfl) (fun _ _ _ h => h) (Or.inl ⟨by rfl, ?hy9⟩) (by assumption) ?rest9
        case hy9 => (intro w hSw; (try dsimp only at hSw); go_simp; (first | done | with_reducible rfl))
        try simp only [Act.put, List.setIfInBounds_toArray, List.set_cons_zero, List.set_cons_succ]
        refine wpAnyH_take (i := 10) (oi := { dst := some 93, op := Op.move (Operand.tmp 3), type := 4, pos := "law.go:26", after := #[{ on := 8, ground := Ground.guard }], guard := some (8, false) }) (v := ?v10) rfl (by kernel_rfl) (by kernel_rfl) (by kernel_rfl) (fun _ _ _ h => h) (Or.inl ⟨by rfl, ?hy10⟩) (by assumption) ?rest10
        case hy10 => (intro w hSw; (try dsimp only at hSw); go_simp; (first | done | with_reducible rfl))
        try simp only [Act.put, List.setIfInBounds_toArray, List.set_cons_zero, List.set_cons_succ]
        refine wpAnyH_take (i := 11) (oi := { dst := some 94, op := Op.binOp BinOp.neq 4 (Operand.tmp 92) (Operand.tmp 93) 4, type := 4, pos := "law.go:26", after := #[{ on := 9, ground := Ground.data }, { on := 10, ground := Ground.data }, { on := 8, ground := Ground.guard }], guard := some (8, false) }) (v := ?v11) rfl (by kernel_rfl) (by kernel_rfl) (by kernel_rfl) (fun _ _ _ h => h) (Or.inl ⟨by rfl, ?hy11⟩) (by assumption) ?rest11
        case hy11 => (intro w hSw; (try dsimp only at hSw); go_simp; (first | done | with_reducible rfl))
        try simp only [Act.put, List.setIfInBounds_toArray, List.set_cons_zero, List.set_cons_succ]
        refine wpAnyH_take (i := 12) (oi := { dst := some 95, op := Op.pick (Operand.tmp 91) (Operand.const (Value.bool true)) (Operand.tmp 94), type := 4, pos := "law.go:26", after := #[{ on := 8, ground := Ground.data }, { on := 11, ground := Ground.data }], guard := none }) (v := ?v12) rfl (by kernel_rfl) (by kernel_rfl) (by kernel_rfl) (fun _ _ _ h => h) (Or.inl ⟨by rfl, ?hy12⟩) (by assumption) ?rest12
        case hy12 => (intro w hSw; (try dsimp only at hSw); go_simp; (first | done | with_reducible rfl))
        try simp only [Act.put, List.setIfInBounds_toArray, List.set_cons_zero, List.set_cons_succ]
        refine wpAnyH_take (i := 13) (oi := { dst := some 96, op := Op.move (Operand.tmp 95), type := 4, pos := "law.go:26", after := #[{ on := 12, ground := Ground.data }, { on := 8, ground := Ground.chain }], guard := none }) (v := ?v13) rfl (by kernel_rfl) (by kernel_rfl) (by kernel_rfl) (fun _ _ _ h => h) (Or.inl ⟨by rfl, ?hy13⟩) (by assumption) ?rest13
        case hy13 => (intro w hSw; (try dsimp only at hSw); go_simp; (first | done | with_reducible rfl))
        try simp only [Act.put, List.setIfInBounds_toArray, List.set_cons_zero, List.set_cons_succ]
        refine wpAnyH_take (i := 14) (oi := { dst := some 97, op := Op.move (Operand.tmp 3), type := 4, pos := "law.go:26", after := #[{ on := 13, ground := Ground.guard }], guard := some (13, false) }) (v := ?v14) rfl (by kernel_rfl) (by kernel_rfl) (by kernel_rfl) (fun _ _ _ h => h) (Or.inl ⟨by rfl, ?hy14⟩) (by assumption) ?rest14
        case hy14 => (intro w hSw; (try dsimp only at hSw); go_simp; (first | done | with_reducible rfl))
        try simp only [Act.put, List.setIfInBounds_toArray, List.set_cons_zero, List.set_cons_succ]
        refine wpAnyH_take (i := 15) (oi := { dst := some 98, op := Op.move (Operand.tmp 97), type := 4, pos := "law.go:26", after := #[{ on := 14, ground := Ground.data }, { on := 13, ground := Ground.chain }, { on := 13, ground := Ground.guard }], guard := some (13, false) }) (v := ?v15) rfl (by kernel_rfl) (by kernel_rfl) (by kernel_rfl) (fun _ _ _ h => h) (Or.inl ⟨by rfl, ?hy15⟩) (by assumption) ?rest15
        case hy15 => (intro w hSw; (try dsimp only at hSw); go_simp; (first | done | with_reducible rfl))
        try simp only [Act.put, List.setIfInBounds_toArray, List.set_cons_zero, List.set_cons_succ]
        refine wpAnyH_take (i := 16) (oi := { dst := some 99, op := Op.move (Operand.tmp 12), type := 2, pos := "law.go:26", after := #[{ on := 15, ground := Ground.guard }], guard := some (15, true) }) (v := undef) rfl (by kernel_rfl) (by kernel_rfl) (by kernel_rfl) (fun _ _ _ h => h) (Or.inr ⟨by rfl, rfl⟩) (by assumption) ?_
        try simp only [Act.put, List.setIfInBounds_toArray, List.set_cons_zero, List.set_cons_succ]
        refine wpAnyH_take (i := 17) (oi := { dst := some 100, op := Op.convert 2 53 (Operand.tmp 99), type := 53, pos := "law.go:26", after := #[{ on := 16, ground := Ground.data }, { on := 15, ground := Ground.guard }], guard := some (15, true) }) (v := undef) rfl (by kernel_rfl) (by kernel_rfl) (by kernel_rfl) (fun _ _ _ h => h) (Or.inr ⟨by rfl, rfl⟩) (by assumption) ?_
        try simp only [Act.put, List.setIfInBounds_toArray, List.set_cons_zero, List.set_cons_succ]
        refine wpAnyH_take (i := 18) (oi := { dst := some 101, op := Op.move (Operand.tmp 2), type := 32, pos := "law.go:26", after := #[{ on := 15, ground := Ground.guard }], guard := some (15, true) }) (v := undef) rfl (by kernel_rfl) (by kernel_rfl) (by kernel_rfl) (fun _ _ _ h => h) (Or.inr ⟨by rfl, rfl⟩) (by assumption) ?_
        try simp only [Act.put, List.setIfInBounds_toArray, List.set_cons_zero, List.set_cons_succ]
        refine wpAnyH_take (i := 19) (oi := { dst := some 102, op := Op.move (Operand.tmp 11), type := 3, pos := "law.go:26", after := #[{ on := 15, ground := Ground.guard }], guard := some (15, true) }) (v := undef) rfl (by kernel_rfl) (by kernel_rfl) (by kernel_rfl) (fun _ _ _ h => h) (Or.inr ⟨by rfl, rfl⟩) (by assumption) ?_
        try simp only [Act.put, List.setIfInBounds_toArray, List.set_cons_zero, List.set_cons_succ]
        refine wpAnyH_take (i := 20) (oi := { dst := some 103, op := Op.indexAddr 32 (Operand.tmp 101) (Operand.tmp 102), type := 0, pos := "law.go:26", after := #[{ on := 18, ground := Ground.data }, { on := 19, ground := Ground.data }, { on := 15, ground := Ground.guard }], guard := some (15, true) }) (v := undef) rfl (by kernel_rfl) (by kernel_rfl) (by kernel_rfl) (fun _ _ _ h => h) (Or.inr ⟨by rfl, rfl⟩) (by assumption) ?_
        try simp only [Act.put, List.setIfInBounds_toArray, List.set_cons_zero, List.set_cons_succ]
        refine wpAnyH_take (i := 21) (oi := { dst := some 104, op := Op.load 53 (Operand.tmp 103), type := 53, pos := "law.go:26", after := #[{ on := 20, ground := Ground.data }, { on := 15, ground := Ground.guard }], guard := some (15, true) }) (v := undef) rfl (by kernel_rfl) (by kernel_rfl) (by kernel_rfl) (fun _ _ _ h => h) (Or.inr ⟨by rfl, rfl⟩) (by assumption) ?_
        try simp only [Act.put, List.setIfInBounds_toArray, List.set_cons_zero, List.set_cons_succ]
        refine wpAnyH_take (i := 22) (oi := { dst := some 105, op := Op.binOp BinOp.neq 53 (Operand.tmp 100) (Operand.tmp 104) 53, type := 4, pos := "law.go:26", after := #[{ on := 17, ground := Ground.data }, { on := 21, ground := Ground.data }, { on := 15, ground := Ground.guard }], guard := some (15, true) }) (v := undef) rfl (by kernel_rfl) (by kernel_rfl) (by kernel_rfl) (fun _ _ _ h => h) (Or.inr ⟨by rfl, rfl⟩) (by assumption) ?_
        try simp only [Act.put, List.setIfInBounds_toArray, List.set_cons_zero, List.set_cons_succ]
        refine wpAnyH_take (i := 23) (oi := { dst := some 106, op := Op.move (Operand.tmp 105), type := 4, pos := "law.go:26", after := #[{ on := 22, ground := Ground.data }, { on := 15, ground := Ground.chain }, { on := 15, ground := Ground.guard }], guard := some (15, true) }) (v := undef) rfl (by kernel_rfl) (by kernel_rfl) (by kernel_rfl) (fun _ _ _ h => h) (Or.inr ⟨by rfl, rfl⟩) (by assumption) ?_
        try simp only [Act.put, List.setIfInBounds_toArray, List.set_cons_zero, List.set_cons_succ]
        refine wpAnyH_take (i := 24) (oi := { dst := some 107, op := Op.move (Operand.tmp 9), type := 31, pos := "law.go:26", after := #[{ on := 23, ground := Ground.guard }], guard := some (23, false) }) (v := undef) rfl (by kernel_rfl) (by kernel_rfl) (by kernel_rfl) (fun _ _ _ h => h) (Or.inr ⟨by rfl, rfl⟩) (by assumption) ?_
        try simp only [Act.put, List.setIfInBounds_toArray, List.set_cons_zero, List.set_cons_succ]
        refine wpAnyH_take (i := 25) (oi := { dst := some 108, op := Op.move (Operand.tmp 11), type := 3, pos := "law.go:26", after := #[{ on := 23, ground := Ground.guard }], guard := some (23, false) }) (v := undef) rfl (by kernel_rfl) (by kernel_rfl) (by kernel_rfl) (fun _ _ _ h => h) (Or.inr ⟨by rfl, rfl⟩) (by assumption) ?_
        try simp only [Act.put, List.setIfInBounds_toArray, List.set_cons_zero, List.set_cons_succ]
        refine wpAnyH_take (i := 26) (oi := { dst := some 109, op := Op.indexAddr 31 (Operand.tmp 107) (Operand.tmp 108), type := 0, pos := "law.go:26", after := #[{ on := 24, ground := Ground.data }, { on := 25, ground := Ground.data }, { on := 23, ground := Ground.guard }], guard := some (23, false) }) (v := undef) rfl (by kernel_rfl) (by kernel_rfl) (by kernel_rfl) (fun _ _ _ h => h) (Or.inr ⟨by rfl, rfl⟩) (by assumption) ?_
        try simp only [Act.put, List.setIfInBounds_toArray, List.set_cons_zero, List.set_cons_succ]
        refine wpAnyH_take (i := 27) (oi := { dst := some 110, op := Op.load 2 (Operand.tmp 109), type := 2, pos := "law.go:26", after := #[{ on := 26, ground := Ground.data }, { on := 23, ground := Ground.guard }], guard := some (23, false) }) (v := undef) rfl (by kernel_rfl) (by kernel_rfl) (by kernel_rfl) (fun _ _ _ h => h) (Or.inr ⟨by rfl, rfl⟩) (by assumption) ?_
        try simp only [Act.put, List.setIfInBounds_toArray, List.set_cons_zero, List.set_cons_succ]
        refine wpAnyH_take (i := 28) (oi := { dst := some 111, op := Op.move (Operand.tmp 12), type := 2, pos := "law.go:26", after := #[{ on := 23, ground := Ground.guard }], guard := some (23, false) }) (v := undef) rfl (by kernel_rfl) (by kernel_rfl) (by kernel_rfl) (fun _ _ _ h => h) (Or.inr ⟨by rfl, rfl⟩) (by assumption) ?_
        try simp only [Act.put, List.setIfInBounds_toArray, List.set_cons_zero, List.set_cons_succ]
        refine wpAnyH_take (i := 29) (oi := { dst := some 112, op := Op.binOp BinOp.neq 2 (Operand.tmp 110) (Operand.tmp 111) 2, type := 4, pos := "law.go:26", after := #[{ on := 27, ground := Ground.data }, { on := 28, ground := Ground.data }, { on := 23, ground := Ground.guard }], guard := some (23, false) }) (v := undef) rfl (by kernel_rfl) (by kernel_rfl) (by kernel_rfl) (fun _ _ _ h => h) (Or.inr ⟨by rfl, rfl⟩) (by assumption) ?_
        try simp only [Act.put, List.setIfInBounds_toArray, List.set_cons_zero, List.set_cons_succ]
        refine wpAnyH_take (i := 30) (oi := { dst := some 113, op := Op.pick (Operand.tmp 106) (Operand.const (Value.bool true)) (Operand.tmp 112), type := 4, pos := "law.go:26", after := #[{ on := 23, ground := Ground.data }, { on := 29, ground := Ground.data }, { on := 15, ground := Ground.guard }], guard := some (15, true) }) (v := undef) rfl (by kernel_rfl) (by kernel_rfl) (by kernel_rfl) (fun _ _ _ h => h) (Or.inr ⟨by rfl, rfl⟩) (by assumption) ?_
        try simp only [Act.put, List.setIfInBounds_toArray, List.set_cons_zero, List.set_cons_succ]
        refine wpAnyH_take (i := 31) (oi := { dst := some 114, op := Op.pick (Operand.tmp 98) (Operand.tmp 113) (Operand.const (Value.bool false)), type := 4, pos := "law.go:26", after := #[{ on := 15, ground := Ground.data }, { on := 30, ground := Ground.data }, { on := 13, ground := Ground.guard }], guard := some (13, false) }) (v := ?v31) rfl (by kernel_rfl) (by kernel_rfl) (by kernel_rfl) (fun _ _ _ h => h) (Or.inl ⟨by rfl, ?hy31⟩) (by assumption) ?rest31
        case hy31 => (intro w hSw; (try dsimp only at hSw); go_simp; (first | done | with_reducible rfl))
        try simp only [Act.put, List.setIfInBounds_toArray, List.set_cons_zero, List.set_cons_succ]
        refine wpAnyH_take (i := 32) (oi := { dst := some 115, op := Op.pick (Operand.tmp 96) (Operand.const (Value.bool true)) (Operand.tmp 114), type := 4, pos := "law.go:26", after := #[{ on := 13, ground := Ground.data }, { on := 31, ground := Ground.data }], guard := none }) (v := ?v32) rfl (by kernel_rfl) (by kernel_rfl) (by kernel_rfl) (fun _ _ _ h => h) (Or.inl ⟨by rfl, ?hy32⟩) (by assumption) ?rest32
        case hy32 => (intro w hSw; (try dsimp only at hSw); go_simp; (first | done | with_reducible rfl))
        try simp only [Act.put, List.setIfInBounds_toArray, List.set_cons_zero, List.set_cons_succ]
        refine wpAnyH_take (i := 33) (oi := { dst := some 116, op := Op.move (Operand.tmp 115), type := 4, pos := "law.go:26", after := #[{ on := 32, ground := Ground.data }, { on := 23, ground := Ground.chain }], guard := none }) (v := ?v33) rfl (by kernel_rfl) (by kernel_rfl) (by kernel_rfl) (fun _ _ _ h => h) (Or.inl ⟨by rfl, ?hy33⟩) (by assumption) ?rest33
        case hy33 => (intro w hSw; (try dsimp only at hSw); go_simp; (first | done | with_reducible rfl))
        try simp only [Act.put, List.setIfInBounds_toArray, List.set_cons_zero, List.set_cons_succ]
        refine wpAnyH_take (i := 34) (oi := { dst := some 117, op := Op.move (Operand.tmp 3), type := 4, pos := "law.go:26", after := #[{ on := 33, ground := Ground.guard }], guard := some (33, false) }) (v := ?v34) rfl (by kernel_rfl) (by kernel_rfl) (by kernel_rfl) (fun _ _ _ h => h) (Or.inl ⟨by rfl, ?hy34⟩) (by assumption) ?rest34
        case hy34 => (intro w hSw; (try dsimp only at hSw); go_simp; (first | done | with_reducible rfl))
        try simp only [Act.put, List.setIfInBounds_toArray, List.set_cons_zero, List.set_cons_succ]
        refine wpAnyH_take (i := 35) (oi := { dst := some 118, op := Op.unOp UnOp.not 4 (Operand.tmp 117), type := 4, pos := "law.go:26", after := #[{ on := 34, ground := Ground.data }, { on := 33, ground := Ground.guard }], guard := some (33, false) }) (v := ?v35) rfl (by kernel_rfl) (by kernel_rfl) (by kernel_rfl) (fun _ _ _ h => h) (Or.inl ⟨by rfl, ?hy35⟩) (by assumption) ?rest35
        case hy35 => (intro w hSw; (try dsimp only at hSw); go_simp; (first | done | with_reducible rfl))
        try simp only [Act.put, List.setIfInBounds_toArray, List.set_cons_zero, List.set_cons_succ]
        refine wpAnyH_take (i := 36) (oi := { dst := some 119, op := Op.move (Operand.tmp 118), type := 4, pos := "law.go:26", after := #[{ on := 35, ground := Ground.data }, { on := 33, ground := Ground.chain }, { on := 33, ground := Ground.guard }], guard := some (33, false) }) (v := ?v36) rfl (by kernel_rfl) (by kernel_rfl) (by kernel_rfl) (fun _ _ _ h => h) (Or.inl ⟨by rfl, ?hy36⟩) (by assumption) ?rest36
        case hy36 => (intro w hSw; (try dsimp only at hSw); go_simp; (first | done | with_reducible rfl))
        try simp only [Act.put, List.setIfInBounds_toArray, List.set_cons_zero, List.set_cons_succ]
        refine wpAnyH_take (i := 37) (oi := { dst := some 120, op := Op.move (Operand.tmp 12), type := 2, pos := "law.go:26", after := #[{ on := 36, ground := Ground.guard }], guard := some (36, true) }) (v := ?v37) rfl (by kernel_rfl) (by kernel_rfl) (by kernel_rfl) (fun _ _ _ h => h) (Or.inl ⟨by rfl, ?hy37⟩) (by assumption) ?rest37
        case hy37 => (intro w hSw; (try dsimp only at hSw); go_simp; (first | done | with_reducible rfl))
        try simp only [Act.put, List.setIfInBounds_toArray, List.set_cons_zero, List.set_cons_succ]
        refine wpAnyH_take (i := 38) (oi := { dst := some 121, op := Op.binOp BinOp.neq 2 (Operand.tmp 120) (Operand.const (Value.int IntKind.i64 0)) 2, type := 4, pos := "law.go:26", after := #[{ on := 37, ground := Ground.data }, { on := 36, ground := Ground.guard }], guard := some (36, true) }) (v := ?v38) rfl (by kernel_rfl) (by kernel_rfl) (by kernel_rfl) (fun _ _ _ h => h) (Or.inl ⟨by rfl, ?hy38⟩) (by assumption) ?rest38
        case hy38 => (intro w hSw; (try dsimp only at hSw); go_simp; (first | done | with_reducible rfl))
        try simp only [Act.put, List.setIfInBounds_toArray, List.set_cons_zero, List.set_cons_succ]
        refine wpAnyH_take (i := 39) (oi := { dst := some 122, op := Op.pick (Operand.tmp 119) (Operand.tmp 121) (Operand.const (Value.bool false)), type := 4, pos := "law.go:26", after := #[{ on := 36, ground := Ground.data }, { on := 38, ground := Ground.data }, { on := 33, ground := Ground.guard }], guard := some (33, false) }) (v := ?v39) rfl (by kernel_rfl) (by kernel_rfl) (by kernel_rfl) (fun _ _ _ h => h) (Or.inl ⟨by rfl, ?hy39⟩) (by assumption) ?rest39
        case hy39 => (intro w hSw; (try dsimp only at hSw); go_simp; (first | done | with_reducible rfl))
        try simp only [Act.put, List.setIfInBounds_toArray, List.set_cons_zero, List.set_cons_succ]
        refine wpAnyH_take (i := 40) (oi := { dst := some 123, op := Op.pick (Operand.tmp 116) (Operand.const (Value.bool true)) (Operand.tmp 122), type := 4, pos := "law.go:26", after := #[{ on := 33, ground := Ground.data }, { on := 39, ground := Ground.data }], guard := none }) (v := ?v40) rfl (by kernel_rfl) (by kernel_rfl) (by kernel_rfl) (fun _ _ _ h => h) (Or.inl ⟨by rfl, ?hy40⟩) (by assumption) ?rest40
        case hy40 => (intro w hSw; (try dsimp only at hSw); go_simp; (first | done | with_reducible rfl))
        try simp only [Act.put, List.setIfInBounds_toArray, List.set_cons_zero, List.set_cons_succ]
        refine wpAnyH_take (i := 41) (oi := { dst := some 124, op := Op.move (Operand.tmp 123), type := 4, pos := "law.go:26", after := #[{ on := 40, ground := Ground.data }, { on := 36, ground := Ground.chain }], guard := none }) (v := ?v41) rfl (by kernel_rfl) (by kernel_rfl) (by kernel_rfl) (fun _ _ _ h => h) (Or.inl ⟨by rfl, ?hy41⟩) (by assumption) ?rest41
        case hy41 => (intro w hSw; (try dsimp only at hSw); go_simp; (first | done | with_reducible rfl))
        try simp only [Act.put, List.setIfInBounds_toArray, List.set_cons_zero, List.set_cons_succ]
        refine wpAnyH_take (i := 42) (oi := { dst := some 125, op := Op.load 34 (Operand.tmp 4), type := 34, pos := "law.go:26", after := #[{ on := 41, ground := Ground.guard }], guard := some (41, false) }) (v := ?v42) rfl (by kernel_rfl) (by kernel_rfl) (by kernel_rfl) (fun _ _ _ h => h) (Or.inl ⟨by rfl, ?hy42⟩) (by assumption) ?rest42
        case hy42 => (intro w hSw; (try dsimp only at hSw); go_simp; (first | done | with_reducible rfl))
        try simp only [Act.put, List.setIfInBounds_toArray, List.set_cons_zero, List.set_cons_succ]
        refine wpAnyH_take (i := 43) (oi := { dst := some 126, op := Op.move (Operand.tmp 11), type := 3, pos := "law.go:26", after := #[{ on := 41, ground := Ground.guard }], guard := some (41, false) }) (v := ?v43) rfl (by kernel_rfl) (by kernel_rfl) (by kernel_rfl) (fun _ _ _ h => h) (Or.inl ⟨by rfl, ?hy43⟩) (by assumption) ?rest43
        case hy43 => (intro w hSw; (try dsimp only at hSw); go_simp; (first | done | with_reducible rfl))
        try simp only [Act.put, List.setIfInBounds_toArray, List.set_cons_zero, List.set_cons_succ]
        refine wpAnyH_ready (rs := [44]) (by kernel_rfl) (by simp) ?_
        refine AllReadyH.cons (o := { dst := some 127, op := Op.call { callee := Callee.value (Operand.func 25), args := #[Operand.tmp 125, Operand.tmp 126], argTypes := #[34, 3] }, type := 21, pos := "law.go:26", after := #[{ on := 42, ground := Ground.data }, { on := 43, ground := Ground.data }, { on := 41, ground := Ground.chain }, { on := 41, ground := Ground.guard }], guard := some (41, false) }) rfl (fun K hK => ?_) AllReadyH.nil
        go_simp
        go_at_call 25
        refine (vchar_any _ d k _ (HV.out.ext hHeld.1)).mono ?_
        rintro e w5 ⟨rfl, hx6⟩
        rw [hch]
        go_wp2_with fail
        refine hK.out _ _ ?_ (fun hHeld => ?_)
        · exact ⟨Ext.trans hHeld.1 hx6, cell_ext hx6 hHeld.2.1, cell_ext hx6 hHeld.2.2.1, cell_ext hx6 hHeld.2.2.2.1, cell_ext hx6 hHeld.2.2.2.2.1, cell_ext hx6 hHeld.2.2.2.2.2.1, cell_ext hx6 hHeld.2.2.2.2.2.2.1, cell_ext hx6 hHeld.2.2.2.2.2.2.2.1, cell_ext hx6 hHeld.2.2.2.2.2.2.2.2.1, cell_ext hx6 hHeld.2.2.2.2.2.2.2.2.2⟩
        clear hK K
        try simp only [Act.put, List.setIfInBounds_toArray, List.set_cons_zero, List.set_cons_succ]
        refine wpAnyH_take (i := 45) (oi := { dst := some 128, op := Op.binOp BinOp.neq 21 (Operand.tmp 127) (Operand.const (Value.int IntKind.i32 0)) 21, type := 4, pos := "law.go:26", after := #[{ on := 44, ground := Ground.data }, { on := 41, ground := Ground.guard }], guard := some (41, false) }) (v := ?v45) rfl (by kernel_rfl) (by kernel_rfl) (by kernel_rfl) (fun _ _ _ h => h) (Or.inl ⟨by rfl, ?hy45⟩) (by assumption) ?rest45
        case hy45 => (intro w hSw; (try dsimp only at hSw); go_simp; (first | done | with_reducible rfl))
        try simp only [Act.put, List.setIfInBounds_toArray, List.set_cons_zero, List.set_cons_succ]
        refine wpAnyH_take (i := 46) (oi := { dst := some 129, op := Op.pick (Operand.tmp 124) (Operand.const (Value.bool true)) (Operand.tmp 128), type := 4, pos := "law.go:26", after := #[{ on := 41, ground := Ground.data }, { on := 45, ground := Ground.data }], guard := none }) (v := ?v46) rfl (by kernel_rfl) (by kernel_rfl) (by kernel_rfl) (fun _ _ _ h => h) (Or.inl ⟨by rfl, ?hy46⟩) (by assumption) ?rest46
        case hy46 => (intro w hSw; (try dsimp only at hSw); go_simp; (first | done | with_reducible rfl))
        try simp only [Act.put, List.setIfInBounds_toArray, List.set_cons_zero, List.set_cons_succ]
        refine wpAnyH_done (by kernel_rfl) ?_ _
        have HY := hHeld.1
        go_wp2_with fail
        go_meet
        exact ⟨rfl, HY⟩
      case rest =>
        obtain ⟨rfl, hY⟩ := hcut
        have HY := Lib.hid hY
        clear hY hc hf
        have hnB := HN1.out
        go_wp2
        exact ⟨⟨k + 1, by omega, by go_num, HY.out⟩, by simp [intOf]; omega⟩
    · have hkn : k = n := by omega
      subst hkn
      have cw := fun w (hv : IsVec w (.agg #[.int .i64 kk, .slice a1 n1 k1, .int .i64 bn, .slice a3 n3 k3, .slice a4 n4 k4, .slice a5 n5 k5, .slice a6 n6 k6, .slice a7 n7 k7]) d) => vwhole_out _ d (k : Int) w hv HNO.out
      have cn := fun w (hv : IsVec w (.agg #[.int .i64 kk, .slice a1 n1 k1, .int .i64 bn, .slice a3 n3 k3, .slice a4 n4 k4, .slice a5 n5 k5, .slice a6 n6 k6, .slice a7 n7 k7]) d) => vnum_any _ d (k : Int) w hv
      rw [hn1] at cn
      go_wp2_with fail
      refine (cw _ (HV.out.ext HX.out)).mono ?_
      rintro e w' ⟨rfl, hx⟩
      replace HX := Lib.hid (HX.out.trans hx)
      clear hc hf hx
      obtain ⟨hc, hf⟩ := HX.out.cells
      go_wp2_with fail
      refine (cn _ (HV.out.ext HX.out)).mono ?_
      rintro e w' ⟨rfl, hx⟩
      replace HX := Lib.hid (HX.out.trans hx)
      clear hc hf hx
      obtain ⟨hc, hf⟩ := HX.out.cells
      go_wp2_with fail
      refine (vnum_any _ d (-1) _ (HV.out.ext HX.out)).mono ?_
      rintro e w' ⟨rfl, hx⟩
      replace HX := Lib.hid (HX.out.trans hx)
      clear hc hf hx
      obtain ⟨hc, hf⟩ := HX.out.cells
      rw [hn2]
      have HEN : Hid (Ext w w') := Lib.hid (((Ext.refl w).alloc _).trans HX.out)
      clear HX hc hf
      go_wp2
      refine bodyPost_ret (v := .bool true) (by simp [results, Try.results28, go_sem]) rfl ⟨rfl, HEN.out⟩
end Go.Proofs.Ytmjikdkdccnbaaa
