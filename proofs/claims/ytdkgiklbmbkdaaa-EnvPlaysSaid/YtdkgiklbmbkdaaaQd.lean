/- Contracts of squeeze: wholes, intoBits, intoSmalls. -/
import Derived.Test.YtdkgiklbmbkdaaaQ
namespace Go.Proofs.Ytdkgiklbmbkdaaa
open Go.RowKit Bv Fl

attribute [local go_sem] run_store_f64
theorem toI_fill {l : List Nat} (h : ∀ j, j < l.length → whole (l.getD j 0)) : i64s (toI l) = fillL (fun k => .int .i64 (wn (l.getD k 0))) (.int .i64 0) l.length l.length := by
  rw [fillL_full]
  apply List.ext_getElem (by simp [i64s, toI])
  intro j h1 h2
  have hj : j < l.length := by simpa [i64s, toI] using h1
  simp only [i64s, toI, List.getElem_map, List.getElem_range, List.map_map, Function.comp]
  rw [wn_whole (h j hj)]
  simp [List.getD, hj]
theorem toI_fill8 {l : List Nat} (h : ∀ j, j < l.length → whole (l.getD j 0)) : i8s (toI l) = fillL (fun k => .int .i8 (wn (l.getD k 0))) (.int .i8 0) l.length l.length := by
  rw [fillL_full]
  apply List.ext_getElem (by simp [i8s, toI])
  intro j h1 h2
  have hj : j < l.length := by simpa [i8s, toI] using h1
  simp only [i8s, toI, List.getElem_map, List.getElem_range, List.map_map, Function.comp]
  rw [wn_whole (h j hj)]
  simp [List.getD, hj]
theorem toB_fill (l : List Nat) : bools (toB l) = fillL (fun k => .bool (decide (l.getD k 0 = 4607182418800017408))) (.bool false) l.length l.length := by
  rw [fillL_full]
  apply List.ext_getElem (by simp [bools, toB])
  intro j h1 h2
  have hj : j < l.length := by simpa [bools, toB] using h1
  simp only [bools, toB, List.getElem_map, List.getElem_range, List.map_map, Function.comp]
  simp [List.getD, hj]
def up1 (l : List Nat) (k : Nat) : Prop := ∀ j, j < k → l.getD j 0 = 0 ∨ l.getD j 0 = 4607182418800017408
theorem up1_step {l : List Nat} {k : Nat} (h : up1 l k) (g : l.getD k 0 = 0 ∨ l.getD k 0 = 4607182418800017408) : up1 l (k + 1) := by
  intro j hj
  by_cases e : j = k
  · subst e; exact g
  · exact h j (by omega)
def up2 (l : List Nat) (k : Nat) : Prop := ∀ j, j < k → whole (l.getD j 0) ∧ -128 ≤ wn (l.getD j 0) ∧ wn (l.getD j 0) ≤ 127
theorem up2_step {l : List Nat} {k : Nat} (h : up2 l k) (g : whole (l.getD k 0) ∧ -128 ≤ wn (l.getD k 0) ∧ wn (l.getD k 0) ≤ 127) : up2 l (k + 1) := by
  intro j hj
  by_cases e : j = k
  · subst e; exact g
  · exact h j (by omega)
theorem up0 {p : Nat → Prop} : ∀ j, j < 0 → p j := fun _ hj => absurd hj (Nat.not_lt_zero _)

/-- a slice of whole numbers, or none -/
def WholesPost (b : Bool) (l : List Nat) (n : Nat) (w : World) (e : Ending) (w' : World) : Prop :=
  ∃ B cb, e = .returned (.tuple #[if b then .slice B n cb else .slice none 0 0, .bool b]) ∧ (b = true → w'.ownsRow w.heap.size 2 1 (.slice B n cb) n (i64s (toI l))) ∧ Ext w w'
/-- numbers in a new Vec, or none -/
def IntoPost (b : Bool) (k : Nat) (l : List Nat) (w : World) (e : Ending) (w' : World) : Prop :=
  ∃ v, e = .returned (.tuple #[v, .bool b]) ∧ (b = true → NumS w' v k l (New w.heap.size)) ∧ (b = false → v = zeroVec) ∧ Ext w w'
set_option maxHeartbeats 1000000

theorem sqwholes_any (v : Value) (K : Nat) (l : List Nat) (w : World) (h : IsNum w v K l) : Calls Try.prog 61 #[v] w (WholesPost (allW l) l l.length w) := by
  obtain ⟨i0, hi0, hz0, hz1, hz2⟩ := info_parts infoI
  have hlim := h.lim
  have HTD := Lib.hid h.tidy
  obtain ⟨f1, fn, f3, f4, f5, f6, f7, rfl⟩ := h.form
  have HV := Lib.hid (h.ext ((Ext.refl w).alloc (.cells #[.int .i64 (K : Int), f1, .int .i64 fn, f3, f4, f5, f6, f7] 47)))
  have HX := Lib.hid (Ext.refl (w.alloc (.cells #[.int .i64 (K : Int), f1, .int .i64 fn, f3, f4, f5, f6, f7] 47)))
  have HE : Hid (Ext w (w.alloc (.cells #[.int .i64 (K : Int), f1, .int .i64 fn, f3, f4, f5, f6, f7] 47))) := Lib.hid ((Ext.refl w).alloc (.cells #[.int .i64 (K : Int), f1, .int .i64 fn, f3, f4, f5, f6, f7] 47))
  obtain ⟨hc, hf⟩ := HX.out.cells
  obtain ⟨n, hn⟩ : ∃ n, l.length = n := ⟨_, rfl⟩
  have cl := fun w h => nlen_any (.agg #[.int .i64 (K : Int), f1, .int .i64 fn, f3, f4, f5, f6, f7]) K l w h
  rw [hn] at hlim cl
  have HN := Lib.hid hn
  have hsz : i0.bytes * n ≤ 281474976710656 := by rw [hz2]; omega
  clear hn h
  obtain ⟨b, hb⟩ : ∃ b, allW l = b := ⟨_, rfl⟩
  rw [hb, HN.out]
  have HB := Lib.hid hb
  clear hb

  go_enter Try.func61, Try.ntmps61
  go_wp2_with fail
  refine (cl _ (HV.out.ext HX.out)).mono ?_
  rintro e w2 ⟨rfl, hx⟩
  replace HX := Lib.hid (HX.out.trans hx)
  have hs2 : w.heap.size + 1 ≤ w2.heap.size := by have := HX.out.size; simpa using this
  clear hc hf hx cl
  obtain ⟨hc, hf⟩ := HX.out.cells
  go_wp2_with (at_make; refine wpList_make_full _ rfl _ _ 42 rfl w2.heap.size 2 i0 (.int .i64 0) 1 Try.underlying42 hi0 hz0 hz1 .i64 .i64 _ _ n rfl rfl rfl rfl hsz (by simp only [maxLen]; omega) (by simp) ?_)
  intro w3 hown hg
  have hx3 := ext_none hg
  have HR : Hid (w3.ownsRow w2.heap.size 2 1 (.slice (some ⟨w2.heap.size, 0, none⟩) n n) n (fillL (fun k => .int .i64 (wn (l.getD k 0))) (.int .i64 0) n 0)) := by
    have e := made_zero (.int .i64 0) n (fun k => .int .i64 (wn (l.getD k 0)))
    rw [e] at hown; exact hown
  replace HX := Lib.hid (HX.out.trans hx3)
  clear hown hg hx3 hsz hc hf
  obtain ⟨hc, hf⟩ := HX.out.cells
  go_wp2_with fail
  go_loopw [13] (fun i wr => ∃ k : Nat, k ≤ n ∧ i = .int .i64 k ∧ upW l k ∧ wr.ownsRow w2.heap.size 2 1 (.slice (some ⟨w2.heap.size, 0, none⟩) n n) n (fillL (fun k => .int .i64 (wn (l.getD k 0))) (.int .i64 0) n k) ∧ Ext (w.alloc (.cells #[.int .i64 (K : Int), f1, .int .i64 fn, f3, f4, f5, f6, f7] 47)) wr) (fun i _ => n - (intOf i).toNat)
  case atStart => exact ⟨0, Nat.zero_le _, rfl, upW_zero l, HR.out, HX.out⟩
  case round =>
    obtain ⟨k, hk, rfl, hup, hown, hx⟩ := hrel
    have HU := Lib.hid hup
    clear hc hf HX
    have HX := Lib.hid hx
    obtain ⟨hc, hf⟩ := HX.out.cells
    clear hup hx
    by_cases hlt : k < n
    · have hkl : k < l.length := by rw [HN.out]; exact hlt
      have cw := fun w h => sqwhole_any (.agg #[.int .i64 (K : Int), f1, .int .i64 fn, f3, f4, f5, f6, f7]) K l k w h hkl
      have HFK : Hid ((fillL (fun k => .int .i64 (wn (l.getD k 0))) (.int .i64 0) n k).set k (.int .i64 (wn (l.getD k 0))) = fillL (fun k => .int .i64 (wn (l.getD k 0))) (.int .i64 0) n (k + 1)) := Lib.hid (fillL_set (fun k => .int .i64 (wn (l.getD k 0))) (.int .i64 0) hlt)
      by_cases hg : whole (l.getD k 0)
      · have hup := Lib.hid (upW_step HU.out hg)
        rw [decide_eq_true hg] at cw
        clear hg HU hkl
        generalize hwx : wn (l.getD k 0) = x at *
        have HWX := Lib.hid hwx
        clear hwx
        go_wp2_with fail
        refine (cw _ (HV.out.ext HX.out)).mono ?_
        rintro e w' ⟨rfl, hx⟩
        have hown2 := own_ext hown hx
        have F0 : w'.cell? ⟨w2.heap.size, k, none⟩ = some (.int .i64 0) := by
          rw [hown2.cellAt k (by omega)]; exact fillL_get _ _ hlt
        have F1 : w'.frozen? ⟨w2.heap.size, k, none⟩ = false := hown2.frozenAt k
        have hst := (hown2.stored k (.int .i64 x)).1
        rw [HFK.out] at hst
        have H1 := Lib.hid hst
        replace HX := Lib.hid (HX.out.trans hx)
        have H2 := Lib.hid (HX.out.setCell (p := ⟨w2.heap.size, k, none⟩) (by simp; omega) (.int .i64 x))
        clear hst hown2 hown hx
        clear hc hf
        go_wp2
        exact ⟨⟨k + 1, by omega, by go_num, hup.out, H1.out, H2.out⟩, by simp [intOf]; omega⟩
      · have hf0 := allW_false hkl hg
        rw [HB.out] at hf0
        subst hf0
        rw [decide_eq_false hg] at cw
        clear hg HU hkl hown HFK
        generalize wn (l.getD k 0) = x at *
        go_wp2_with fail
        refine (cw _ (HV.out.ext HX.out)).mono ?_
        rintro e w' ⟨rfl, hx⟩
        replace HX := Lib.hid (HX.out.trans hx)
        clear hx hc hf
        go_wp2
        go_ret2
        exact ⟨none, 0, rfl, (fun h => absurd h (by decide)), HE.out.trans HX.out⟩
    · have hkn : k = n := by omega
      subst hkn
      have hup : ∀ j, j < l.length → whole (l.getD j 0) := by rw [HN.out]; exact HU.out
      have ht := allW_iff.2 hup
      rw [HB.out] at ht
      subst ht
      have HO : Hid (wr.ownsRow w.heap.size 2 1 (.slice (some ⟨w2.heap.size, 0, none⟩) k k) k (i64s (toI l))) := Lib.hid (by rw [toI_fill hup, HN.out]; exact own_base hown (by omega))
      clear hup hown hc hf
      go_wp2
      go_ret2
      exact ⟨_, k, rfl, fun _ => HO.out, HE.out.trans HX.out⟩

theorem vbits_val (A : Option Addr) (m c : Nat) (n : Int) (w : World) : Calls Try.prog 74 #[.agg #[.slice A m c, .int .i64 n]] w fun e w' => e = .returned (.agg #[.int .i64 1, .slice A m c, .int .i64 n, .slice none 0 0, .slice none 0 0, .slice none 0 0, .slice none 0 0, .slice none 0 0]) ∧ Ext w w' := by
  go_enter Try.func74, Try.ntmps74
  go_wp2
  refine bodyPost_ret (v := .agg #[.int .i64 1, .slice A m c, .int .i64 n, .slice none 0 0, .slice none 0 0, .slice none 0 0, .slice none 0 0, .slice none 0 0]) (by simp [results, Try.results74, go_sem]) rfl ⟨rfl, ?_⟩
  exact ((Ext.refl w).alloc _).alloc _
theorem isvec_bits {w : World} {A : Option Addr} {c : Nat} {l : List Bool} (hl : l.length ≤ 1048576) (hs : Sl w 1 A (wc l.length) (u64s (words l))) : IsVec w (.agg #[.int .i64 1, .slice A (wc l.length) c, .int .i64 (l.length : Int), .slice none 0 0, .slice none 0 0, .slice none 0 0, .slice none 0 0, .slice none 0 0]) (VD.bits l) :=
  .inr (.inl ⟨l, A, c, rfl, hl, rfl, hs⟩)
theorem isvec_smalls {w : World} {A : Option Addr} {n c : Nat} {l : List Int} (hn : n = l.length) (hl : n ≤ 1048576) (hb : ∀ x ∈ l, -128 ≤ x ∧ x ≤ 127) (hs : Sl w 1 A n (i8s l)) : IsVec w (.agg #[.int .i64 2, .slice none 0 0, .int .i64 0, .slice A n c, .slice none 0 0, .slice none 0 0, .slice none 0 0, .slice none 0 0]) (VD.smalls l) := by
  subst hn
  exact .inr (.inr (.inl ⟨l, A, c, rfl, hl, hb, rfl, hs⟩))
theorem isvec_ints {w : World} {A : Option Addr} {n c : Nat} {l : List Int} (hn : n = l.length) (hl : n ≤ 1048576) (hb : ∀ x ∈ l, G x) (hs : Sl w 1 A n (i64s l)) : IsVec w (.agg #[.int .i64 3, .slice none 0 0, .int .i64 0, .slice none 0 0, .slice A n c, .slice none 0 0, .slice none 0 0, .slice none 0 0]) (VD.ints l) := by
  subst hn
  exact .inr (.inr (.inr (.inl ⟨l, A, c, rfl, hl, hb, rfl, hs⟩)))
theorem isvec_floats {w : World} {A : Option Addr} {n c : Nat} {l : List Nat} (hn : n = l.length) (hl : n ≤ 1048576) (hb : ∀ x ∈ l, tidy x) (hs : Sl w 1 A n (f64s l)) : IsVec w (.agg #[.int .i64 4, .slice none 0 0, .int .i64 0, .slice none 0 0, .slice none 0 0, .slice A n c, .slice none 0 0, .slice none 0 0]) (VD.floats l) := by
  subst hn
  exact .inr (.inr (.inr (.inr (.inl ⟨l, A, c, rfl, hl, hb, rfl, hs⟩))))

theorem intoBits_any (v : Value) (K : Nat) (l : List Nat) (w : World) (h : IsNum w v K l) : Calls Try.prog 59 #[v] w (IntoPost (decide (leastL l ≤ 1)) 1 l w) := by
  obtain ⟨i0, hi0, hz0, hz1, hz2⟩ := info_parts infoB
  have hlim := h.lim
  have HTD := Lib.hid h.tidy
  obtain ⟨f1, fn, f3, f4, f5, f6, f7, rfl⟩ := h.form
  have HV := Lib.hid (h.ext (((Ext.refl w).alloc (.cells #[.int .i64 (K : Int), f1, .int .i64 fn, f3, f4, f5, f6, f7] 47)).alloc (.cells #[.int .i64 0, .slice none 0 0, .int .i64 0, .slice none 0 0, .slice none 0 0, .slice none 0 0, .slice none 0 0, .slice none 0 0] 47)))
  have HX := Lib.hid (Ext.refl ((w.alloc (.cells #[.int .i64 (K : Int), f1, .int .i64 fn, f3, f4, f5, f6, f7] 47)).alloc (.cells #[.int .i64 0, .slice none 0 0, .int .i64 0, .slice none 0 0, .slice none 0 0, .slice none 0 0, .slice none 0 0, .slice none 0 0] 47)))
  have HE : Hid (Ext w ((w.alloc (.cells #[.int .i64 (K : Int), f1, .int .i64 fn, f3, f4, f5, f6, f7] 47)).alloc (.cells #[.int .i64 0, .slice none 0 0, .int .i64 0, .slice none 0 0, .slice none 0 0, .slice none 0 0, .slice none 0 0, .slice none 0 0] 47))) := Lib.hid (((Ext.refl w).alloc (.cells #[.int .i64 (K : Int), f1, .int .i64 fn, f3, f4, f5, f6, f7] 47)).alloc (.cells #[.int .i64 0, .slice none 0 0, .int .i64 0, .slice none 0 0, .slice none 0 0, .slice none 0 0, .slice none 0 0, .slice none 0 0] 47))
  obtain ⟨hc, hf⟩ := HX.out.cells
  obtain ⟨n, hn⟩ : ∃ n, l.length = n := ⟨_, rfl⟩
  have cl := fun w h => nlen_any (.agg #[.int .i64 (K : Int), f1, .int .i64 fn, f3, f4, f5, f6, f7]) K l w h
  rw [hn] at hlim cl
  have HN := Lib.hid hn
  have hsz : i0.bytes * n ≤ 281474976710656 := by rw [hz2]; omega
  clear hn h
  obtain ⟨b, hb⟩ : ∃ b, decide (leastL l ≤ 1) = b := ⟨_, rfl⟩
  rw [hb]
  have HB := Lib.hid hb
  clear hb

  go_enter Try.func59, Try.ntmps59
  go_wp2_with fail
  refine (cl _ (HV.out.ext HX.out)).mono ?_
  rintro e w2 ⟨rfl, hx⟩
  replace HX := Lib.hid (HX.out.trans hx)
  have hs2 : w.heap.size + 2 ≤ w2.heap.size := by have := HX.out.size; simpa using this
  clear hc hf hx cl
  obtain ⟨hc, hf⟩ := HX.out.cells
  go_wp2_with (at_make; refine wpList_make_full _ rfl _ _ 131 rfl w2.heap.size 4 i0 (.bool false) 1 Try.underlying131 hi0 hz0 hz1 .i64 .i64 _ _ n rfl rfl rfl rfl hsz (by simp only [maxLen]; omega) (by simp) ?_)
  intro w3 hown hg
  have hx3 := ext_none hg
  have HR : Hid (w3.ownsRow w2.heap.size 4 1 (.slice (some ⟨w2.heap.size, 0, none⟩) n n) n (fillL (fun k => .bool (decide (l.getD k 0 = 4607182418800017408))) (.bool false) n 0)) := by
    have e := made_zero (.bool false) n (fun k => .bool (decide (l.getD k 0 = 4607182418800017408)))
    rw [e] at hown; exact hown
  replace HX := Lib.hid (HX.out.trans hx3)
  clear hown hg hx3 hsz hc hf
  obtain ⟨hc, hf⟩ := HX.out.cells
  go_wp2_with fail
  go_loopw [13] (fun i wr => ∃ k : Nat, k ≤ n ∧ i = .int .i64 k ∧ up1 l k ∧ wr.ownsRow w2.heap.size 4 1 (.slice (some ⟨w2.heap.size, 0, none⟩) n n) n (fillL (fun k => .bool (decide (l.getD k 0 = 4607182418800017408))) (.bool false) n k) ∧ Ext ((w.alloc (.cells #[.int .i64 (K : Int), f1, .int .i64 fn, f3, f4, f5, f6, f7] 47)).alloc (.cells #[.int .i64 0, .slice none 0 0, .int .i64 0, .slice none 0 0, .slice none 0 0, .slice none 0 0, .slice none 0 0, .slice none 0 0] 47)) wr) (fun i _ => n - (intOf i).toNat)
  case atStart => exact ⟨0, Nat.zero_le _, rfl, up0, HR.out, HX.out⟩
  case round =>
    obtain ⟨k, hk, rfl, hup, hown, hx⟩ := hrel
    have HU := Lib.hid hup
    clear hc hf HX
    have HX := Lib.hid hx
    obtain ⟨hc, hf⟩ := HX.out.cells
    clear hup hx
    by_cases hlt : k < n
    · have hkl : k < l.length := by rw [HN.out]; exact hlt
      have cn := fun w h => nnum_in (.agg #[.int .i64 (K : Int), f1, .int .i64 fn, f3, f4, f5, f6, f7]) K l k w h hkl
      have ct := fun w => truth_any (l.getD k 0) (HTD.out _ (getD_memN hkl)) w
      have HFK : Hid ((fillL (fun k => .bool (decide (l.getD k 0 = 4607182418800017408))) (.bool false) n k).set k (.bool (decide (l.getD k 0 = 4607182418800017408))) = fillL (fun k => .bool (decide (l.getD k 0 = 4607182418800017408))) (.bool false) n (k + 1)) := Lib.hid (fillL_set (fun k => .bool (decide (l.getD k 0 = 4607182418800017408))) (.bool false) hlt)
      by_cases hg : l.getD k 0 = 0 ∨ l.getD k 0 = 4607182418800017408
      · have hup := Lib.hid (up1_step HU.out hg)
        rw [decide_eq_true hg] at ct
        clear hg HU hkl
        generalize decide (l.getD k 0 = 4607182418800017408) = x at *
        generalize l.getD k 0 = y at *
        go_wp2_with fail
        refine (cn _ (HV.out.ext HX.out)).mono ?_
        rintro e w' ⟨rfl, hx⟩
        have cc := fun o ho => (Below.cell (p := ⟨w.heap.size, o, none⟩) hx ho)
        clear cc
        go_wp2_with fail
        refine (ct _).mono ?_
        rintro e w4 ⟨rfl, rfl⟩
        have hown2 := own_ext hown hx
        have F0 : w'.cell? ⟨w2.heap.size, k, none⟩ = some (.bool false) := by
          rw [hown2.cellAt k (by omega)]; exact fillL_get _ _ hlt
        have F1 : w'.frozen? ⟨w2.heap.size, k, none⟩ = false := hown2.frozenAt k
        have hst := (hown2.stored k (.bool x)).1
        rw [HFK.out] at hst
        have H1 := Lib.hid hst
        replace HX := Lib.hid (HX.out.trans hx)
        have H2 := Lib.hid (HX.out.setCell (p := ⟨w2.heap.size, k, none⟩) (by simp; omega) (.bool x))
        clear hst hown2 hown hx
        clear hc hf
        go_wp2
        exact ⟨⟨k + 1, by omega, by go_num, hup.out, H1.out, H2.out⟩, by simp [intOf]; omega⟩
      · have hf0 : b = false := by
          rw [← HB.out]
          exact decide_eq_false fun h => hg ((leastL_le1 HTD.out).1 h k hkl)
        subst hf0
        rw [decide_eq_false hg] at ct
        clear hg HU hkl hown HFK
        generalize decide (l.getD k 0 = 4607182418800017408) = x at *
        generalize l.getD k 0 = y at *
        go_wp2_with fail
        refine (cn _ (HV.out.ext HX.out)).mono ?_
        rintro e w' ⟨rfl, hx⟩
        replace HX := Lib.hid (HX.out.trans hx)
        clear hx hc hf
        obtain ⟨hc, hf⟩ := HX.out.cells
        go_wp2_with fail
        refine (ct _).mono ?_
        rintro e w4 ⟨rfl, rfl⟩
        go_wp2
        refine bodyPost_ret (v := .tuple #[.agg #[.int .i64 0, .slice none 0 0, .int .i64 0, .slice none 0 0, .slice none 0 0, .slice none 0 0, .slice none 0 0, .slice none 0 0], .bool false]) (by simp [results, Try.results59, go_sem, hc]) rfl ⟨zeroVec, rfl, (fun h => absurd h (by decide)), fun _ => rfl, ?_⟩
        repeat (first | refine Ext.setCell ?_ (by simp) _ | refine Ext.alloc ?_ _)
        exact HE.out.trans HX.out
    · have hkn : k = n := by omega
      subst hkn
      have hf1 : leastL l ≤ 1 := (leastL_le1 HTD.out).2 (by rw [HN.out]; exact HU.out)
      have ht : b = true := by rw [← HB.out]; exact decide_eq_true hf1
      subst ht
      have HL1 := Lib.hid hf1
      have hlB : k = (toB l).length := by rw [toB_length, HN.out]
      have hs : Sl wr 1 (some ⟨w2.heap.size, 0, none⟩) (toB l).length (bools (toB l)) := by rw [← hlB, toB_fill, HN.out]; exact Sl.own hown
      have cp := pack_any (some ⟨w2.heap.size, 0, none⟩) k (toB l) wr (by omega) (by omega) hs
      rw [← hlB] at cp
      have HLB := Lib.hid hlB
      have hsr : w.heap.size + 2 ≤ wr.heap.size := by have := HX.out.size; simpa using this
      clear hf1 hlB hs hown
      go_wp2_with fail
      refine cp.mono ?_
      rintro e w3 ⟨v, rfl, hv, hx⟩
      obtain ⟨hBl, g, cb, rfl, hg, ho⟩ := hv
      have hgl := (ho.lt g rfl).2
      replace HX := Lib.hid (HX.out.trans hx)
      have HS := Lib.hid (Sl.own ho)
      have HBL := Lib.hid hBl
      rw [← HLB.out]
      clear hx ho hc hf hBl
      go_wp2_with fail
      refine (vbits_val _ _ _ _ _).mono ?_
      rintro e w4 ⟨rfl, hx⟩
      have HQ : Hid (NumS w4 (.agg #[.int .i64 1, .slice (some ⟨g, 0, none⟩) (wc k) cb, .int .i64 (k : Int), .slice none 0 0, .slice none 0 0, .slice none 0 0, .slice none 0 0, .slice none 0 0]) 1 l (New wr.heap.size)) := Lib.hid (by
        refine NumS.mk (IsNum.mk1 ?_ HTD.out HL1.out) (In.one (A := some ⟨g, 0, none⟩) (n := wc k) (c := cb) (fun a ha => by cases ha; exact hg) (.inl rfl) ⟨_, rfl⟩ (.inr rfl) (.inr rfl) (.inr rfl) (.inr rfl) (.inr rfl))
        have h := isvec_bits (c := cb) HBL.out (HS.out.ext hx)
        rw [← HLB.out] at h
        exact h)
      replace HX := Lib.hid (HX.out.trans hx)
      clear hx HS HBL hg hgl
      obtain ⟨hc, hf⟩ := HX.out.cells
      go_wp2
      refine bodyPost_ret (v := .tuple #[.agg #[.int .i64 1, .slice (some ⟨g, 0, none⟩) (wc k) cb, .int .i64 (k : Int), .slice none 0 0, .slice none 0 0, .slice none 0 0, .slice none 0 0, .slice none 0 0], .bool true]) (by simp [results, Try.results59, go_sem, hc]) rfl ⟨_, rfl, fun _ => ?_, (fun h => absurd h (by decide)), ?_⟩
      · refine NumS.mono (S := New wr.heap.size) ?_ (fun i _ h => by show w.heap.size ≤ i; have h : wr.heap.size ≤ i := h; omega)
        repeat (refine NumS.set ?_ (by show ¬ wr.heap.size ≤ _; simp; omega) _)
        exact HQ.out
      · repeat (first | refine Ext.setCell ?_ (by simp) _ | refine Ext.alloc ?_ _)
        exact HE.out.trans HX.out
set_option maxRecDepth 100000 in
theorem intoSmalls_any (v : Value) (K : Nat) (l : List Nat) (w : World) (h : IsNum w v K l) : Calls Try.prog 60 #[v] w (IntoPost (decide (leastL l ≤ 2)) 2 l w) := by
  obtain ⟨i0, hi0, hz0, hz1, hz2⟩ := info_parts infoI8
  have hlim := h.lim
  have HTD := Lib.hid h.tidy
  obtain ⟨f1, fn, f3, f4, f5, f6, f7, rfl⟩ := h.form
  have HV := Lib.hid (h.ext (((Ext.refl w).alloc (.cells #[.int .i64 (K : Int), f1, .int .i64 fn, f3, f4, f5, f6, f7] 47)).alloc (.cells #[.int .i64 0, .slice none 0 0, .int .i64 0, .slice none 0 0, .slice none 0 0, .slice none 0 0, .slice none 0 0, .slice none 0 0] 47)))
  have HX := Lib.hid (Ext.refl ((w.alloc (.cells #[.int .i64 (K : Int), f1, .int .i64 fn, f3, f4, f5, f6, f7] 47)).alloc (.cells #[.int .i64 0, .slice none 0 0, .int .i64 0, .slice none 0 0, .slice none 0 0, .slice none 0 0, .slice none 0 0, .slice none 0 0] 47)))
  have HE : Hid (Ext w ((w.alloc (.cells #[.int .i64 (K : Int), f1, .int .i64 fn, f3, f4, f5, f6, f7] 47)).alloc (.cells #[.int .i64 0, .slice none 0 0, .int .i64 0, .slice none 0 0, .slice none 0 0, .slice none 0 0, .slice none 0 0, .slice none 0 0] 47))) := Lib.hid (((Ext.refl w).alloc (.cells #[.int .i64 (K : Int), f1, .int .i64 fn, f3, f4, f5, f6, f7] 47)).alloc (.cells #[.int .i64 0, .slice none 0 0, .int .i64 0, .slice none 0 0, .slice none 0 0, .slice none 0 0, .slice none 0 0, .slice none 0 0] 47))
  obtain ⟨hc, hf⟩ := HX.out.cells
  obtain ⟨n, hn⟩ : ∃ n, l.length = n := ⟨_, rfl⟩
  have cl := fun w h => nlen_any (.agg #[.int .i64 (K : Int), f1, .int .i64 fn, f3, f4, f5, f6, f7]) K l w h
  rw [hn] at hlim cl
  have HN := Lib.hid hn
  have hsz : i0.bytes * n ≤ 281474976710656 := by rw [hz2]; omega
  clear hn h
  obtain ⟨b, hb⟩ : ∃ b, decide (leastL l ≤ 2) = b := ⟨_, rfl⟩
  rw [hb]
  have HB := Lib.hid hb
  clear hb

  go_enter Try.func60, Try.ntmps60
  go_wp2_with fail
  refine (cl _ (HV.out.ext HX.out)).mono ?_
  rintro e w2 ⟨rfl, hx⟩
  replace HX := Lib.hid (HX.out.trans hx)
  have hs2 : w.heap.size + 2 ≤ w2.heap.size := by have := HX.out.size; simpa using this
  clear hc hf hx cl
  obtain ⟨hc, hf⟩ := HX.out.cells
  go_wp2_with (at_make; refine wpList_make_full _ rfl _ _ 41 rfl w2.heap.size 92 i0 (.int .i8 0) 1 Try.underlying41 hi0 hz0 hz1 .i64 .i64 _ _ n rfl rfl rfl rfl hsz (by simp only [maxLen]; omega) (by simp) ?_)
  intro w3 hown hg
  have hx3 := ext_none hg
  have HR : Hid (w3.ownsRow w2.heap.size 92 1 (.slice (some ⟨w2.heap.size, 0, none⟩) n n) n (fillL (fun k => .int .i8 (wn (l.getD k 0))) (.int .i8 0) n 0)) := by
    have e := made_zero (.int .i8 0) n (fun k => .int .i8 (wn (l.getD k 0)))
    rw [e] at hown; exact hown
  replace HX := Lib.hid (HX.out.trans hx3)
  clear hown hg hx3 hsz hc hf
  obtain ⟨hc, hf⟩ := HX.out.cells
  go_wp2_with fail
  go_loopw [13] (fun i wr => ∃ k : Nat, k ≤ n ∧ i = .int .i64 k ∧ up2 l k ∧ wr.ownsRow w2.heap.size 92 1 (.slice (some ⟨w2.heap.size, 0, none⟩) n n) n (fillL (fun k => .int .i8 (wn (l.getD k 0))) (.int .i8 0) n k) ∧ Ext ((w.alloc (.cells #[.int .i64 (K : Int), f1, .int .i64 fn, f3, f4, f5, f6, f7] 47)).alloc (.cells #[.int .i64 0, .slice none 0 0, .int .i64 0, .slice none 0 0, .slice none 0 0, .slice none 0 0, .slice none 0 0, .slice none 0 0] 47)) wr) (fun i _ => n - (intOf i).toNat)
  case atStart => exact ⟨0, Nat.zero_le _, rfl, up0, HR.out, HX.out⟩
  case round =>
    obtain ⟨k, hk, rfl, hup, hown, hx⟩ := hrel
    have HU := Lib.hid hup
    clear hc hf HX
    have HX := Lib.hid hx
    obtain ⟨hc, hf⟩ := HX.out.cells
    clear hup hx
    by_cases hlt : k < n
    · have hkl : k < l.length := by rw [HN.out]; exact hlt
      have cw := fun w h => sqwhole_any (.agg #[.int .i64 (K : Int), f1, .int .i64 fn, f3, f4, f5, f6, f7]) K l k w h hkl
      have HFK : Hid ((fillL (fun k => .int .i8 (wn (l.getD k 0))) (.int .i8 0) n k).set k (.int .i8 (wn (l.getD k 0))) = fillL (fun k => .int .i8 (wn (l.getD k 0))) (.int .i8 0) n (k + 1)) := Lib.hid (fillL_set (fun k => .int .i8 (wn (l.getD k 0))) (.int .i8 0) hlt)
      have HNO : Hid (¬ (whole (l.getD k 0) ∧ -128 ≤ wn (l.getD k 0) ∧ wn (l.getD k 0) ≤ 127) → b = false) := Lib.hid fun hg => by
        rw [← HB.out]
        exact decide_eq_false fun h => hg (leastL_le2.1 h k hkl)
      by_cases hw0 : whole (l.getD k 0)
      · rw [decide_eq_true hw0] at cw
        by_cases h1 : -128 ≤ wn (l.getD k 0)
        · by_cases h2 : wn (l.getD k 0) ≤ 127
          · have hup := Lib.hid (up2_step HU.out ⟨hw0, h1, h2⟩)
            clear hw0 HU hkl HNO
            generalize wn (l.getD k 0) = x at *
            go_wp2_with fail
            refine (cw _ (HV.out.ext HX.out)).mono ?_
            rintro e w' ⟨rfl, hx⟩
            have hown2 := own_ext hown hx
            have F0 : w'.cell? ⟨w2.heap.size, k, none⟩ = some (.int .i8 0) := by
              rw [hown2.cellAt k (by omega)]; exact fillL_get _ _ hlt
            have F1 : w'.frozen? ⟨w2.heap.size, k, none⟩ = false := hown2.frozenAt k
            have hst := (hown2.stored k (.int .i8 x)).1
            rw [HFK.out] at hst
            have H1 := Lib.hid hst
            replace HX := Lib.hid (HX.out.trans hx)
            have H2 := Lib.hid (HX.out.setCell (p := ⟨w2.heap.size, k, none⟩) (by simp; omega) (.int .i8 x))
            clear hst hown2 hown hx
            clear hc hf
            go_wp2
            exact ⟨⟨k + 1, by omega, by go_num, hup.out, H1.out, H2.out⟩, by simp [intOf]; omega⟩
          · have hf0 := HNO.out fun h => h2 h.2.2
            subst hf0
            have h2' : 127 < wn (l.getD k 0) := by omega
            clear h2 hw0 HU hkl hown HFK HNO
            generalize wn (l.getD k 0) = x at *
            go_wp2_with fail
            refine (cw _ (HV.out.ext HX.out)).mono ?_
            rintro e w' ⟨rfl, hx⟩
            replace HX := Lib.hid (HX.out.trans hx)
            clear hx hc hf
            obtain ⟨hc, hf⟩ := HX.out.cells
            go_wp2
            refine bodyPost_ret (v := .tuple #[.agg #[.int .i64 0, .slice none 0 0, .int .i64 0, .slice none 0 0, .slice none 0 0, .slice none 0 0, .slice none 0 0, .slice none 0 0], .bool false]) (by simp [results, Try.results60, go_sem, hc]) rfl ⟨zeroVec, rfl, (fun h => absurd h (by decide)), fun _ => rfl, ?_⟩
            repeat (first | refine Ext.setCell ?_ (by simp) _ | refine Ext.alloc ?_ _)
            exact HE.out.trans HX.out
        · have hf0 := HNO.out fun h => h1 h.2.1
          subst hf0
          have h1' : wn (l.getD k 0) < -128 := by omega
          clear h1 hw0 HU hkl hown HFK HNO
          generalize wn (l.getD k 0) = x at *
          go_wp2_with fail
          refine (cw _ (HV.out.ext HX.out)).mono ?_
          rintro e w' ⟨rfl, hx⟩
          replace HX := Lib.hid (HX.out.trans hx)
          clear hx hc hf
          obtain ⟨hc, hf⟩ := HX.out.cells
          go_wp2
          refine bodyPost_ret (v := .tuple #[.agg #[.int .i64 0, .slice none 0 0, .int .i64 0, .slice none 0 0, .slice none 0 0, .slice none 0 0, .slice none 0 0, .slice none 0 0], .bool false]) (by simp [results, Try.results60, go_sem, hc]) rfl ⟨zeroVec, rfl, (fun h => absurd h (by decide)), fun _ => rfl, ?_⟩
          repeat (first | refine Ext.setCell ?_ (by simp) _ | refine Ext.alloc ?_ _)
          exact HE.out.trans HX.out
      · have hf0 := HNO.out fun h => hw0 h.1
        subst hf0
        rw [decide_eq_false hw0] at cw
        clear hw0 HU hkl hown HFK HNO
        generalize wn (l.getD k 0) = x at *
        go_wp2_with fail
        refine (cw _ (HV.out.ext HX.out)).mono ?_
        rintro e w' ⟨rfl, hx⟩
        replace HX := Lib.hid (HX.out.trans hx)
        clear hx hc hf
        obtain ⟨hc, hf⟩ := HX.out.cells
        go_wp2
        refine bodyPost_ret (v := .tuple #[.agg #[.int .i64 0, .slice none 0 0, .int .i64 0, .slice none 0 0, .slice none 0 0, .slice none 0 0, .slice none 0 0, .slice none 0 0], .bool false]) (by simp [results, Try.results60, go_sem, hc]) rfl ⟨zeroVec, rfl, (fun h => absurd h (by decide)), fun _ => rfl, ?_⟩
        repeat (first | refine Ext.setCell ?_ (by simp) _ | refine Ext.alloc ?_ _)
        exact HE.out.trans HX.out
    · have hkn : k = n := by omega
      subst hkn
      have hup : up2 l l.length := by rw [HN.out]; exact HU.out
      have hf1 : leastL l ≤ 2 := leastL_le2.2 hup
      have ht : b = true := by rw [← HB.out]; exact decide_eq_true hf1
      subst ht
      have HL1 := Lib.hid hf1
      have hlB : k = (toI l).length := by rw [toI_length, HN.out]
      have hbd : ∀ x ∈ toI l, -128 ≤ x ∧ x ≤ 127 := by
        intro x hx
        obtain ⟨j, hj, rfl⟩ := List.getElem_of_mem hx
        have hj' : j < l.length := by rw [← toI_length]; exact hj
        have := hup j hj'
        rw [wn_whole this.1] at this
        simpa [toI, List.getD, hj'] using this.2
      have hs : Sl wr 1 (some ⟨w2.heap.size, 0, none⟩) k (i8s (toI l)) := by rw [toI_fill8 fun j hj => (hup j hj).1, HN.out]; exact Sl.own hown
      have cp := vsmalls_own (some ⟨w2.heap.size, 0, none⟩) (toI l) k hlB k wr (by omega) hs
      have HLB := Lib.hid hlB
      have HBD := Lib.hid hbd
      have HLM : Hid (k ≤ 1048576) := hlim
      have hsr : w.heap.size + 2 ≤ wr.heap.size := by have := HX.out.size; simpa using this
      clear hf1 hlB hs hown hbd hup
      go_wp2_with fail
      refine cp.mono ?_
      rintro e w4 ⟨B, cb, rfl, ho, hx⟩
      have hof := own_form ho
      have HQ : Hid (NumS w4 (.agg #[.int .i64 2, .slice none 0 0, .int .i64 0, .slice B k cb, .slice none 0 0, .slice none 0 0, .slice none 0 0, .slice none 0 0]) 2 l (New wr.heap.size)) := Lib.hid (by
        refine NumS.mk (IsNum.mk2 ?_ HTD.out HL1.out) (In.one (A := B) (n := k) (c := cb) (fun a ha => ?_) (.inr rfl) ⟨_, rfl⟩ (.inl rfl) (.inr rfl) (.inr rfl) (.inr rfl) (.inr rfl))
        · exact isvec_smalls HLB.out HLM.out HBD.out (Sl.own ho)
        · obtain ⟨A', c', e', _, hA⟩ := hof
          cases e'
          exact (hA a ha).1)
      replace HX := Lib.hid (HX.out.trans hx)
      clear hx ho hof hc hf
      obtain ⟨hc, hf⟩ := HX.out.cells
      go_wp2
      refine bodyPost_ret (v := .tuple #[.agg #[.int .i64 2, .slice none 0 0, .int .i64 0, .slice B k cb, .slice none 0 0, .slice none 0 0, .slice none 0 0, .slice none 0 0], .bool true]) (by simp [results, Try.results60, go_sem, hc]) rfl ⟨_, rfl, fun _ => ?_, (fun h => absurd h (by decide)), ?_⟩
      · refine NumS.mono (S := New wr.heap.size) ?_ (fun i _ h => by show w.heap.size ≤ i; have h : wr.heap.size ≤ i := h; omega)
        repeat (refine NumS.set ?_ (by show ¬ wr.heap.size ≤ _; simp; omega) _)
        exact HQ.out
      · repeat (first | refine Ext.setCell ?_ (by simp) _ | refine Ext.alloc ?_ _)
        exact HE.out.trans HX.out
end Go.Proofs.Ytdkgiklbmbkdaaa
