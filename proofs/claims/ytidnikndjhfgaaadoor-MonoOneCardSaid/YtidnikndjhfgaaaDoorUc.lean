/- mono.wholes. -/
import Derived.Test.YtidnikndjhfgaaaDoorUb
namespace Go.Proofs.YtidnikndjhfgaaaDoor
open Go.ChangeShapes Go.WideShapes Go.RowKit Bv Fl
set_option maxHeartbeats 2000000
set_option maxRecDepth 100000
theorem i64s_getM {l : List Int} {k : Nat} (h : k < l.length) : (i64s l)[k]? = some (.int .i64 (l.getD k 0)) := i64s_get h
/-- what mono.wholes makes of whole numbers that lie in block g, all of which can be done -/
def MwP (L : List Int) (g : Nat) (w0 w : World) (e : Ending) (w' : World) : Prop := ∃ q, e = .returned (.tuple #[q, .int .i64 0]) ∧ NumS w' q (leastL (VD.ints L).nums) (VD.ints L).nums (New w.heap.size) ∧ Ext w0 w' ∧ Grw w g w'
theorem mGn {f : Int} {l : List Int} (hG : ∀ x ∈ l, G x) (he : allE f l = true) {k : Nat} (hk : k < l.length) : G (l.getD k 0) ∧ eM f (l.getD k 0) = true := by
  have : l.getD k 0 ∈ l := by rw [List.getD_eq_getElem?_getD, List.getElem?_eq_getElem hk]; exact List.getElem_mem hk
  exact ⟨hG _ this, List.all_eq_true.1 he _ this⟩
theorem mix_end (f : Int) (l : List Int) : mixV (fun j => .int .i64 (wM f (l.getD j 0))) (fun j => .int .i64 (l.getD j 0)) l.length l.length = i64s (l.map (wM f)) := by
  rw [mixV_full, range_i64, List.length_map]
  apply List.map_congr_left
  intro j hj
  have hj := List.mem_range.1 hj
  simp [List.getD, hj]
theorem mix_start (f : Int) (l : List Int) : i64s l = mixV (fun j => .int .i64 (wM f (l.getD j 0))) (fun j => .int .i64 (l.getD j 0)) l.length 0 := by
  rw [mixV_zero, range_i64]
theorem cut3 (A : Prop) (x : Int) : (A ∧ x ≤ -1) ∨ (A ∧ x = 0) ∨ (A ∧ 1 ≤ x) ∨ ¬A := by
  by_cases a : A
  · rcases Int.lt_trichotomy x 0 with h | h | h
    · exact .inl ⟨a, by omega⟩
    · exact .inr (.inl ⟨a, h⟩)
    · exact .inr (.inr (.inl ⟨a, by omega⟩))
  · exact .inr (.inr (.inr a))
theorem cut4 (A : Prop) (x : Int) : (A ∧ x ≤ -1) ∨ (A ∧ x = 0) ∨ (A ∧ x = 1) ∨ (A ∧ 1 < x) ∨ ¬A := by
  rcases cut3 A x with h | h | h | h
  · exact .inl h
  · exact .inr (.inl h)
  · rcases Int.lt_trichotomy x 1 with g | g | g
    · have := h.2; omega
    · exact .inr (.inr (.inl ⟨h.1, g⟩))
    · exact .inr (.inr (.inr (.inl ⟨h.1, g⟩)))
  · exact .inr (.inr (.inr (.inr h)))
theorem cut01 (A : Prop) (x : Int) : (A ∧ x = 0) ∨ (A ∧ x = 1) ∨ (A ∧ x ≠ 0 ∧ x ≠ 1) ∨ ¬A := by
  by_cases a : A
  · by_cases h : x = 0
    · exact .inl ⟨a, h⟩
    · by_cases h1 : x = 1
      · exact .inr (.inl ⟨a, h1⟩)
      · exact .inr (.inr (.inl ⟨a, h, h1⟩))
  · exact .inr (.inr (.inr a))
theorem cut2 (A : Prop) (x : Int) (h0 : A → x = 0 ∨ x = 1) : (A ∧ x = 0) ∨ (A ∧ x = 1) ∨ ¬A := by
  by_cases a : A
  · rcases h0 a with h | h
    · exact .inl ⟨a, h⟩
    · exact .inr (.inl ⟨a, h⟩)
  · exact .inr (.inr a)
section
variable (g n c : Nat) (l : List Int) (hn : n = l.length) (hG : ∀ x ∈ l, G x) (hN2 : n ≤ 1048576) (w0 w : World)
include hn hG hN2
theorem mwh_2 (E : Ext w0 w) (hg : w0.heap.size ≤ g) (Og : RowC 2 w g n c (i64s l)) : Calls Tryd.prog 44 #[.int .i64 2, .slice (some ⟨g, 0, none⟩) n c] w (MwP (l.map (wM 2)) g w0 w) := by
  have hgl := Og.lt
  have HW := Grw.refl w g
  have HGN := Lib.hid (fun k (hk : k < n) => mGn (f := 2) hG (List.all_eq_true.2 fun _ _ => rfl) (show k < l.length by omega))
  have ci := fun w2 (hO : RowC 2 w2 g n c (i64s (l.map (wM 2)))) => vints_sM (some ⟨g, 0, none⟩) (l.map (wM 2)) n (by simp [hn]) (wM_all hG (List.all_eq_true.2 fun _ _ => rfl)) c w2 hN2 hO.sl
  have csq := fun p w2 h => squeeze_num p 3 (VD.ints (l.map (wM 2))).nums w2 h
  unfold MwP
  have hee := trivial
  clear hee
  have HEND : Hid (mixV (fun j => .int .i64 (wM 2 (l.getD j 0))) (fun j => .int .i64 (l.getD j 0)) n n = i64s (l.map (wM 2))) := by show _ = _; rw [hn]; exact mix_end 2 l
  have HSTA : i64s l = mixV (fun j => .int .i64 (wM 2 (l.getD j 0))) (fun j => .int .i64 (l.getD j 0)) n 0 := by rw [hn]; exact mix_start 2 l
  rw [HSTA] at Og
  clear hn hG HSTA
  generalize l.map (wM 2) = L' at *
  obtain ⟨FN, hFN⟩ : ∃ FN : Nat → Value, FN = fun j => .int .i64 (wM 2 (l.getD j 0)) := ⟨_, rfl⟩
  obtain ⟨HN, hHN⟩ : ∃ HN : Nat → Value, HN = fun j => .int .i64 (l.getD j 0) := ⟨_, rfl⟩
  have HF : Hid (∀ k, FN k = .int .i64 (wM 2 (l.getD k 0))) := fun k => by rw [hFN]
  have HH : Hid (∀ k, HN k = .int .i64 (l.getD k 0)) := fun k => by rw [hHN]
  rw [← hFN, ← hHN] at Og HEND
  clear hFN hHN
  go_enter Tryd.func44, Tryd.ntmps44
  have TB4 : True := trivial
  go_wp2_with (clear TB4; refine allocsV rfl rfl ?_; intro B4 w4 bB4 cB4 XB4 LB4 RB4; have z1 := XB4.size; replace E := E.trans XB4; replace Og := Og.ext XB4; replace HW := HW.ext XB4)
  go_loopw [12] (fun i wr => ∃ k : Nat, k ≤ n ∧ i = .int .i64 k ∧ Grw w4 g wr ∧ RowC 2 wr g n c (mixV FN HN n k)) (fun i _ => n - (intOf i).toNat)
  case atStart => exact ⟨0, Nat.zero_le _, rfl, Grw.refl _ _, Og⟩
  case round =>
    obtain ⟨k, hk, rfl, HG, O2⟩ := hrel
    clear Og
    have Og := O2
    clear O2
    have z2 := HG.out.size
    replace E := grown_ext E HG.out (by omega)
    replace HW := HW.grown HG.out (by omega)
    replace LB4 := LB4.grown HG.out (by omega)
    replace RB4 := RB4.grown HG.out (by omega)
    by_cases hlt : k < n
    · obtain ⟨hx, hex⟩ := HGN.out k hlt
      have D0 : wr.cell? ⟨g, k, none⟩ = some (.int .i64 (l.getD k 0)) := by rw [World.ownsRow.cellAt Og k (by omega), mixV_get _ _ hlt, HH.out]
      have HSET : Hid ((mixV FN HN n k).set k (.int .i64 (-(l.getD k 0))) = mixV FN HN n (k + 1)) := by show _ = _; rw [← mixV_set FN HN hlt, HF.out, wM_2]
      unfold G at hx
      have hx1 := hx.1
      have hx2 := hx.2
      clear hx hex
      generalize l.getD k 0 = x at *
      have TG3 : True := trivial
      go_wp2_with (clear TG3; have hRl := Og.lt; refine storesc_i64 rfl rfl (g := g) (k := k) (n := n) (by rfl) rfl (by rfl) Og hlt ?_; clear Og; intro s3 G3 Og; have z4 := G3.size; replace E := grown_ext E G3 (by omega); replace HW := HW.grown G3 (by omega); replace LB4 := LB4.grown G3 (by omega); replace RB4 := RB4.grown G3 (by omega); replace HG := HG.grown G3 (by omega); clear hRl G3)
      exact ⟨⟨k + 1, by omega, by go_num, HG, by rw [← HSET.out]; exact Og⟩, by simp [intOf]; omega⟩
    · have hkN : k = n := by omega
      rw [hkN, HEND.out] at Og
      clear HG hkN
      go_wp2_with fail
      refine (ci _ Og).mono ?_
      rintro e w59 ⟨p, rfl, hq, x⟩
      clear Og
      have NP := hq.now
      have Fp := NP.is.flat
      clear hq
      have z5 := x.size
      replace E := E.trans x
      replace HW := HW.ext x
      replace LB4 := LB4.ext x
      replace RB4 := RB4.ext x
      clear x
      have TB8 : True := trivial
      have TG7 : True := trivial
      go_wp2_with (first | (clear TB8; refine allocsV rfl rfl ?_; intro B8 w8 bB8 cB8 XB8 LB8 RB8; have z6 := XB8.size; replace E := E.trans XB8; replace HW := HW.ext XB8; replace LB4 := LB4.ext XB8; replace RB4 := RB4.ext XB8; replace NP := NP.ext XB8) | (clear TG7; have hRl := (RB8).lt (Nat.zero_lt_succ _); refine storesV (B := B8) rfl rfl rfl (v := p) rfl RB8 Fp ?_; clear LB8; intro s7 G7 LB8 RQ; have z8 := G7.size; replace E := grown_ext E G7 (by omega); replace HW := HW.grown G7 (by omega); replace LB4 := LB4.grown G7 (by omega); replace RB4 := RB4.grown G7 (by omega); replace NP := NP.grown G7 (by first | omega | (dsimp only [New]; omega)); clear RB8; have RB8 := RQ; clear RQ hRl; clear RB8) | (refine loadsV (B := B8) (by rfl) rfl rfl LB8 ?_))
      clear LB8
      refine (csq p _ NP.is).mono ?_
      rintro e w66 ⟨q, rfl, hq, x⟩
      have NQ := (hq _ NP).now
      have Fq := NQ.is.flat
      clear hq
      have z9 := x.size
      replace E := E.trans x
      replace HW := HW.ext x
      replace LB4 := LB4.ext x
      replace RB4 := RB4.ext x
      replace NP := NP.ext x
      clear x
      have TG10 : True := trivial
      go_wp2_with (clear TG10; have hRl := (RB4).lt (Nat.zero_lt_succ _); refine storesV (B := B4) rfl rfl rfl (v := q) rfl RB4 Fq ?_; clear LB4; intro s10 G10 LB4 RQ; have z11 := G10.size; replace E := grown_ext E G10 (by omega); replace HW := HW.grown G10 (by omega); replace NP := NP.grown G10 (by first | omega | (dsimp only [New]; omega)); replace NQ := NQ.grown G10 (by first | omega | (dsimp only [New]; omega)); clear RB4; have RB4 := RQ; clear RQ hRl; clear RB4)
      refine bodyPost_ret (results_lay2 rfl rfl rfl (ldV LB4)) rfl ?_
      exact ⟨q, rfl, NQ.mono (fun i hi h => by dsimp only [New] at *; omega), E, HW⟩
theorem mwh_3 (E : Ext w0 w) (hg : w0.heap.size ≤ g) (Og : RowC 2 w g n c (i64s l)) : Calls Tryd.prog 44 #[.int .i64 3, .slice (some ⟨g, 0, none⟩) n c] w (MwP (l.map (wM 3)) g w0 w) := by
  have hgl := Og.lt
  have HW := Grw.refl w g
  have HGN := Lib.hid (fun k (hk : k < n) => mGn (f := 3) hG (List.all_eq_true.2 fun _ _ => rfl) (show k < l.length by omega))
  have ci := fun w2 (hO : RowC 2 w2 g n c (i64s (l.map (wM 3)))) => vints_sM (some ⟨g, 0, none⟩) (l.map (wM 3)) n (by simp [hn]) (wM_all hG (List.all_eq_true.2 fun _ _ => rfl)) c w2 hN2 hO.sl
  have csq := fun p w2 h => squeeze_num p 3 (VD.ints (l.map (wM 3))).nums w2 h
  unfold MwP
  have hee := trivial
  clear hee
  have HEND : Hid (mixV (fun j => .int .i64 (wM 3 (l.getD j 0))) (fun j => .int .i64 (l.getD j 0)) n n = i64s (l.map (wM 3))) := by show _ = _; rw [hn]; exact mix_end 3 l
  have HSTA : i64s l = mixV (fun j => .int .i64 (wM 3 (l.getD j 0))) (fun j => .int .i64 (l.getD j 0)) n 0 := by rw [hn]; exact mix_start 3 l
  rw [HSTA] at Og
  clear hn hG HSTA
  generalize l.map (wM 3) = L' at *
  obtain ⟨FN, hFN⟩ : ∃ FN : Nat → Value, FN = fun j => .int .i64 (wM 3 (l.getD j 0)) := ⟨_, rfl⟩
  obtain ⟨HN, hHN⟩ : ∃ HN : Nat → Value, HN = fun j => .int .i64 (l.getD j 0) := ⟨_, rfl⟩
  have HF : Hid (∀ k, FN k = .int .i64 (wM 3 (l.getD k 0))) := fun k => by rw [hFN]
  have HH : Hid (∀ k, HN k = .int .i64 (l.getD k 0)) := fun k => by rw [hHN]
  rw [← hFN, ← hHN] at Og HEND
  clear hFN hHN
  go_enter Tryd.func44, Tryd.ntmps44
  have TB4 : True := trivial
  go_wp2_with (clear TB4; refine allocsV rfl rfl ?_; intro B4 w4 bB4 cB4 XB4 LB4 RB4; have z1 := XB4.size; replace E := E.trans XB4; replace Og := Og.ext XB4; replace HW := HW.ext XB4)
  go_loopw [12] (fun i wr => ∃ k : Nat, k ≤ n ∧ i = .int .i64 k ∧ Grw w4 g wr ∧ RowC 2 wr g n c (mixV FN HN n k)) (fun i _ => n - (intOf i).toNat)
  case atStart => exact ⟨0, Nat.zero_le _, rfl, Grw.refl _ _, Og⟩
  case round =>
    obtain ⟨k, hk, rfl, HG, O2⟩ := hrel
    clear Og
    have Og := O2
    clear O2
    have z2 := HG.out.size
    replace E := grown_ext E HG.out (by omega)
    replace HW := HW.grown HG.out (by omega)
    replace LB4 := LB4.grown HG.out (by omega)
    replace RB4 := RB4.grown HG.out (by omega)
    rcases cut4 (k < n) (l.getD k 0) with ⟨hlt, hx0⟩ | ⟨hlt, hx0⟩ | ⟨hlt, hx0⟩ | ⟨hlt, hx0⟩ | hlt
    · obtain ⟨hx, hex⟩ := HGN.out k hlt
      have D0 : wr.cell? ⟨g, k, none⟩ = some (.int .i64 (l.getD k 0)) := by rw [World.ownsRow.cellAt Og k (by omega), mixV_get _ _ hlt, HH.out]
      have HSET : Hid ((mixV FN HN n k).set k (.int .i64 (-1)) = mixV FN HN n (k + 1)) := by show _ = _; rw [← mixV_set FN HN hlt, HF.out, wM_3, show max (-1) (min (l.getD k 0) 1) = -1 by omega]
      unfold G at hx
      have hx1 := hx.1
      have hx2 := hx.2
      clear hx hex
      generalize l.getD k 0 = x at *
      have TG3 : True := trivial
      go_wp2_with (clear TG3; have hRl := Og.lt; refine storesc_i64 rfl rfl (g := g) (k := k) (n := n) (by rfl) rfl (by rfl) Og hlt ?_; clear Og; intro s3 G3 Og; have z4 := G3.size; replace E := grown_ext E G3 (by omega); replace HW := HW.grown G3 (by omega); replace LB4 := LB4.grown G3 (by omega); replace RB4 := RB4.grown G3 (by omega); replace HG := HG.grown G3 (by omega); clear hRl G3)
      exact ⟨⟨k + 1, by omega, by go_num, HG, by rw [← HSET.out]; exact Og⟩, by simp [intOf]; omega⟩
    · obtain ⟨hx, hex⟩ := HGN.out k hlt
      have D0 : wr.cell? ⟨g, k, none⟩ = some (.int .i64 (l.getD k 0)) := by rw [World.ownsRow.cellAt Og k (by omega), mixV_get _ _ hlt, HH.out]
      have HSET : Hid ((mixV FN HN n k).set k (.int .i64 (0)) = mixV FN HN n (k + 1)) := by show _ = _; rw [← mixV_set FN HN hlt, HF.out, wM_3, show max (-1) (min (l.getD k 0) 1) = 0 by omega]
      rw [hx0] at D0
      unfold G at hx
      have hx1 := hx.1
      have hx2 := hx.2
      clear hx hex
      clear hx0 hx1 hx2
      generalize l.getD k 0 = x at *
      have TG5 : True := trivial
      go_wp2_with (clear TG5; have hRl := Og.lt; refine storesc_i64 rfl rfl (g := g) (k := k) (n := n) (by rfl) rfl (by rfl) Og hlt ?_; clear Og; intro s5 G5 Og; have z6 := G5.size; replace E := grown_ext E G5 (by omega); replace HW := HW.grown G5 (by omega); replace LB4 := LB4.grown G5 (by omega); replace RB4 := RB4.grown G5 (by omega); replace HG := HG.grown G5 (by omega); clear hRl G5)
      exact ⟨⟨k + 1, by omega, by go_num, HG, by rw [← HSET.out]; exact Og⟩, by simp [intOf]; omega⟩
    · obtain ⟨hx, hex⟩ := HGN.out k hlt
      have D0 : wr.cell? ⟨g, k, none⟩ = some (.int .i64 (l.getD k 0)) := by rw [World.ownsRow.cellAt Og k (by omega), mixV_get _ _ hlt, HH.out]
      have HSET : Hid ((mixV FN HN n k).set k (.int .i64 (1)) = mixV FN HN n (k + 1)) := by show _ = _; rw [← mixV_set FN HN hlt, HF.out, wM_3, show max (-1) (min (l.getD k 0) 1) = 1 by omega]
      rw [hx0] at D0
      unfold G at hx
      have hx1 := hx.1
      have hx2 := hx.2
      clear hx hex
      clear hx0 hx1 hx2
      generalize l.getD k 0 = x at *
      have TG7 : True := trivial
      go_wp2_with (clear TG7; have hRl := Og.lt; refine storesc_i64 rfl rfl (g := g) (k := k) (n := n) (by rfl) rfl (by rfl) Og hlt ?_; clear Og; intro s7 G7 Og; have z8 := G7.size; replace E := grown_ext E G7 (by omega); replace HW := HW.grown G7 (by omega); replace LB4 := LB4.grown G7 (by omega); replace RB4 := RB4.grown G7 (by omega); replace HG := HG.grown G7 (by omega); clear hRl G7)
      exact ⟨⟨k + 1, by omega, by go_num, HG, by rw [← HSET.out]; exact Og⟩, by simp [intOf]; omega⟩
    · obtain ⟨hx, hex⟩ := HGN.out k hlt
      have D0 : wr.cell? ⟨g, k, none⟩ = some (.int .i64 (l.getD k 0)) := by rw [World.ownsRow.cellAt Og k (by omega), mixV_get _ _ hlt, HH.out]
      have HSET : Hid ((mixV FN HN n k).set k (.int .i64 (1)) = mixV FN HN n (k + 1)) := by show _ = _; rw [← mixV_set FN HN hlt, HF.out, wM_3, show max (-1) (min (l.getD k 0) 1) = 1 by omega]
      unfold G at hx
      have hx1 := hx.1
      have hx2 := hx.2
      clear hx hex
      generalize l.getD k 0 = x at *
      have TG9 : True := trivial
      go_wp2_with (clear TG9; have hRl := Og.lt; refine storesc_i64 rfl rfl (g := g) (k := k) (n := n) (by rfl) rfl (by rfl) Og hlt ?_; clear Og; intro s9 G9 Og; have z10 := G9.size; replace E := grown_ext E G9 (by omega); replace HW := HW.grown G9 (by omega); replace LB4 := LB4.grown G9 (by omega); replace RB4 := RB4.grown G9 (by omega); replace HG := HG.grown G9 (by omega); clear hRl G9)
      exact ⟨⟨k + 1, by omega, by go_num, HG, by rw [← HSET.out]; exact Og⟩, by simp [intOf]; omega⟩
    · have hkN : k = n := by omega
      rw [hkN, HEND.out] at Og
      clear HG hkN
      go_wp2_with fail
      refine (ci _ Og).mono ?_
      rintro e w59 ⟨p, rfl, hq, x⟩
      clear Og
      have NP := hq.now
      have Fp := NP.is.flat
      clear hq
      have z11 := x.size
      replace E := E.trans x
      replace HW := HW.ext x
      replace LB4 := LB4.ext x
      replace RB4 := RB4.ext x
      clear x
      have TB8 : True := trivial
      have TG13 : True := trivial
      go_wp2_with (first | (clear TB8; refine allocsV rfl rfl ?_; intro B8 w8 bB8 cB8 XB8 LB8 RB8; have z12 := XB8.size; replace E := E.trans XB8; replace HW := HW.ext XB8; replace LB4 := LB4.ext XB8; replace RB4 := RB4.ext XB8; replace NP := NP.ext XB8) | (clear TG13; have hRl := (RB8).lt (Nat.zero_lt_succ _); refine storesV (B := B8) rfl rfl rfl (v := p) rfl RB8 Fp ?_; clear LB8; intro s13 G13 LB8 RQ; have z14 := G13.size; replace E := grown_ext E G13 (by omega); replace HW := HW.grown G13 (by omega); replace LB4 := LB4.grown G13 (by omega); replace RB4 := RB4.grown G13 (by omega); replace NP := NP.grown G13 (by first | omega | (dsimp only [New]; omega)); clear RB8; have RB8 := RQ; clear RQ hRl; clear RB8) | (refine loadsV (B := B8) (by rfl) rfl rfl LB8 ?_))
      clear LB8
      refine (csq p _ NP.is).mono ?_
      rintro e w66 ⟨q, rfl, hq, x⟩
      have NQ := (hq _ NP).now
      have Fq := NQ.is.flat
      clear hq
      have z15 := x.size
      replace E := E.trans x
      replace HW := HW.ext x
      replace LB4 := LB4.ext x
      replace RB4 := RB4.ext x
      replace NP := NP.ext x
      clear x
      have TG16 : True := trivial
      go_wp2_with (clear TG16; have hRl := (RB4).lt (Nat.zero_lt_succ _); refine storesV (B := B4) rfl rfl rfl (v := q) rfl RB4 Fq ?_; clear LB4; intro s16 G16 LB4 RQ; have z17 := G16.size; replace E := grown_ext E G16 (by omega); replace HW := HW.grown G16 (by omega); replace NP := NP.grown G16 (by first | omega | (dsimp only [New]; omega)); replace NQ := NQ.grown G16 (by first | omega | (dsimp only [New]; omega)); clear RB4; have RB4 := RQ; clear RQ hRl; clear RB4)
      refine bodyPost_ret (results_lay2 rfl rfl rfl (ldV LB4)) rfl ?_
      exact ⟨q, rfl, NQ.mono (fun i hi h => by dsimp only [New] at *; omega), E, HW⟩
theorem mwh_7 (E : Ext w0 w) (hg : w0.heap.size ≤ g) (Og : RowC 2 w g n c (i64s l)) : Calls Tryd.prog 44 #[.int .i64 7, .slice (some ⟨g, 0, none⟩) n c] w (MwP (l.map (wM 7)) g w0 w) := by
  have hgl := Og.lt
  have HW := Grw.refl w g
  have HGN := Lib.hid (fun k (hk : k < n) => mGn (f := 7) hG (List.all_eq_true.2 fun _ _ => rfl) (show k < l.length by omega))
  have ci := fun w2 (hO : RowC 2 w2 g n c (i64s (l.map (wM 7)))) => vints_sM (some ⟨g, 0, none⟩) (l.map (wM 7)) n (by simp [hn]) (wM_all hG (List.all_eq_true.2 fun _ _ => rfl)) c w2 hN2 hO.sl
  have csq := fun p w2 h => squeeze_num p 3 (VD.ints (l.map (wM 7))).nums w2 h
  unfold MwP
  have hee := trivial
  clear hee
  have HEND : Hid (mixV (fun j => .int .i64 (wM 7 (l.getD j 0))) (fun j => .int .i64 (l.getD j 0)) n n = i64s (l.map (wM 7))) := by show _ = _; rw [hn]; exact mix_end 7 l
  have HSTA : i64s l = mixV (fun j => .int .i64 (wM 7 (l.getD j 0))) (fun j => .int .i64 (l.getD j 0)) n 0 := by rw [hn]; exact mix_start 7 l
  rw [HSTA] at Og
  clear hn hG HSTA
  generalize l.map (wM 7) = L' at *
  obtain ⟨FN, hFN⟩ : ∃ FN : Nat → Value, FN = fun j => .int .i64 (wM 7 (l.getD j 0)) := ⟨_, rfl⟩
  obtain ⟨HN, hHN⟩ : ∃ HN : Nat → Value, HN = fun j => .int .i64 (l.getD j 0) := ⟨_, rfl⟩
  have HF : Hid (∀ k, FN k = .int .i64 (wM 7 (l.getD k 0))) := fun k => by rw [hFN]
  have HH : Hid (∀ k, HN k = .int .i64 (l.getD k 0)) := fun k => by rw [hHN]
  rw [← hFN, ← hHN] at Og HEND
  clear hFN hHN
  go_enter Tryd.func44, Tryd.ntmps44
  have TB4 : True := trivial
  go_wp2_with (clear TB4; refine allocsV rfl rfl ?_; intro B4 w4 bB4 cB4 XB4 LB4 RB4; have z1 := XB4.size; replace E := E.trans XB4; replace Og := Og.ext XB4; replace HW := HW.ext XB4)
  go_loopw [12] (fun i wr => ∃ k : Nat, k ≤ n ∧ i = .int .i64 k ∧ Grw w4 g wr ∧ RowC 2 wr g n c (mixV FN HN n k)) (fun i _ => n - (intOf i).toNat)
  case atStart => exact ⟨0, Nat.zero_le _, rfl, Grw.refl _ _, Og⟩
  case round =>
    obtain ⟨k, hk, rfl, HG, O2⟩ := hrel
    clear Og
    have Og := O2
    clear O2
    have z2 := HG.out.size
    replace E := grown_ext E HG.out (by omega)
    replace HW := HW.grown HG.out (by omega)
    replace LB4 := LB4.grown HG.out (by omega)
    replace RB4 := RB4.grown HG.out (by omega)
    rcases cut3 (k < n) (l.getD k 0) with ⟨hlt, hx0⟩ | ⟨hlt, hx0⟩ | ⟨hlt, hx0⟩ | hlt
    · obtain ⟨hx, hex⟩ := HGN.out k hlt
      have D0 : wr.cell? ⟨g, k, none⟩ = some (.int .i64 (l.getD k 0)) := by rw [World.ownsRow.cellAt Og k (by omega), mixV_get _ _ hlt, HH.out]
      have HSET : Hid ((mixV FN HN n k).set k (.int .i64 (-(l.getD k 0))) = mixV FN HN n (k + 1)) := by show _ = _; rw [← mixV_set FN HN hlt, HF.out, wM_7, show max (l.getD k 0) (-(l.getD k 0)) = -(l.getD k 0) by omega]
      unfold G at hx
      have hx1 := hx.1
      have hx2 := hx.2
      clear hx hex
      generalize l.getD k 0 = x at *
      have TG3 : True := trivial
      go_wp2_with (clear TG3; have hRl := Og.lt; refine storesc_i64 rfl rfl (g := g) (k := k) (n := n) (by rfl) rfl (by rfl) Og hlt ?_; clear Og; intro s3 G3 Og; have z4 := G3.size; replace E := grown_ext E G3 (by omega); replace HW := HW.grown G3 (by omega); replace LB4 := LB4.grown G3 (by omega); replace RB4 := RB4.grown G3 (by omega); replace HG := HG.grown G3 (by omega); clear hRl G3)
      exact ⟨⟨k + 1, by omega, by go_num, HG, by rw [← HSET.out]; exact Og⟩, by simp [intOf]; omega⟩
    · obtain ⟨hx, hex⟩ := HGN.out k hlt
      have D0 : wr.cell? ⟨g, k, none⟩ = some (.int .i64 (l.getD k 0)) := by rw [World.ownsRow.cellAt Og k (by omega), mixV_get _ _ hlt, HH.out]
      have HSET : Hid ((mixV FN HN n k).set k (.int .i64 (0)) = mixV FN HN n (k + 1)) := by show _ = _; rw [← mixV_set FN HN hlt, HF.out, wM_7, show max (l.getD k 0) (-(l.getD k 0)) = 0 by omega]
      rw [hx0] at D0
      unfold G at hx
      have hx1 := hx.1
      have hx2 := hx.2
      clear hx hex
      clear hx0 hx1 hx2
      generalize l.getD k 0 = x at *
      have TG5 : True := trivial
      go_wp2_with (clear TG5; have hRl := Og.lt; refine storesc_i64 rfl rfl (g := g) (k := k) (n := n) (by rfl) rfl (by rfl) Og hlt ?_; clear Og; intro s5 G5 Og; have z6 := G5.size; replace E := grown_ext E G5 (by omega); replace HW := HW.grown G5 (by omega); replace LB4 := LB4.grown G5 (by omega); replace RB4 := RB4.grown G5 (by omega); replace HG := HG.grown G5 (by omega); clear hRl G5)
      exact ⟨⟨k + 1, by omega, by go_num, HG, by rw [← HSET.out]; exact Og⟩, by simp [intOf]; omega⟩
    · obtain ⟨hx, hex⟩ := HGN.out k hlt
      have D0 : wr.cell? ⟨g, k, none⟩ = some (.int .i64 (l.getD k 0)) := by rw [World.ownsRow.cellAt Og k (by omega), mixV_get _ _ hlt, HH.out]
      have HSET : Hid ((mixV FN HN n k).set k (.int .i64 (l.getD k 0)) = mixV FN HN n (k + 1)) := by show _ = _; rw [← mixV_set FN HN hlt, HF.out, wM_7, show max (l.getD k 0) (-(l.getD k 0)) = l.getD k 0 by omega]
      unfold G at hx
      have hx1 := hx.1
      have hx2 := hx.2
      clear hx hex
      generalize l.getD k 0 = x at *
      have TG7 : True := trivial
      go_wp2_with (clear TG7; have hRl := Og.lt; refine storesc_i64 rfl rfl (g := g) (k := k) (n := n) (by rfl) rfl (by rfl) Og hlt ?_; clear Og; intro s7 G7 Og; have z8 := G7.size; replace E := grown_ext E G7 (by omega); replace HW := HW.grown G7 (by omega); replace LB4 := LB4.grown G7 (by omega); replace RB4 := RB4.grown G7 (by omega); replace HG := HG.grown G7 (by omega); clear hRl G7)
      exact ⟨⟨k + 1, by omega, by go_num, HG, by rw [← HSET.out]; exact Og⟩, by simp [intOf]; omega⟩
    · have hkN : k = n := by omega
      rw [hkN, HEND.out] at Og
      clear HG hkN
      go_wp2_with fail
      refine (ci _ Og).mono ?_
      rintro e w59 ⟨p, rfl, hq, x⟩
      clear Og
      have NP := hq.now
      have Fp := NP.is.flat
      clear hq
      have z9 := x.size
      replace E := E.trans x
      replace HW := HW.ext x
      replace LB4 := LB4.ext x
      replace RB4 := RB4.ext x
      clear x
      have TB8 : True := trivial
      have TG11 : True := trivial
      go_wp2_with (first | (clear TB8; refine allocsV rfl rfl ?_; intro B8 w8 bB8 cB8 XB8 LB8 RB8; have z10 := XB8.size; replace E := E.trans XB8; replace HW := HW.ext XB8; replace LB4 := LB4.ext XB8; replace RB4 := RB4.ext XB8; replace NP := NP.ext XB8) | (clear TG11; have hRl := (RB8).lt (Nat.zero_lt_succ _); refine storesV (B := B8) rfl rfl rfl (v := p) rfl RB8 Fp ?_; clear LB8; intro s11 G11 LB8 RQ; have z12 := G11.size; replace E := grown_ext E G11 (by omega); replace HW := HW.grown G11 (by omega); replace LB4 := LB4.grown G11 (by omega); replace RB4 := RB4.grown G11 (by omega); replace NP := NP.grown G11 (by first | omega | (dsimp only [New]; omega)); clear RB8; have RB8 := RQ; clear RQ hRl; clear RB8) | (refine loadsV (B := B8) (by rfl) rfl rfl LB8 ?_))
      clear LB8
      refine (csq p _ NP.is).mono ?_
      rintro e w66 ⟨q, rfl, hq, x⟩
      have NQ := (hq _ NP).now
      have Fq := NQ.is.flat
      clear hq
      have z13 := x.size
      replace E := E.trans x
      replace HW := HW.ext x
      replace LB4 := LB4.ext x
      replace RB4 := RB4.ext x
      replace NP := NP.ext x
      clear x
      have TG14 : True := trivial
      go_wp2_with (clear TG14; have hRl := (RB4).lt (Nat.zero_lt_succ _); refine storesV (B := B4) rfl rfl rfl (v := q) rfl RB4 Fq ?_; clear LB4; intro s14 G14 LB4 RQ; have z15 := G14.size; replace E := grown_ext E G14 (by omega); replace HW := HW.grown G14 (by omega); replace NP := NP.grown G14 (by first | omega | (dsimp only [New]; omega)); replace NQ := NQ.grown G14 (by first | omega | (dsimp only [New]; omega)); clear RB4; have RB4 := RQ; clear RQ hRl; clear RB4)
      refine bodyPost_ret (results_lay2 rfl rfl rfl (ldV LB4)) rfl ?_
      exact ⟨q, rfl, NQ.mono (fun i hi h => by dsimp only [New] at *; omega), E, HW⟩
theorem mwh_8 (he : allE 8 l = true) (E : Ext w0 w) (hg : w0.heap.size ≤ g) (Og : RowC 2 w g n c (i64s l)) : Calls Tryd.prog 44 #[.int .i64 8, .slice (some ⟨g, 0, none⟩) n c] w (MwP (l.map (wM 8)) g w0 w) := by
  have hgl := Og.lt
  have HW := Grw.refl w g
  have HGN := Lib.hid (fun k (hk : k < n) => mGn (f := 8) hG he (show k < l.length by omega))
  have ci := fun w2 (hO : RowC 2 w2 g n c (i64s (l.map (wM 8)))) => vints_sM (some ⟨g, 0, none⟩) (l.map (wM 8)) n (by simp [hn]) (wM_all hG he) c w2 hN2 hO.sl
  have csq := fun p w2 h => squeeze_num p 3 (VD.ints (l.map (wM 8))).nums w2 h
  unfold MwP
  have hee := trivial
  clear hee
  clear he
  have HEND : Hid (mixV (fun j => .int .i64 (wM 8 (l.getD j 0))) (fun j => .int .i64 (l.getD j 0)) n n = i64s (l.map (wM 8))) := by show _ = _; rw [hn]; exact mix_end 8 l
  have HSTA : i64s l = mixV (fun j => .int .i64 (wM 8 (l.getD j 0))) (fun j => .int .i64 (l.getD j 0)) n 0 := by rw [hn]; exact mix_start 8 l
  rw [HSTA] at Og
  clear hn hG HSTA
  generalize l.map (wM 8) = L' at *
  obtain ⟨FN, hFN⟩ : ∃ FN : Nat → Value, FN = fun j => .int .i64 (wM 8 (l.getD j 0)) := ⟨_, rfl⟩
  obtain ⟨HN, hHN⟩ : ∃ HN : Nat → Value, HN = fun j => .int .i64 (l.getD j 0) := ⟨_, rfl⟩
  have HF : Hid (∀ k, FN k = .int .i64 (wM 8 (l.getD k 0))) := fun k => by rw [hFN]
  have HH : Hid (∀ k, HN k = .int .i64 (l.getD k 0)) := fun k => by rw [hHN]
  rw [← hFN, ← hHN] at Og HEND
  clear hFN hHN
  have HE8 : ∀ k, k < n → l.getD k 0 = 0 ∨ l.getD k 0 = 1 := fun k hk => of_decide_eq_true (HGN.out k hk).2
  have HE8 := Lib.hid HE8
  go_enter Tryd.func44, Tryd.ntmps44
  have TB4 : True := trivial
  go_wp2_with (clear TB4; refine allocsV rfl rfl ?_; intro B4 w4 bB4 cB4 XB4 LB4 RB4; have z1 := XB4.size; replace E := E.trans XB4; replace Og := Og.ext XB4; replace HW := HW.ext XB4)
  go_loopw [12] (fun i wr => ∃ k : Nat, k ≤ n ∧ i = .int .i64 k ∧ Grw w4 g wr ∧ RowC 2 wr g n c (mixV FN HN n k)) (fun i _ => n - (intOf i).toNat)
  case atStart => exact ⟨0, Nat.zero_le _, rfl, Grw.refl _ _, Og⟩
  case round =>
    obtain ⟨k, hk, rfl, HG, O2⟩ := hrel
    clear Og
    have Og := O2
    clear O2
    have z2 := HG.out.size
    replace E := grown_ext E HG.out (by omega)
    replace HW := HW.grown HG.out (by omega)
    replace LB4 := LB4.grown HG.out (by omega)
    replace RB4 := RB4.grown HG.out (by omega)
    rcases cut2 (k < n) (l.getD k 0) (HE8.out k) with ⟨hlt, hx0⟩ | ⟨hlt, hx0⟩ | hlt
    · obtain ⟨hx, hex⟩ := HGN.out k hlt
      have D0 : wr.cell? ⟨g, k, none⟩ = some (.int .i64 (l.getD k 0)) := by rw [World.ownsRow.cellAt Og k (by omega), mixV_get _ _ hlt, HH.out]
      have HSET : Hid ((mixV FN HN n k).set k (.int .i64 (1)) = mixV FN HN n (k + 1)) := by show _ = _; rw [← mixV_set FN HN hlt, HF.out, wM_8, hx0, show (1 : Int) - 0 = 1 by decide]
      rw [hx0] at D0
      clear hx hex hx0
      generalize l.getD k 0 = x at *
      have TG3 : True := trivial
      go_wp2_with (clear TG3; have hRl := Og.lt; refine storesc_i64 rfl rfl (g := g) (k := k) (n := n) (by rfl) rfl (by rfl) Og hlt ?_; clear Og; intro s3 G3 Og; have z4 := G3.size; replace E := grown_ext E G3 (by omega); replace HW := HW.grown G3 (by omega); replace LB4 := LB4.grown G3 (by omega); replace RB4 := RB4.grown G3 (by omega); replace HG := HG.grown G3 (by omega); clear hRl G3)
      exact ⟨⟨k + 1, by omega, by go_num, HG, by rw [← HSET.out]; exact Og⟩, by simp [intOf]; omega⟩
    · obtain ⟨hx, hex⟩ := HGN.out k hlt
      have D0 : wr.cell? ⟨g, k, none⟩ = some (.int .i64 (l.getD k 0)) := by rw [World.ownsRow.cellAt Og k (by omega), mixV_get _ _ hlt, HH.out]
      have HSET : Hid ((mixV FN HN n k).set k (.int .i64 (0)) = mixV FN HN n (k + 1)) := by show _ = _; rw [← mixV_set FN HN hlt, HF.out, wM_8, hx0, show (1 : Int) - 1 = 0 by decide]
      rw [hx0] at D0
      clear hx hex hx0
      generalize l.getD k 0 = x at *
      have TG5 : True := trivial
      go_wp2_with (clear TG5; have hRl := Og.lt; refine storesc_i64 rfl rfl (g := g) (k := k) (n := n) (by rfl) rfl (by rfl) Og hlt ?_; clear Og; intro s5 G5 Og; have z6 := G5.size; replace E := grown_ext E G5 (by omega); replace HW := HW.grown G5 (by omega); replace LB4 := LB4.grown G5 (by omega); replace RB4 := RB4.grown G5 (by omega); replace HG := HG.grown G5 (by omega); clear hRl G5)
      exact ⟨⟨k + 1, by omega, by go_num, HG, by rw [← HSET.out]; exact Og⟩, by simp [intOf]; omega⟩
    · have hkN : k = n := by omega
      rw [hkN, HEND.out] at Og
      clear HG hkN
      go_wp2_with fail
      refine (ci _ Og).mono ?_
      rintro e w59 ⟨p, rfl, hq, x⟩
      clear Og
      have NP := hq.now
      have Fp := NP.is.flat
      clear hq
      have z7 := x.size
      replace E := E.trans x
      replace HW := HW.ext x
      replace LB4 := LB4.ext x
      replace RB4 := RB4.ext x
      clear x
      have TB8 : True := trivial
      have TG9 : True := trivial
      go_wp2_with (first | (clear TB8; refine allocsV rfl rfl ?_; intro B8 w8 bB8 cB8 XB8 LB8 RB8; have z8 := XB8.size; replace E := E.trans XB8; replace HW := HW.ext XB8; replace LB4 := LB4.ext XB8; replace RB4 := RB4.ext XB8; replace NP := NP.ext XB8) | (clear TG9; have hRl := (RB8).lt (Nat.zero_lt_succ _); refine storesV (B := B8) rfl rfl rfl (v := p) rfl RB8 Fp ?_; clear LB8; intro s9 G9 LB8 RQ; have z10 := G9.size; replace E := grown_ext E G9 (by omega); replace HW := HW.grown G9 (by omega); replace LB4 := LB4.grown G9 (by omega); replace RB4 := RB4.grown G9 (by omega); replace NP := NP.grown G9 (by first | omega | (dsimp only [New]; omega)); clear RB8; have RB8 := RQ; clear RQ hRl; clear RB8) | (refine loadsV (B := B8) (by rfl) rfl rfl LB8 ?_))
      clear LB8
      refine (csq p _ NP.is).mono ?_
      rintro e w66 ⟨q, rfl, hq, x⟩
      have NQ := (hq _ NP).now
      have Fq := NQ.is.flat
      clear hq
      have z11 := x.size
      replace E := E.trans x
      replace HW := HW.ext x
      replace LB4 := LB4.ext x
      replace RB4 := RB4.ext x
      replace NP := NP.ext x
      clear x
      have TG12 : True := trivial
      go_wp2_with (clear TG12; have hRl := (RB4).lt (Nat.zero_lt_succ _); refine storesV (B := B4) rfl rfl rfl (v := q) rfl RB4 Fq ?_; clear LB4; intro s12 G12 LB4 RQ; have z13 := G12.size; replace E := grown_ext E G12 (by omega); replace HW := HW.grown G12 (by omega); replace NP := NP.grown G12 (by first | omega | (dsimp only [New]; omega)); replace NQ := NQ.grown G12 (by first | omega | (dsimp only [New]; omega)); clear RB4; have RB4 := RQ; clear RQ hRl; clear RB4)
      refine bodyPost_ret (results_lay2 rfl rfl rfl (ldV LB4)) rfl ?_
      exact ⟨q, rfl, NQ.mono (fun i hi h => by dsimp only [New] at *; omega), E, HW⟩
theorem mwh_1 (E : Ext w0 w) (hg : w0.heap.size ≤ g) (Og : RowC 2 w g n c (i64s l)) : Calls Tryd.prog 44 #[.int .i64 1, .slice (some ⟨g, 0, none⟩) n c] w (MwP (l.map (wM 1)) g w0 w) := by
  have hgl := Og.lt
  have HW := Grw.refl w g
  have HGN := Lib.hid (fun k (hk : k < n) => mGn (f := 1) hG (List.all_eq_true.2 fun _ _ => rfl) (show k < l.length by omega))
  have ci := fun w2 (hO : RowC 2 w2 g n c (i64s (l.map (wM 1)))) => vints_sM (some ⟨g, 0, none⟩) (l.map (wM 1)) n (by simp [hn]) (wM_all hG (List.all_eq_true.2 fun _ _ => rfl)) c w2 hN2 hO.sl
  have csq := fun p w2 h => squeeze_num p 3 (VD.ints (l.map (wM 1))).nums w2 h
  unfold MwP
  have hee := trivial
  clear hee
  have HEND : Hid (i64s l = i64s (l.map (wM 1))) := by
    show _ = _
    rw [show l.map (wM 1) = l from (List.map_congr_left fun x _ => rfl).trans (List.map_id l)]
  clear hn hG
  generalize l.map (wM 1) = L' at *
  have HHl := Lib.hid (fun k (hk : k < l.length) => i64s_getM hk)
  have hnl : n = l.length := by have := Og.len; simpa [i64s] using this.symm
  have HNL := Lib.hid hnl
  clear hnl
  go_enter Tryd.func44, Tryd.ntmps44
  have TB4 : True := trivial
  go_wp2_with (clear TB4; refine allocsV rfl rfl ?_; intro B4 w4 bB4 cB4 XB4 LB4 RB4; have z1 := XB4.size; replace E := E.trans XB4; replace Og := Og.ext XB4; replace HW := HW.ext XB4)
  go_loopw [12] (fun i wr => ∃ k : Nat, k ≤ n ∧ i = .int .i64 k ∧ Grw w4 g wr ∧ RowC 2 wr g n c (i64s l)) (fun i _ => n - (intOf i).toNat)
  case atStart => exact ⟨0, Nat.zero_le _, rfl, Grw.refl _ _, Og⟩
  case round =>
    obtain ⟨k, hk, rfl, HG, O2⟩ := hrel
    clear Og
    have Og := O2
    clear O2
    have z2 := HG.out.size
    replace E := grown_ext E HG.out (by omega)
    replace HW := HW.grown HG.out (by omega)
    replace LB4 := LB4.grown HG.out (by omega)
    replace RB4 := RB4.grown HG.out (by omega)
    by_cases hlt : k < n
    · have D0 : wr.cell? ⟨g, k, none⟩ = some (.int .i64 (l.getD k 0)) := by rw [World.ownsRow.cellAt Og k (by omega), HHl.out k (by rw [← HNL.out]; exact hlt)]
      generalize l.getD k 0 = x at *
      go_wp2_with fail
      exact ⟨⟨k + 1, by omega, by go_num, HG, Og⟩, by simp [intOf]; omega⟩
    · have hkN : k = n := by omega
      rw [HEND.out] at Og
      clear HG hkN
      go_wp2_with fail
      refine (ci _ Og).mono ?_
      rintro e w59 ⟨p, rfl, hq, x⟩
      clear Og
      have NP := hq.now
      have Fp := NP.is.flat
      clear hq
      have z3 := x.size
      replace E := E.trans x
      replace HW := HW.ext x
      replace LB4 := LB4.ext x
      replace RB4 := RB4.ext x
      clear x
      have TB8 : True := trivial
      have TG5 : True := trivial
      go_wp2_with (first | (clear TB8; refine allocsV rfl rfl ?_; intro B8 w8 bB8 cB8 XB8 LB8 RB8; have z4 := XB8.size; replace E := E.trans XB8; replace HW := HW.ext XB8; replace LB4 := LB4.ext XB8; replace RB4 := RB4.ext XB8; replace NP := NP.ext XB8) | (clear TG5; have hRl := (RB8).lt (Nat.zero_lt_succ _); refine storesV (B := B8) rfl rfl rfl (v := p) rfl RB8 Fp ?_; clear LB8; intro s5 G5 LB8 RQ; have z6 := G5.size; replace E := grown_ext E G5 (by omega); replace HW := HW.grown G5 (by omega); replace LB4 := LB4.grown G5 (by omega); replace RB4 := RB4.grown G5 (by omega); replace NP := NP.grown G5 (by first | omega | (dsimp only [New]; omega)); clear RB8; have RB8 := RQ; clear RQ hRl; clear RB8) | (refine loadsV (B := B8) (by rfl) rfl rfl LB8 ?_))
      clear LB8
      refine (csq p _ NP.is).mono ?_
      rintro e w66 ⟨q, rfl, hq, x⟩
      have NQ := (hq _ NP).now
      have Fq := NQ.is.flat
      clear hq
      have z7 := x.size
      replace E := E.trans x
      replace HW := HW.ext x
      replace LB4 := LB4.ext x
      replace RB4 := RB4.ext x
      replace NP := NP.ext x
      clear x
      have TG8 : True := trivial
      go_wp2_with (clear TG8; have hRl := (RB4).lt (Nat.zero_lt_succ _); refine storesV (B := B4) rfl rfl rfl (v := q) rfl RB4 Fq ?_; clear LB4; intro s8 G8 LB4 RQ; have z9 := G8.size; replace E := grown_ext E G8 (by omega); replace HW := HW.grown G8 (by omega); replace NP := NP.grown G8 (by first | omega | (dsimp only [New]; omega)); replace NQ := NQ.grown G8 (by first | omega | (dsimp only [New]; omega)); clear RB4; have RB4 := RQ; clear RQ hRl; clear RB4)
      refine bodyPost_ret (results_lay2 rfl rfl rfl (ldV LB4)) rfl ?_
      exact ⟨q, rfl, NQ.mono (fun i hi h => by dsimp only [New] at *; omega), E, HW⟩
theorem mwh_5 (E : Ext w0 w) (hg : w0.heap.size ≤ g) (Og : RowC 2 w g n c (i64s l)) : Calls Tryd.prog 44 #[.int .i64 5, .slice (some ⟨g, 0, none⟩) n c] w (MwP (l.map (wM 5)) g w0 w) := by
  have hgl := Og.lt
  have HW := Grw.refl w g
  have HGN := Lib.hid (fun k (hk : k < n) => mGn (f := 5) hG (List.all_eq_true.2 fun _ _ => rfl) (show k < l.length by omega))
  have ci := fun w2 (hO : RowC 2 w2 g n c (i64s (l.map (wM 5)))) => vints_sM (some ⟨g, 0, none⟩) (l.map (wM 5)) n (by simp [hn]) (wM_all hG (List.all_eq_true.2 fun _ _ => rfl)) c w2 hN2 hO.sl
  have csq := fun p w2 h => squeeze_num p 3 (VD.ints (l.map (wM 5))).nums w2 h
  unfold MwP
  have hee := trivial
  clear hee
  have HEND : Hid (i64s l = i64s (l.map (wM 5))) := by
    show _ = _
    rw [show l.map (wM 5) = l from (List.map_congr_left fun x _ => rfl).trans (List.map_id l)]
  clear hn hG
  generalize l.map (wM 5) = L' at *
  have HHl := Lib.hid (fun k (hk : k < l.length) => i64s_getM hk)
  have hnl : n = l.length := by have := Og.len; simpa [i64s] using this.symm
  have HNL := Lib.hid hnl
  clear hnl
  go_enter Tryd.func44, Tryd.ntmps44
  have TB4 : True := trivial
  go_wp2_with (clear TB4; refine allocsV rfl rfl ?_; intro B4 w4 bB4 cB4 XB4 LB4 RB4; have z1 := XB4.size; replace E := E.trans XB4; replace Og := Og.ext XB4; replace HW := HW.ext XB4)
  go_loopw [12] (fun i wr => ∃ k : Nat, k ≤ n ∧ i = .int .i64 k ∧ Grw w4 g wr ∧ RowC 2 wr g n c (i64s l)) (fun i _ => n - (intOf i).toNat)
  case atStart => exact ⟨0, Nat.zero_le _, rfl, Grw.refl _ _, Og⟩
  case round =>
    obtain ⟨k, hk, rfl, HG, O2⟩ := hrel
    clear Og
    have Og := O2
    clear O2
    have z2 := HG.out.size
    replace E := grown_ext E HG.out (by omega)
    replace HW := HW.grown HG.out (by omega)
    replace LB4 := LB4.grown HG.out (by omega)
    replace RB4 := RB4.grown HG.out (by omega)
    by_cases hlt : k < n
    · have D0 : wr.cell? ⟨g, k, none⟩ = some (.int .i64 (l.getD k 0)) := by rw [World.ownsRow.cellAt Og k (by omega), HHl.out k (by rw [← HNL.out]; exact hlt)]
      generalize l.getD k 0 = x at *
      go_wp2_with fail
      exact ⟨⟨k + 1, by omega, by go_num, HG, Og⟩, by simp [intOf]; omega⟩
    · have hkN : k = n := by omega
      rw [HEND.out] at Og
      clear HG hkN
      go_wp2_with fail
      refine (ci _ Og).mono ?_
      rintro e w59 ⟨p, rfl, hq, x⟩
      clear Og
      have NP := hq.now
      have Fp := NP.is.flat
      clear hq
      have z3 := x.size
      replace E := E.trans x
      replace HW := HW.ext x
      replace LB4 := LB4.ext x
      replace RB4 := RB4.ext x
      clear x
      have TB8 : True := trivial
      have TG5 : True := trivial
      go_wp2_with (first | (clear TB8; refine allocsV rfl rfl ?_; intro B8 w8 bB8 cB8 XB8 LB8 RB8; have z4 := XB8.size; replace E := E.trans XB8; replace HW := HW.ext XB8; replace LB4 := LB4.ext XB8; replace RB4 := RB4.ext XB8; replace NP := NP.ext XB8) | (clear TG5; have hRl := (RB8).lt (Nat.zero_lt_succ _); refine storesV (B := B8) rfl rfl rfl (v := p) rfl RB8 Fp ?_; clear LB8; intro s5 G5 LB8 RQ; have z6 := G5.size; replace E := grown_ext E G5 (by omega); replace HW := HW.grown G5 (by omega); replace LB4 := LB4.grown G5 (by omega); replace RB4 := RB4.grown G5 (by omega); replace NP := NP.grown G5 (by first | omega | (dsimp only [New]; omega)); clear RB8; have RB8 := RQ; clear RQ hRl; clear RB8) | (refine loadsV (B := B8) (by rfl) rfl rfl LB8 ?_))
      clear LB8
      refine (csq p _ NP.is).mono ?_
      rintro e w66 ⟨q, rfl, hq, x⟩
      have NQ := (hq _ NP).now
      have Fq := NQ.is.flat
      clear hq
      have z7 := x.size
      replace E := E.trans x
      replace HW := HW.ext x
      replace LB4 := LB4.ext x
      replace RB4 := RB4.ext x
      replace NP := NP.ext x
      clear x
      have TG8 : True := trivial
      go_wp2_with (clear TG8; have hRl := (RB4).lt (Nat.zero_lt_succ _); refine storesV (B := B4) rfl rfl rfl (v := q) rfl RB4 Fq ?_; clear LB4; intro s8 G8 LB4 RQ; have z9 := G8.size; replace E := grown_ext E G8 (by omega); replace HW := HW.grown G8 (by omega); replace NP := NP.grown G8 (by first | omega | (dsimp only [New]; omega)); replace NQ := NQ.grown G8 (by first | omega | (dsimp only [New]; omega)); clear RB4; have RB4 := RQ; clear RQ hRl; clear RB4)
      refine bodyPost_ret (results_lay2 rfl rfl rfl (ldV LB4)) rfl ?_
      exact ⟨q, rfl, NQ.mono (fun i hi h => by dsimp only [New] at *; omega), E, HW⟩
theorem mwh_6 (E : Ext w0 w) (hg : w0.heap.size ≤ g) (Og : RowC 2 w g n c (i64s l)) : Calls Tryd.prog 44 #[.int .i64 6, .slice (some ⟨g, 0, none⟩) n c] w (MwP (l.map (wM 6)) g w0 w) := by
  have hgl := Og.lt
  have HW := Grw.refl w g
  have HGN := Lib.hid (fun k (hk : k < n) => mGn (f := 6) hG (List.all_eq_true.2 fun _ _ => rfl) (show k < l.length by omega))
  have ci := fun w2 (hO : RowC 2 w2 g n c (i64s (l.map (wM 6)))) => vints_sM (some ⟨g, 0, none⟩) (l.map (wM 6)) n (by simp [hn]) (wM_all hG (List.all_eq_true.2 fun _ _ => rfl)) c w2 hN2 hO.sl
  have csq := fun p w2 h => squeeze_num p 3 (VD.ints (l.map (wM 6))).nums w2 h
  unfold MwP
  have hee := trivial
  clear hee
  have HEND : Hid (i64s l = i64s (l.map (wM 6))) := by
    show _ = _
    rw [show l.map (wM 6) = l from (List.map_congr_left fun x _ => rfl).trans (List.map_id l)]
  clear hn hG
  generalize l.map (wM 6) = L' at *
  have HHl := Lib.hid (fun k (hk : k < l.length) => i64s_getM hk)
  have hnl : n = l.length := by have := Og.len; simpa [i64s] using this.symm
  have HNL := Lib.hid hnl
  clear hnl
  go_enter Tryd.func44, Tryd.ntmps44
  have TB4 : True := trivial
  go_wp2_with (clear TB4; refine allocsV rfl rfl ?_; intro B4 w4 bB4 cB4 XB4 LB4 RB4; have z1 := XB4.size; replace E := E.trans XB4; replace Og := Og.ext XB4; replace HW := HW.ext XB4)
  go_loopw [12] (fun i wr => ∃ k : Nat, k ≤ n ∧ i = .int .i64 k ∧ Grw w4 g wr ∧ RowC 2 wr g n c (i64s l)) (fun i _ => n - (intOf i).toNat)
  case atStart => exact ⟨0, Nat.zero_le _, rfl, Grw.refl _ _, Og⟩
  case round =>
    obtain ⟨k, hk, rfl, HG, O2⟩ := hrel
    clear Og
    have Og := O2
    clear O2
    have z2 := HG.out.size
    replace E := grown_ext E HG.out (by omega)
    replace HW := HW.grown HG.out (by omega)
    replace LB4 := LB4.grown HG.out (by omega)
    replace RB4 := RB4.grown HG.out (by omega)
    by_cases hlt : k < n
    · have D0 : wr.cell? ⟨g, k, none⟩ = some (.int .i64 (l.getD k 0)) := by rw [World.ownsRow.cellAt Og k (by omega), HHl.out k (by rw [← HNL.out]; exact hlt)]
      generalize l.getD k 0 = x at *
      go_wp2_with fail
      exact ⟨⟨k + 1, by omega, by go_num, HG, Og⟩, by simp [intOf]; omega⟩
    · have hkN : k = n := by omega
      rw [HEND.out] at Og
      clear HG hkN
      go_wp2_with fail
      refine (ci _ Og).mono ?_
      rintro e w59 ⟨p, rfl, hq, x⟩
      clear Og
      have NP := hq.now
      have Fp := NP.is.flat
      clear hq
      have z3 := x.size
      replace E := E.trans x
      replace HW := HW.ext x
      replace LB4 := LB4.ext x
      replace RB4 := RB4.ext x
      clear x
      have TB8 : True := trivial
      have TG5 : True := trivial
      go_wp2_with (first | (clear TB8; refine allocsV rfl rfl ?_; intro B8 w8 bB8 cB8 XB8 LB8 RB8; have z4 := XB8.size; replace E := E.trans XB8; replace HW := HW.ext XB8; replace LB4 := LB4.ext XB8; replace RB4 := RB4.ext XB8; replace NP := NP.ext XB8) | (clear TG5; have hRl := (RB8).lt (Nat.zero_lt_succ _); refine storesV (B := B8) rfl rfl rfl (v := p) rfl RB8 Fp ?_; clear LB8; intro s5 G5 LB8 RQ; have z6 := G5.size; replace E := grown_ext E G5 (by omega); replace HW := HW.grown G5 (by omega); replace LB4 := LB4.grown G5 (by omega); replace RB4 := RB4.grown G5 (by omega); replace NP := NP.grown G5 (by first | omega | (dsimp only [New]; omega)); clear RB8; have RB8 := RQ; clear RQ hRl; clear RB8) | (refine loadsV (B := B8) (by rfl) rfl rfl LB8 ?_))
      clear LB8
      refine (csq p _ NP.is).mono ?_
      rintro e w66 ⟨q, rfl, hq, x⟩
      have NQ := (hq _ NP).now
      have Fq := NQ.is.flat
      clear hq
      have z7 := x.size
      replace E := E.trans x
      replace HW := HW.ext x
      replace LB4 := LB4.ext x
      replace RB4 := RB4.ext x
      replace NP := NP.ext x
      clear x
      have TG8 : True := trivial
      go_wp2_with (clear TG8; have hRl := (RB4).lt (Nat.zero_lt_succ _); refine storesV (B := B4) rfl rfl rfl (v := q) rfl RB4 Fq ?_; clear LB4; intro s8 G8 LB4 RQ; have z9 := G8.size; replace E := grown_ext E G8 (by omega); replace HW := HW.grown G8 (by omega); replace NP := NP.grown G8 (by first | omega | (dsimp only [New]; omega)); replace NQ := NQ.grown G8 (by first | omega | (dsimp only [New]; omega)); clear RB4; have RB4 := RQ; clear RQ hRl; clear RB4)
      refine bodyPost_ret (results_lay2 rfl rfl rfl (ldV LB4)) rfl ?_
      exact ⟨q, rfl, NQ.mono (fun i hi h => by dsimp only [New] at *; omega), E, HW⟩
theorem mwh_8e (he : allE 8 l = false) (E : Ext w0 w) (hg : w0.heap.size ≤ g) (Og : RowC 2 w g n c (i64s l)) : Calls Tryd.prog 44 #[.int .i64 8, .slice (some ⟨g, 0, none⟩) n c] w fun e w' => e = .returned (.tuple #[zeroVec, .int .i64 24]) ∧ Ext w0 w' ∧ Grw w g w' := by
  have hgl := Og.lt
  have HW := Grw.refl w g
  have HBAD : Hid (¬ ∀ j, j < n → l.getD j 0 = 0 ∨ l.getD j 0 = 1) := fun h => by
    have : allE 8 l = true := List.all_eq_true.2 fun x hx => by
      obtain ⟨j, hj, rfl⟩ := List.getElem_of_mem hx
      have := h j (by omega)
      exact decide_eq_true (by simpa [List.getD, hj] using this)
    rw [he] at this
    cases this
  have HGX : Hid (∀ k, k < n → G (l.getD k 0)) := fun k hk => hG _ (by rw [List.getD_eq_getElem?_getD, List.getElem?_eq_getElem (show k < l.length by omega)]; exact List.getElem_mem _)
  clear he
  have HEND : Hid (mixV (fun j => .int .i64 (wM 8 (l.getD j 0))) (fun j => .int .i64 (l.getD j 0)) n n = i64s (l.map (wM 8))) := by show _ = _; rw [hn]; exact mix_end 8 l
  have HSTA : i64s l = mixV (fun j => .int .i64 (wM 8 (l.getD j 0))) (fun j => .int .i64 (l.getD j 0)) n 0 := by rw [hn]; exact mix_start 8 l
  rw [HSTA] at Og
  clear hn hG HSTA
  generalize l.map (wM 8) = L' at *
  obtain ⟨FN, hFN⟩ : ∃ FN : Nat → Value, FN = fun j => .int .i64 (wM 8 (l.getD j 0)) := ⟨_, rfl⟩
  obtain ⟨HN, hHN⟩ : ∃ HN : Nat → Value, HN = fun j => .int .i64 (l.getD j 0) := ⟨_, rfl⟩
  have HF : Hid (∀ k, FN k = .int .i64 (wM 8 (l.getD k 0))) := fun k => by rw [hFN]
  have HH : Hid (∀ k, HN k = .int .i64 (l.getD k 0)) := fun k => by rw [hHN]
  rw [← hFN, ← hHN] at Og
  clear hFN hHN
  go_enter Tryd.func44, Tryd.ntmps44
  have TB4 : True := trivial
  go_wp2_with (clear TB4; refine allocsV rfl rfl ?_; intro B4 w4 bB4 cB4 XB4 LB4 RB4; have z1 := XB4.size; replace E := E.trans XB4; replace Og := Og.ext XB4; replace HW := HW.ext XB4)
  go_loopw [12] (fun i wr => ∃ k : Nat, k ≤ n ∧ i = .int .i64 k ∧ (∀ j, j < k → l.getD j 0 = 0 ∨ l.getD j 0 = 1) ∧ Grw w4 g wr ∧ RowC 2 wr g n c (mixV FN HN n k)) (fun i _ => n - (intOf i).toNat)
  case atStart => exact ⟨0, Nat.zero_le _, rfl, fun j hj => absurd hj (by omega), Grw.refl _ _, Og⟩
  case round =>
    obtain ⟨k, hk, rfl, hup, HG, O2⟩ := hrel
    clear Og
    have Og := O2
    clear O2
    have z2 := HG.out.size
    replace E := grown_ext E HG.out (by omega)
    replace HW := HW.grown HG.out (by omega)
    replace LB4 := LB4.grown HG.out (by omega)
    replace RB4 := RB4.grown HG.out (by omega)
    rcases cut01 (k < n) (l.getD k 0) with ⟨hlt, hx0⟩ | ⟨hlt, hx0⟩ | ⟨hlt, hx0, hx1⟩ | hlt
    · have D0 : wr.cell? ⟨g, k, none⟩ = some (.int .i64 (l.getD k 0)) := by rw [World.ownsRow.cellAt Og k (by omega), mixV_get _ _ hlt, HH.out]
      have HUP : Hid (∀ j, j < k + 1 → l.getD j 0 = 0 ∨ l.getD j 0 = 1) := fun j hj => by
        by_cases e : j = k
        · subst e; exact .inl hx0
        · exact hup j (by omega)
      have HU := Lib.hid hup
      clear hup
      have HSET : Hid ((mixV FN HN n k).set k (.int .i64 (1)) = mixV FN HN n (k + 1)) := by show _ = _; rw [← mixV_set FN HN hlt, HF.out, wM_8, hx0, show (1 : Int) - 0 = 1 by decide]
      rw [hx0] at D0
      clear hx0
      generalize l.getD k 0 = x at *
      have TG3 : True := trivial
      go_wp2_with (clear TG3; have hRl := Og.lt; refine storesc_i64 rfl rfl (g := g) (k := k) (n := n) (by rfl) rfl (by rfl) Og hlt ?_; clear Og; intro s3 G3 Og; have z4 := G3.size; replace E := grown_ext E G3 (by omega); replace HW := HW.grown G3 (by omega); replace LB4 := LB4.grown G3 (by omega); replace RB4 := RB4.grown G3 (by omega); replace HG := HG.grown G3 (by omega); clear hRl G3)
      exact ⟨⟨k + 1, by omega, by go_num, HUP.out, HG, by rw [← HSET.out]; exact Og⟩, by simp [intOf]; omega⟩
    · have D0 : wr.cell? ⟨g, k, none⟩ = some (.int .i64 (l.getD k 0)) := by rw [World.ownsRow.cellAt Og k (by omega), mixV_get _ _ hlt, HH.out]
      have HUP : Hid (∀ j, j < k + 1 → l.getD j 0 = 0 ∨ l.getD j 0 = 1) := fun j hj => by
        by_cases e : j = k
        · subst e; exact .inr hx0
        · exact hup j (by omega)
      have HU := Lib.hid hup
      clear hup
      have HSET : Hid ((mixV FN HN n k).set k (.int .i64 (0)) = mixV FN HN n (k + 1)) := by show _ = _; rw [← mixV_set FN HN hlt, HF.out, wM_8, hx0, show (1 : Int) - 1 = 0 by decide]
      rw [hx0] at D0
      clear hx0
      generalize l.getD k 0 = x at *
      have TG5 : True := trivial
      go_wp2_with (clear TG5; have hRl := Og.lt; refine storesc_i64 rfl rfl (g := g) (k := k) (n := n) (by rfl) rfl (by rfl) Og hlt ?_; clear Og; intro s5 G5 Og; have z6 := G5.size; replace E := grown_ext E G5 (by omega); replace HW := HW.grown G5 (by omega); replace LB4 := LB4.grown G5 (by omega); replace RB4 := RB4.grown G5 (by omega); replace HG := HG.grown G5 (by omega); clear hRl G5)
      exact ⟨⟨k + 1, by omega, by go_num, HUP.out, HG, by rw [← HSET.out]; exact Og⟩, by simp [intOf]; omega⟩
    · have D0 : wr.cell? ⟨g, k, none⟩ = some (.int .i64 (l.getD k 0)) := by rw [World.ownsRow.cellAt Og k (by omega), mixV_get _ _ hlt, HH.out]
      have e1 : (l.getD k 0 != 0) = true := by simpa using hx0
      have e2 : (l.getD k 0 != 1) = true := by simpa using hx1
      clear hx0 hx1 hup HG
      generalize l.getD k 0 = x at *
      have TG7 : True := trivial
      go_wp2_with (clear TG7; have hRl := (RB4).lt (Nat.zero_lt_succ _); refine storesV (B := B4) rfl rfl rfl (v := zeroVec) rfl RB4 zeroVec_flat ?_; clear LB4; intro s7 G7 LB4 RQ; have z8 := G7.size; replace E := grown_ext E G7 (by omega); replace Og := Og.grown G7 (by omega); replace HW := HW.grown G7 (by omega); clear RB4; have RB4 := RQ; clear RQ hRl; clear RB4)
      refine bodyPost_ret (results_lay2 rfl rfl rfl (ldV LB4)) rfl ?_
      exact ⟨rfl, E, HW⟩
    · exact absurd (fun j hj => hup j (by omega)) HBAD.out
end
end Go.Proofs.YtidnikndjhfgaaaDoor
