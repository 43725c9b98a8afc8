/- env's Get and Fun over frames that lie in one another; Names and Funs of a frame. -/
import Derived.Test.YtdkgiklbmbkdaaaEk
namespace Go.Proofs.Ytdkgiklbmbkdaaa
open Go.ChangeShapes Go.WideShapes Go.RowKit Go.Maps Bv Fl
set_option maxHeartbeats 1000000
set_option maxRecDepth 100000
/-- what frame i lies in (frame 0: in none) -/
def pP (B : Nat → Nat) : Nat → Value
  | 0 => .pointer none
  | i + 1 => .pointer (some ⟨B i, 0, none⟩)
def ptrRk : Value → Nat
  | .pointer (some a) => a.block + 1
  | _ => 0
theorem pP_rk {B : Nat → Nat} (hB : ∀ i, i < 2 → B i < B (i + 1)) {i : Nat} (hi : i < 3) : ptrRk (pP B i) < B i + 1 := by
  cases i with
  | zero => show 0 < _; omega
  | succ i => have := hB i (by omega); show B i + 1 < _; omega
def GetR (D : Nat → DataW Value) (z : Value) (s : ByteArray) (k : Nat) (v ok : Value) : Prop :=
  (ok = .bool false ∧ ∀ i, i ≤ k → Maps.has (D i) (.string s.data.toList) = false) ∨ (ok = .bool true ∧ ∃ i, i ≤ k ∧ Maps.has (D i) (.string s.data.toList) = true ∧ .held v = (D i).atKey (.string s.data.toList) (.held z) ∧ ∀ j, i < j → j ≤ k → Maps.has (D j) (.string s.data.toList) = false)
theorem own_sls {T : TypeId} {s : Nat} {w : World} {base b0 : Nat} {A : Option Addr} {n c : Nat} {xs : List Value} (h : w.ownsRow base T s (.slice A n c) n xs) (hb : b0 ≤ base) : SlS w s A n xs (New b0) := fun w2 hs hk => (Sl.own h).reach hs hk fun a ha _ => by
  subst ha
  have := (World.ownsRow.lt h a.block rfl).1
  exact Nat.le_trans hb this
section
variable (w : World) (s : ByteArray) (hs : s.size ≤ maxLen)
include hs in
theorem get_chain (B bm : Nat → Nat) (D : Nat → DataW Value) (k : Nat) (hk : k < 3) (hB : ∀ i, i < 2 → B i < B (i + 1)) (H0 : ∀ i, i < 3 → w.cell? ⟨B i, 0, none⟩ = some (pP B i)) (H1 : ∀ i, i < 3 → w.cell? ⟨B i, 1, none⟩ = some (.map (some (bm i)))) (HO : ∀ i, i < 3 → ∃ N, OM w (bm i) N (D i)) (hF : ∀ i, i < 3 → ∀ v, .held v = (D i).atKey (.string s.data.toList) (.held zeroArr) → Flat 9 v) :
    Calls Try.prog 13 #[pP B (k + 1), .string s] w fun e w' => ∃ v ok, e = .returned (.tuple #[v, ok]) ∧ GetR D zeroArr s k v ok ∧ Flat 9 v ∧ Ext w w' := by
  have E := Ext.refl w
  obtain ⟨P0, hP0⟩ : ∃ P0, pP B (k + 1) = P0 := ⟨_, rfl⟩
  rw [hP0]
  go_enter Try.func13, Try.ntmps13
  have TB4 : True := trivial
  go_wp2_with (clear TB4; refine allocsA rfl rfl ?_; intro B4 w4 bB4 cB4 XB4 LB4 RB4; have z1 := XB4.size; replace E := E.trans XB4)
  go_loopw [0] (fun e wr => ∃ j : Nat, j ≤ k + 1 ∧ Hid (pP B j = e) ∧ Hid (∀ i, j ≤ i → i ≤ k → Maps.has (D i) (.string s.data.toList) = false) ∧ Ext w4 wr) (fun e _ => ptrRk e)
  case atStart => exact ⟨k + 1, Nat.le_refl _, hP0, fun i h1 h2 => absurd h1 (by omega), Ext.refl _⟩
  case round =>
    obtain ⟨j, hj, hP, hA, HX⟩ := hrel
    have HXs := HX
    have z2 := HX.size
    replace E := E.trans HX
    replace LB4 := LB4.ext HX
    replace RB4 := RB4.ext HX
    clear HX
    have hcs : (∃ i, j = i + 1 ∧ Maps.has (D i) (.string s.data.toList) = true) ∨ (∃ i, j = i + 1 ∧ Maps.has (D i) (.string s.data.toList) = false) ∨ j = 0 := by
      cases j with
      | zero => exact .inr (.inr rfl)
      | succ i => cases h : Maps.has (D i) (.string s.data.toList) with
        | true => exact .inl ⟨i, rfl, h⟩
        | false => exact .inr (.inl ⟨i, rfl, h⟩)
    rcases hcs with ⟨i, rfl, hh⟩ | ⟨i, rfl, hh⟩ | rfl
    · clear HXs
      obtain rfl := hP.out
      dsimp only [pP]
      obtain ⟨N, hO⟩ := HO i (by omega)
      obtain ⟨v, hv⟩ : ∃ v, .held v = (D i).atKey (.string s.data.toList) (.held zeroArr) := (by obtain ⟨v, _, h⟩ := hO.lookA hs; exact ⟨v, h⟩)
      have hl2 := hO.fitA hs hv wr E
      have vf := hF i (by omega) v hv
      have C0 := cell_ext E (H0 i (by omega))
      have C1 := cell_ext E (H1 i (by omega))
      have hb : B i < w.heap.size := World.block_lt_of_cell? _ _ (H0 i (by omega))
      have hrk := pP_rk hB (show i < 3 by omega)
      rw [hh] at hl2
      have HR : Hid (GetR D zeroArr s k v (.bool true)) := .inr ⟨rfl, i, by omega, hh, hv, fun j h1 h2 => hA.out j h1 h2⟩
      clear hh hv hA C0 hrk
      generalize B i = b at C1 hb ⊢
      generalize bm i = m at C1 hl2
      clear hO hF HO H0 H1
      have TB6 : True := trivial
      have TG4 : True := trivial
      have TG6 : True := trivial
      go_wp2_with (first | (clear TB6; refine allocsA rfl rfl ?_; intro B6 w6 bB6 cB6 XB6 LB6 RB6; have z3 := XB6.size; replace E := E.trans XB6; replace LB4 := LB4.ext XB6; replace RB4 := RB4.ext XB6; replace C1 := cell_ext (XB6) C1) | (clear TG4; have hRl := (RB6).lt (Nat.zero_lt_succ _); refine storesA (B := B6) rfl rfl rfl (v := v) rfl RB6 vf ?_; clear LB6; intro s4 G4 LB6 RQ; have z5 := G4.size; replace E := grown_ext E G4 (by omega); replace LB4 := LB4.grown G4 (by omega); replace RB4 := RB4.grown G4 (by omega); replace C1 := cell_grown (G4) C1 (by show b ≠ _; omega); clear RB6; have RB6 := RQ; clear RQ hRl) | (refine loadsA (B := B6) (by rfl) rfl rfl LB6 ?_) | (clear TG6; have hRl := (RB4).lt (Nat.zero_lt_succ _); refine storesA (B := B4) rfl rfl rfl (v := v) rfl RB4 vf ?_; clear LB4; intro s6 G6 LB4 RQ; have z7 := G6.size; replace E := grown_ext E G6 (by omega); replace C1 := cell_grown (G6) C1 (by show b ≠ _; omega); replace LB6 := LB6.grown G6 (by omega); replace RB6 := RB6.grown G6 (by omega); clear RB4; have RB4 := RQ; clear RQ hRl))
      refine bodyPost_ret (results_lay2 rfl rfl rfl (ldA LB4)) rfl ?_
      exact ⟨_, _, rfl, HR, vf, E⟩
    · have HXX := HXs
      clear HXs
      obtain rfl := hP.out
      dsimp only [pP]
      obtain ⟨N, hO⟩ := HO i (by omega)
      obtain ⟨v, hv⟩ : ∃ v, .held v = (D i).atKey (.string s.data.toList) (.held zeroArr) := (by obtain ⟨v, _, h⟩ := hO.lookA hs; exact ⟨v, h⟩)
      have hl2 := hO.fitA hs hv wr E
      have vf := hF i (by omega) v hv
      have C0 := cell_ext E (H0 i (by omega))
      have C1 := cell_ext E (H1 i (by omega))
      have hb : B i < w.heap.size := World.block_lt_of_cell? _ _ (H0 i (by omega))
      have hrk := pP_rk hB (show i < 3 by omega)
      rw [hh] at hl2
      have hA2 : Hid (∀ j, i ≤ j → j ≤ k → Maps.has (D j) (.string s.data.toList) = false) := fun j h1 h2 => (Nat.lt_or_eq_of_le h1).elim (fun h => hA.out j h h2) (fun e => e ▸ hh)
      clear hh hv hA
      obtain ⟨Pi, hPi⟩ : ∃ Pi, pP B i = Pi := ⟨_, rfl⟩
      rw [hPi] at C0 hrk
      generalize B i = b at C0 C1 hb hrk ⊢
      generalize bm i = m at C1 hl2
      clear hO hF HO H0 H1
      have TB6 : True := trivial
      have TG9 : True := trivial
      go_wp2_with (first | (clear TB6; refine allocsA rfl rfl ?_; intro B6 w6 bB6 cB6 XB6 LB6 RB6; have z8 := XB6.size; replace E := E.trans XB6; replace LB4 := LB4.ext XB6; replace RB4 := RB4.ext XB6; replace C0 := cell_ext (XB6) C0; replace C1 := cell_ext (XB6) C1; replace HXX := HXX.trans XB6) | (clear TG9; have hRl := (RB6).lt (Nat.zero_lt_succ _); refine storesA (B := B6) rfl rfl rfl (v := v) rfl RB6 vf ?_; clear LB6; intro s9 G9 LB6 RQ; have z10 := G9.size; replace E := grown_ext E G9 (by omega); replace LB4 := LB4.grown G9 (by omega); replace RB4 := RB4.grown G9 (by omega); replace C0 := cell_grown (G9) C0 (by show b ≠ _; omega); replace C1 := cell_grown (G9) C1 (by show b ≠ _; omega); replace HXX := grown_ext HXX G9 (by omega); clear RB6; have RB6 := RQ; clear RQ hRl; clear RB6))
      exact ⟨⟨i, by omega, hPi, hA2, HXX⟩, hrk⟩
    · clear HXs
      obtain rfl := hP.out
      dsimp only [pP]
      have HR : Hid (GetR D zeroArr s k zeroArr (.bool false)) := .inl ⟨rfl, fun i hi => hA.out i (Nat.zero_le _) hi⟩
      clear hA
      have TG11 : True := trivial
      go_wp2_with (clear TG11; have hRl := (RB4).lt (Nat.zero_lt_succ _); refine storesA (B := B4) rfl rfl rfl (v := zeroArr) rfl RB4 zeroArr_flat ?_; clear LB4; intro s11 G11 LB4 RQ; have z12 := G11.size; replace E := grown_ext E G11 (by omega); clear RB4; have RB4 := RQ; clear RQ hRl)
      refine bodyPost_ret (results_lay2 rfl rfl rfl (ldA LB4)) rfl ?_
      exact ⟨_, _, rfl, HR, zeroArr_flat, E⟩
include hs in
theorem fun_chain (B bm : Nat → Nat) (D : Nat → DataW Value) (k : Nat) (hk : k < 3) (hB : ∀ i, i < 2 → B i < B (i + 1)) (H0 : ∀ i, i < 3 → w.cell? ⟨B i, 0, none⟩ = some (pP B i)) (H1 : ∀ i, i < 3 → w.cell? ⟨B i, 2, none⟩ = some (.map (some (bm i)))) (HO : ∀ i, i < 3 → ∃ N, OM w (bm i) N (D i)) (hF : ∀ i, i < 3 → ∀ v, .held v = (D i).atKey (.string s.data.toList) (.held zeroClo) → Flat 8 v) :
    Calls Try.prog 14 #[pP B (k + 1), .string s] w fun e w' => ∃ v ok, e = .returned (.tuple #[v, ok]) ∧ GetR D zeroClo s k v ok ∧ Flat 8 v ∧ Ext w w' := by
  have E := Ext.refl w
  obtain ⟨P0, hP0⟩ : ∃ P0, pP B (k + 1) = P0 := ⟨_, rfl⟩
  rw [hP0]
  go_enter Try.func14, Try.ntmps14
  have TB4 : True := trivial
  go_wp2_with (clear TB4; refine allocsC rfl rfl ?_; intro B4 w4 bB4 cB4 XB4 LB4 RB4; have z1 := XB4.size; replace E := E.trans XB4)
  go_loopw [0] (fun e wr => ∃ j : Nat, j ≤ k + 1 ∧ Hid (pP B j = e) ∧ Hid (∀ i, j ≤ i → i ≤ k → Maps.has (D i) (.string s.data.toList) = false) ∧ Ext w4 wr) (fun e _ => ptrRk e)
  case atStart => exact ⟨k + 1, Nat.le_refl _, hP0, fun i h1 h2 => absurd h1 (by omega), Ext.refl _⟩
  case round =>
    obtain ⟨j, hj, hP, hA, HX⟩ := hrel
    have HXs := HX
    have z2 := HX.size
    replace E := E.trans HX
    replace LB4 := LB4.ext HX
    replace RB4 := RB4.ext HX
    clear HX
    have hcs : (∃ i, j = i + 1 ∧ Maps.has (D i) (.string s.data.toList) = true) ∨ (∃ i, j = i + 1 ∧ Maps.has (D i) (.string s.data.toList) = false) ∨ j = 0 := by
      cases j with
      | zero => exact .inr (.inr rfl)
      | succ i => cases h : Maps.has (D i) (.string s.data.toList) with
        | true => exact .inl ⟨i, rfl, h⟩
        | false => exact .inr (.inl ⟨i, rfl, h⟩)
    rcases hcs with ⟨i, rfl, hh⟩ | ⟨i, rfl, hh⟩ | rfl
    · clear HXs
      obtain rfl := hP.out
      dsimp only [pP]
      obtain ⟨N, hO⟩ := HO i (by omega)
      obtain ⟨v, hv⟩ : ∃ v, .held v = (D i).atKey (.string s.data.toList) (.held zeroClo) := (by obtain ⟨v, _, h⟩ := hO.lookC hs; exact ⟨v, h⟩)
      have hl2 := hO.fitC hs hv wr E
      have vf := hF i (by omega) v hv
      have C0 := cell_ext E (H0 i (by omega))
      have C1 := cell_ext E (H1 i (by omega))
      have hb : B i < w.heap.size := World.block_lt_of_cell? _ _ (H0 i (by omega))
      have hrk := pP_rk hB (show i < 3 by omega)
      rw [hh] at hl2
      have HR : Hid (GetR D zeroClo s k v (.bool true)) := .inr ⟨rfl, i, by omega, hh, hv, fun j h1 h2 => hA.out j h1 h2⟩
      clear hh hv hA C0 hrk
      generalize B i = b at C1 hb ⊢
      generalize bm i = m at C1 hl2
      clear hO hF HO H0 H1
      have TB6 : True := trivial
      have TG4 : True := trivial
      have TG6 : True := trivial
      go_wp2_with (first | (clear TB6; refine allocsC rfl rfl ?_; intro B6 w6 bB6 cB6 XB6 LB6 RB6; have z3 := XB6.size; replace E := E.trans XB6; replace LB4 := LB4.ext XB6; replace RB4 := RB4.ext XB6; replace C1 := cell_ext (XB6) C1) | (clear TG4; have hRl := (RB6).lt (Nat.zero_lt_succ _); refine storesC (B := B6) rfl rfl rfl (v := v) rfl RB6 vf ?_; clear LB6; intro s4 G4 LB6 RQ; have z5 := G4.size; replace E := grown_ext E G4 (by omega); replace LB4 := LB4.grown G4 (by omega); replace RB4 := RB4.grown G4 (by omega); replace C1 := cell_grown (G4) C1 (by show b ≠ _; omega); clear RB6; have RB6 := RQ; clear RQ hRl) | (refine loadsC (B := B6) (by rfl) rfl rfl LB6 ?_) | (clear TG6; have hRl := (RB4).lt (Nat.zero_lt_succ _); refine storesC (B := B4) rfl rfl rfl (v := v) rfl RB4 vf ?_; clear LB4; intro s6 G6 LB4 RQ; have z7 := G6.size; replace E := grown_ext E G6 (by omega); replace C1 := cell_grown (G6) C1 (by show b ≠ _; omega); replace LB6 := LB6.grown G6 (by omega); replace RB6 := RB6.grown G6 (by omega); clear RB4; have RB4 := RQ; clear RQ hRl))
      refine bodyPost_ret (results_lay2 rfl rfl rfl (ldC LB4)) rfl ?_
      exact ⟨_, _, rfl, HR, vf, E⟩
    · have HXX := HXs
      clear HXs
      obtain rfl := hP.out
      dsimp only [pP]
      obtain ⟨N, hO⟩ := HO i (by omega)
      obtain ⟨v, hv⟩ : ∃ v, .held v = (D i).atKey (.string s.data.toList) (.held zeroClo) := (by obtain ⟨v, _, h⟩ := hO.lookC hs; exact ⟨v, h⟩)
      have hl2 := hO.fitC hs hv wr E
      have vf := hF i (by omega) v hv
      have C0 := cell_ext E (H0 i (by omega))
      have C1 := cell_ext E (H1 i (by omega))
      have hb : B i < w.heap.size := World.block_lt_of_cell? _ _ (H0 i (by omega))
      have hrk := pP_rk hB (show i < 3 by omega)
      rw [hh] at hl2
      have hA2 : Hid (∀ j, i ≤ j → j ≤ k → Maps.has (D j) (.string s.data.toList) = false) := fun j h1 h2 => (Nat.lt_or_eq_of_le h1).elim (fun h => hA.out j h h2) (fun e => e ▸ hh)
      clear hh hv hA
      obtain ⟨Pi, hPi⟩ : ∃ Pi, pP B i = Pi := ⟨_, rfl⟩
      rw [hPi] at C0 hrk
      generalize B i = b at C0 C1 hb hrk ⊢
      generalize bm i = m at C1 hl2
      clear hO hF HO H0 H1
      have TB6 : True := trivial
      have TG9 : True := trivial
      go_wp2_with (first | (clear TB6; refine allocsC rfl rfl ?_; intro B6 w6 bB6 cB6 XB6 LB6 RB6; have z8 := XB6.size; replace E := E.trans XB6; replace LB4 := LB4.ext XB6; replace RB4 := RB4.ext XB6; replace C0 := cell_ext (XB6) C0; replace C1 := cell_ext (XB6) C1; replace HXX := HXX.trans XB6) | (clear TG9; have hRl := (RB6).lt (Nat.zero_lt_succ _); refine storesC (B := B6) rfl rfl rfl (v := v) rfl RB6 vf ?_; clear LB6; intro s9 G9 LB6 RQ; have z10 := G9.size; replace E := grown_ext E G9 (by omega); replace LB4 := LB4.grown G9 (by omega); replace RB4 := RB4.grown G9 (by omega); replace C0 := cell_grown (G9) C0 (by show b ≠ _; omega); replace C1 := cell_grown (G9) C1 (by show b ≠ _; omega); replace HXX := grown_ext HXX G9 (by omega); clear RB6; have RB6 := RQ; clear RQ hRl; clear RB6))
      exact ⟨⟨i, by omega, hPi, hA2, HXX⟩, hrk⟩
    · clear HXs
      obtain rfl := hP.out
      dsimp only [pP]
      have HR : Hid (GetR D zeroClo s k zeroClo (.bool false)) := .inl ⟨rfl, fun i hi => hA.out i (Nat.zero_le _) hi⟩
      clear hA
      have TG11 : True := trivial
      go_wp2_with (clear TG11; have hRl := (RB4).lt (Nat.zero_lt_succ _); refine storesC (B := B4) rfl rfl rfl (v := zeroClo) rfl RB4 zeroClo_flat ?_; clear LB4; intro s11 G11 LB4 RQ; have z12 := G11.size; replace E := grown_ext E G11 (by omega); clear RB4; have RB4 := RQ; clear RQ hRl)
      refine bodyPost_ret (results_lay2 rfl rfl rfl (ldC LB4)) rfl ?_
      exact ⟨_, _, rfl, HR, zeroClo_flat, E⟩
theorem names_keys1 (b : Nat) (w : World) : Calls Try.prog 26 #[.map (some b)] w fun e w' => e = .returned (.func (.func 34) #[] #[.pointer (some ⟨w.heap.size, 0, none⟩)]) ∧ w' = w.alloc (.cells #[.map (some b)] 59) := callsIn_wide.1 (it_maps_Keys_26 (some b) w)
theorem names_sorted1 (b n : Nat) (D : DataW Value) (L : List Pr) (hR : Rel D L) (hL : L.length ≤ 1000) (w : World) (hO : OM w b n D) : Calls Try.prog 25 #[.func (.func 34) #[] #[.pointer (some ⟨w.heap.size, 0, none⟩)]] (w.alloc (.cells #[.map (some b)] 59)) fun e w' => ∃ A c, e = .returned (.slice A L.length c) ∧ SlS w' 1 A L.length (L.map (fun p => .string p.nm)) (New w.heap.size) ∧ Ext w w' := by
  have hsz := hR.size hO
  refine (callsIn_wide.1 (it_slices_Sorted_keys_25_26 b n D RV w hO (by rw [hsz]; simp only [maxLen]; omega) (by rw [hsz]; omega))).mono ?_
  rintro e w' ⟨v, ss, rfl, hs, ho, _, hb⟩
  obtain ⟨h1, h2⟩ := hR.sort hO hs
  rw [h1, h2] at ho
  obtain ⟨A, c, rfl, _, _⟩ := own_form ho
  exact ⟨A, c, rfl, own_sls ho (by simp), ((Ext.refl w).alloc _).trans' (hb.mono (by simp))⟩
theorem names_ok (B b n : Nat) (D : DataW Value) (L : List Pr) (C1 : w.cell? ⟨B, 1, none⟩ = some (.map (some b))) (HO : OM w b n D) (hR : Rel D L) (hL : L.length ≤ 1000) : Calls Try.prog 15 #[.pointer (some ⟨B, 0, none⟩)] w fun e w' => ∃ A c, e = .returned (.slice A L.length c) ∧ SlS w' 1 A L.length (L.map (fun p => .string p.nm)) (New w.heap.size) ∧ Ext w w' := by
  have ck := names_keys1 b
  have cs := names_sorted1 b n D L hR hL
  have E := Ext.refl w
  go_enter Try.func15, Try.ntmps15
  go_wp2_with fail
  refine (ck _).mono ?_
  rintro e w9 ⟨rfl, rfl⟩
  go_wp2_with fail
  refine (cs _ HO).mono ?_
  rintro e w10 ⟨A, c, rfl, hq, x⟩
  have z1 := x.size
  replace E := E.trans x
  replace C1 := cell_ext (x) C1
  replace HO := HO.ext x
  clear x
  go_wp2_with fail
  go_ret
  exact ⟨A, c, rfl, hq, E⟩
theorem funs_keys1 (b : Nat) (w : World) : Calls Try.prog 27 #[.map (some b)] w fun e w' => e = .returned (.func (.func 35) #[] #[.pointer (some ⟨w.heap.size, 0, none⟩)]) ∧ w' = w.alloc (.cells #[.map (some b)] 60) := callsIn_wide.1 (it_maps_Keys_27 (some b) w)
theorem funs_sorted1 (b n : Nat) (D : DataW Value) (L : List Pr) (hR : Rel D L) (hL : L.length ≤ 1000) (w : World) (hO : OM w b n D) : Calls Try.prog 25 #[.func (.func 35) #[] #[.pointer (some ⟨w.heap.size, 0, none⟩)]] (w.alloc (.cells #[.map (some b)] 60)) fun e w' => ∃ A c, e = .returned (.slice A L.length c) ∧ SlS w' 1 A L.length (L.map (fun p => .string p.nm)) (New w.heap.size) ∧ Ext w w' := by
  have hsz := hR.size hO
  refine (callsIn_wide.1 (it_slices_Sorted_keys_25_27 b n D RV w hO (by rw [hsz]; simp only [maxLen]; omega) (by rw [hsz]; omega))).mono ?_
  rintro e w' ⟨v, ss, rfl, hs, ho, _, hb⟩
  obtain ⟨h1, h2⟩ := hR.sort hO hs
  rw [h1, h2] at ho
  obtain ⟨A, c, rfl, _, _⟩ := own_form ho
  exact ⟨A, c, rfl, own_sls ho (by simp), ((Ext.refl w).alloc _).trans' (hb.mono (by simp))⟩
theorem funs_ok (B b n : Nat) (D : DataW Value) (L : List Pr) (C1 : w.cell? ⟨B, 2, none⟩ = some (.map (some b))) (HO : OM w b n D) (hR : Rel D L) (hL : L.length ≤ 1000) : Calls Try.prog 16 #[.pointer (some ⟨B, 0, none⟩)] w fun e w' => ∃ A c, e = .returned (.slice A L.length c) ∧ SlS w' 1 A L.length (L.map (fun p => .string p.nm)) (New w.heap.size) ∧ Ext w w' := by
  have ck := funs_keys1 b
  have cs := funs_sorted1 b n D L hR hL
  have E := Ext.refl w
  go_enter Try.func16, Try.ntmps16
  go_wp2_with fail
  refine (ck _).mono ?_
  rintro e w9 ⟨rfl, rfl⟩
  go_wp2_with fail
  refine (cs _ HO).mono ?_
  rintro e w10 ⟨A, c, rfl, hq, x⟩
  have z1 := x.size
  replace E := E.trans x
  replace C1 := cell_ext (x) C1
  replace HO := HO.ext x
  clear x
  go_wp2_with fail
  go_ret
  exact ⟨A, c, rfl, hq, E⟩
end
end Go.Proofs.Ytdkgiklbmbkdaaa
