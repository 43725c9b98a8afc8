/- Cells' order is one; rebusref16.Grade; order.Sorted of another number of places. -/
import Derived.Test.YtidnikndjhfgaaaTq
namespace Go.Proofs.Ytidnikndjhfgaaa
open Go.ChangeShapes Go.WideShapes Go.RowKit Bv Fl
set_option maxHeartbeats 2000000
set_option maxRecDepth 100000
theorem cmpZ_anti (a b : Int) : cmpZ b a = - cmpZ a b := by
  unfold cmpZ
  by_cases h1 : a < b
  · have h2 : ¬ b < a := by omega
    simp only [if_pos h1, if_neg h2]; rfl
  · by_cases h2 : b < a
    · simp only [if_neg h1, if_pos h2]
    · simp only [if_neg h1, if_neg h2]; rfl
theorem cellZ_step (X : List Int) (a b j : Nat) : cellZ X a b (j + 1) = if cellZ X a b j ≠ 0 then cellZ X a b j else cmpZ (X.getD (a + j) 0) (X.getD (b + j) 0) := rfl
theorem cellZ_self (X : List Int) (a m : Nat) : cellZ X a a m = 0 := by
  induction m with
  | zero => rfl
  | succ m ih => rw [cellZ_step, ih, if_neg (by simp)]; unfold cmpZ; rw [if_neg (by omega), if_neg (by omega)]
theorem cellZ_anti (X : List Int) (a b m : Nat) : cellZ X b a m = - cellZ X a b m := by
  induction m with
  | zero => rfl
  | succ m ih =>
    rw [cellZ_step, cellZ_step, ih]
    by_cases h : cellZ X a b m = 0
    · rw [h, if_neg (by simp), if_neg (by simp)]; exact cmpZ_anti _ _
    · rw [if_pos (by omega), if_pos h]
theorem cmpZ_three (x y z : Int) : (cmpZ x y = 0 → cmpZ x z = cmpZ y z) ∧ (cmpZ y z = 0 → cmpZ x z = cmpZ x y) ∧ (cmpZ x y = cmpZ y z → cmpZ x z = cmpZ x y) := by
  unfold cmpZ
  by_cases h1 : x < y
  · rw [if_pos h1]
    by_cases h2 : y < z
    · rw [if_pos h2, if_pos (by omega)]; exact ⟨fun _ => rfl, fun _ => rfl, fun _ => rfl⟩
    · rw [if_neg h2]
      by_cases h3 : z < y
      · rw [if_pos h3]; exact ⟨fun h => by omega, fun h => by omega, fun h => by omega⟩
      · rw [if_neg h3, if_pos (by omega)]; exact ⟨fun h => by omega, fun _ => rfl, fun _ => rfl⟩
  · rw [if_neg h1]
    by_cases h1' : y < x
    · rw [if_pos h1']
      by_cases h2 : y < z
      · rw [if_pos h2]; exact ⟨fun h => by omega, fun h => by omega, fun h => by omega⟩
      · rw [if_neg h2]
        by_cases h3 : z < y
        · rw [if_pos h3, if_neg (by omega), if_pos (by omega)]; exact ⟨fun _ => rfl, fun _ => rfl, fun _ => rfl⟩
        · rw [if_neg h3, if_neg (by omega), if_pos (by omega)]; exact ⟨fun h => by omega, fun _ => rfl, fun _ => rfl⟩
    · rw [if_neg h1']
      have e : x = y := by omega
      subst e
      exact ⟨fun _ => rfl, fun h => h, fun h => h.symm⟩
theorem cellZ_three (X : List Int) (a b c m : Nat) : (cellZ X a b m = 0 → cellZ X a c m = cellZ X b c m) ∧ (cellZ X b c m = 0 → cellZ X a c m = cellZ X a b m) ∧ (cellZ X a b m = cellZ X b c m → cellZ X a c m = cellZ X a b m) := by
  induction m with
  | zero => exact ⟨fun _ => rfl, fun _ => rfl, fun _ => rfl⟩
  | succ m ih =>
    have h3 := cmpZ_three (X.getD (a + m) 0) (X.getD (b + m) 0) (X.getD (c + m) 0)
    rw [cellZ_step, cellZ_step, cellZ_step]
    obtain ⟨i1, i2, i3⟩ := ih
    generalize cellZ X a b m = r at *
    generalize cellZ X b c m = s at *
    generalize cellZ X a c m = t at *
    by_cases hr : r = 0
    · have := i1 hr
      subst this
      subst hr
      rw [if_neg (by omega)]
      by_cases hs : t = 0
      · rw [if_neg (by omega), if_neg (by omega)]; exact h3
      · rw [if_pos hs, if_pos hs]; exact ⟨fun _ => rfl, fun h => absurd h hs, fun h => h.symm⟩
    · rw [if_pos hr]
      by_cases hs : s = 0
      · have := i2 hs
        subst this
        rw [if_pos hr]
        exact ⟨fun h => absurd h hr, fun _ => rfl, fun _ => rfl⟩
      · rw [if_pos hs]
        refine ⟨fun h => absurd h hr, fun h => absurd h hs, fun h => ?_⟩
        rw [if_pos (by rw [i3 h]; exact hr), i3 h]
theorem cmpZ_rg (a b : Int) : -1 ≤ cmpZ a b ∧ cmpZ a b ≤ 1 := by unfold cmpZ; split; omega; split; omega; omega
theorem cellZ_rg (X : List Int) (a b n : Nat) : -1 ≤ cellZ X a b n ∧ cellZ X a b n ≤ 1 := by
  induction n with
  | zero => exact ⟨by show (-1 : Int) ≤ 0; omega, by show (0 : Int) ≤ 1; omega⟩
  | succ n ih => rw [cellZ_step]; split; exact ih; exact cmpZ_rg _ _
theorem lessZ_iff (X : List Int) (size i k : Nat) (down : Bool) : lessZ X size i k down = true ↔ (cellZ X (i * size) (k * size) size = 0 ∧ i < k) ∨ (down = true ∧ 0 < cellZ X (i * size) (k * size) size) ∨ (down = false ∧ cellZ X (i * size) (k * size) size < 0) := by
  unfold lessZ
  generalize cellZ X (i * size) (k * size) size = c
  by_cases h : c = 0
  · subst h
    rw [if_pos rfl]
    simp
  · rw [if_neg h]
    cases down <;> simp [h]
theorem lessZ_tot (X : List Int) (size n : Nat) (down : Bool) : TotL (fun x y => lessZ X size x y down) n := by
  refine ⟨fun i _ => ?_, fun i j _ _ hij h => ?_, fun i j k _ _ _ h1 h2 => ?_⟩
  · cases e : lessZ X size i i down with
    | false => rfl
    | true =>
      have := (lessZ_iff X size i i down).1 e
      rw [cellZ_self] at this
      omega
  · have h' : ¬ _ := fun hh => by rw [(lessZ_iff X size i j down).2 hh] at h; cases h
    refine (lessZ_iff X size j i down).2 ?_
    rw [cellZ_anti X (i * size) (j * size) size]
    have hr := cellZ_rg X (i * size) (j * size) size
    generalize cellZ X (i * size) (j * size) size = c at *
    cases down
    · simp at h' ⊢; omega
    · simp at h' ⊢; omega
  · have h1 := (lessZ_iff X size i j down).1 h1
    have h2 := (lessZ_iff X size j k down).1 h2
    refine (lessZ_iff X size i k down).2 ?_
    obtain ⟨t1, t2, t3⟩ := cellZ_three X (i * size) (j * size) (k * size) size
    have r1 := cellZ_rg X (i * size) (j * size) size
    have r2 := cellZ_rg X (j * size) (k * size) size
    generalize cellZ X (i * size) (j * size) size = r at *
    generalize cellZ X (j * size) (k * size) size = s at *
    generalize cellZ X (i * size) (k * size) size = t at *
    cases down
    · simp at h1 h2 ⊢; omega
    · simp at h1 h2 ⊢; omega
theorem split_ahead (A B : Prop) (b : Bool) : (A ∧ ¬B ∧ b = true) ∨ (A ∧ ¬B ∧ b = false) ∨ (A ∧ B) ∨ ¬A := by
  by_cases a : A
  · by_cases h : B
    · exact .inr (.inr (.inl ⟨a, h⟩))
    · cases b
      · exact .inr (.inl ⟨a, h, rfl⟩)
      · exact .inl ⟨a, h, rfl⟩
  · exact .inr (.inr (.inr a))
def GradeP (G : List Int) (n : Nat) (w : World) (e : Ending) (w' : World) : Prop := ∃ A c, e = .returned (.slice A n c) ∧ SlS w' 1 A n (i64s G) (New w.heap.size) ∧ Ext w w'
theorem grade_any (A : Option Addr) (m c : Nat) (IT : Nat → It) (X : List Int) (size n : Nat) (down : Bool) (w : World) (ho : OI w A m IT X) (hs1 : 1 ≤ size) (hs : size ≤ 1048576) (hm : m ≤ 1000) (hQ : m / size = n) :
    Calls Try.prog 21 #[.slice A m c, .int .i64 (size : Int), .bool down] w (GradeP (gradeL (fun x y => lessZ X size x y down) n n) n w) := by
  have hn2 : n ≤ 1000 := by rw [← hQ]; exact Nat.le_trans (Nat.div_le_self _ _) hm
  have hN2 : n ≤ 1048576 := by omega
  have hfit : ∀ x : Nat, x < n → x * size + size ≤ m := fun x hx => by
    have h1 : (x + 1) * size ≤ n * size := Nat.mul_le_mul_right _ hx
    have h2 : n * size ≤ m := by rw [← hQ]; exact Nat.div_mul_le_self _ _
    rw [Nat.add_mul, Nat.one_mul] at h1
    omega
  have HLS : Hid (∀ w' (x y : Nat), Ext w w' → x < n → y < n → Calls Try.prog 20 #[.slice A m c, .int .i64 (size : Int), .int .i64 (x : Int), .int .i64 (y : Int), .bool down] w' fun e w2 => e = .returned (.bool (lessZ X size x y down)) ∧ Ext w' w2) := fun w' x y h hx hy => rless_any A m c IT X size x y down w' ⟨ho.len, ho.lim, fun w2 h2 => ho.it w2 (h.trans h2), ho.below⟩ hs (hfit x hx) (hfit y hy)
  have eQ : (m : Int).tdiv (size : Int) = (n : Int) := by rw [Int.tdiv_eq_ediv_of_nonneg (by omega), ← hQ]; rfl
  have eQ2 : (m : Int) / (size : Int) = (n : Int) := by rw [← hQ]; rfl
  have ez : ((size : Int) == 0) = false := by simp; omega
  clear hfit ho hQ
  obtain ⟨LZ, hLZ⟩ : ∃ LZ : Nat → Nat → Bool, (fun x y => lessZ X size x y down) = LZ := ⟨_, rfl⟩
  have hLZ' : ∀ x y, lessZ X size x y down = LZ x y := fun x y => by rw [← hLZ]
  rw [hLZ]
  simp only [hLZ'] at HLS
  clear hLZ hLZ'
  have HA1 : Hid (∀ i k, k ≠ i → LZ k i = true → aheadN LZ i (k + 1) = aheadN LZ i k + 1) := fun i k => aheadN_yes LZ i k
  have HA0 : Hid (∀ i k, ¬ (k ≠ i ∧ LZ k i = true) → aheadN LZ i (k + 1) = aheadN LZ i k) := fun i k => aheadN_no LZ i k
  have HAz : Hid (∀ i, aheadN LZ i 0 = 0) := fun i => rfl
  have HAl : Hid (∀ i k, i < k → aheadN LZ i k < k) := fun i k => aheadN_lt LZ i k
  have HAk : Hid (∀ i k, aheadN LZ i k ≤ k) := fun i k => aheadN_le LZ i k
  have HG0 : Hid (List.replicate n (Value.int .i64 0) = i64s (gradeL LZ n 0)) := by
    show _ = _
    rw [gradeL_zero]
    simp [i64s]
  have HGS : Hid (∀ j, j < n → (i64s (gradeL LZ n j)).set (aheadN LZ j n) (.int .i64 (j : Int)) = i64s (gradeL LZ n (j + 1))) := fun j hj => by
    rw [← gradeL_set LZ n j hj]
    simp [i64s, List.map_set]
  obtain ⟨AN, hAN⟩ : ∃ AN : Nat → Nat → Nat, aheadN LZ = AN := ⟨_, rfl⟩
  obtain ⟨GN, hGN⟩ : ∃ GN : Nat → List Int, gradeL LZ n = GN := ⟨_, rfl⟩
  rw [hAN] at HA1 HA0 HAz HAl HAk HGS
  rw [hGN] at HG0 HGS ⊢
  clear hAN hGN
  have E := Ext.refl w
  go_enter Try.func21, Try.ntmps21
  have TM17 : True := trivial
  go_wp2_with (clear TM17; refine maker_int rfl rfl (n := n) rfl hN2 ?_; intro g17 w17 bg17 cg17 X17 Og17; have z1 := X17.size; replace E := E.trans X17; clear X17)
  rw [HG0.out] at Og17
  go_loopw [9] (fun q wr => ∃ i : Nat, i ≤ n ∧ q = .int .i64 i ∧ Grw w17 g17 wr ∧ RowO 3 wr g17 n (i64s (GN i))) (fun q _ => n - (intOf q).toNat)
  case atStart => exact ⟨0, Nat.zero_le _, rfl, Grw.refl _ _, Og17⟩
  case round =>
    obtain ⟨i, hi, rfl, HG, O2⟩ := hrel
    clear Og17
    have Og17 := O2
    clear O2
    have z2 := HG.out.size
    replace E := grown_ext E HG.out (by omega)
    by_cases hlt : i < n
    · go_wp2_with fail
      generalize wr = wq3 at *
      go_loopw [10, 11] (fun x q wr => ∃ k : Nat, k ≤ n ∧ x = .int .i64 ((AN i k : Nat) : Int) ∧ q = .int .i64 k ∧ Ext wq3 wr) (fun _ q _ => n - (intOf q).toNat)
      case atStart => exact ⟨0, Nat.zero_le _, by rw [HAz.out]; rfl, rfl, Ext.refl _⟩
      case round =>
        obtain ⟨k, hk, rfl, rfl, HY⟩ := hrel
        have z4 := HY.size
        replace E := E.trans HY
        replace Og17 := Og17.ext HY
        replace HG := HG.ext HY
        rcases split_ahead (k < n) (k = i) (LZ k i) with ⟨hlt2, h1, h2⟩ | ⟨hlt2, h1, h2⟩ | ⟨hlt2, h1⟩ | hlt2
        · have hkn := HAk.out i k
          have e30 : decide ((k : Int) = (i : Int)) = false := decide_eq_false (by omega)
          have e30' : ((k : Int) != (i : Int)) = true := by simp; omega
          have hcl := fun w' (h : Ext w w') => HLS.out w' k i h hlt2 hlt
          rw [h2] at hcl
          have HST := Lib.hid (HA1.out i k h1 h2)
          clear h1 h2
          go_wp2_with fail
          refine (hcl _ E).mono ?_
          rintro e w37 ⟨rfl, x⟩
          have z5 := x.size
          replace E := E.trans x
          replace Og17 := Og17.ext x
          replace HG := HG.ext x
          replace HY := HY.trans x
          clear x
          go_wp2_with fail
          exact ⟨⟨k + 1, by omega, by rw [HST.out]; go_num, by go_num, HY⟩, by simp [intOf]; omega⟩
        · have hkn := HAk.out i k
          have e30' : ((k : Int) != (i : Int)) = true := by simp; omega
          have hcl := fun w' (h : Ext w w') => HLS.out w' k i h hlt2 hlt
          rw [h2] at hcl
          have HST := Lib.hid (HA0.out i k (by rw [h2]; simp))
          clear h1 h2
          go_wp2_with fail
          refine (hcl _ E).mono ?_
          rintro e w37 ⟨rfl, x⟩
          have z6 := x.size
          replace E := E.trans x
          replace Og17 := Og17.ext x
          replace HG := HG.ext x
          replace HY := HY.trans x
          clear x
          go_wp2_with fail
          exact ⟨⟨k + 1, by omega, by rw [HST.out], by go_num, HY⟩, by simp [intOf]; omega⟩
        · have HST := Lib.hid (HA0.out i k (by rw [h1]; simp))
          subst h1
          go_wp2_with fail
          exact ⟨⟨k + 1, by omega, by rw [HST.out], by go_num, HY⟩, by simp [intOf]; omega⟩
        · have hkN : n = k := by omega
          have hst := HAl.out i n hlt
          have HSET := Lib.hid (HGS.out i hlt)
          subst hkN
          generalize AN i n = an at *
          clear HY
          have TG7 : True := trivial
          go_wp2_with (clear TG7; have hRl := Og17.lt; refine storesr_int rfl rfl (g := g17) (k := an) (n := n) (by rfl) rfl (by rfl) Og17 hst ?_; clear Og17; intro s7 G7 Og17; have z8 := G7.size; replace E := grown_ext E G7 (by omega); replace HG := HG.grown G7 (by omega); clear hRl G7)
          exact ⟨⟨i + 1, by omega, by go_num, HG, by rw [← HSET.out]; exact Og17⟩, by simp [intOf]; omega⟩
    · have hin : i = n := by omega
      rw [hin] at Og17
      clear HG hin
      go_wp2_with fail
      go_ret
      exact ⟨_, _, rfl, fun w2 hs hk => (RowO.sl Og17).reach hs hk fun a ha _ => by cases ha; show _ ≤ g17; omega, E⟩
theorem sorted_len (v : Value) (X : List Int) (size n m : Nat) (down : Bool) (A : Option Addr) (c : Nat) (w : World) (hv : OV w v X) (hs1 : 1 ≤ size) (hln : X.length / size = n) (hne : m ≠ n) :
    Calls Try.prog 22 #[v, .int .i64 (size : Int), .slice A m c, .bool down] w fun e w' => e = .returned (.bool false) ∧ Ext w w' := by
  have hF := hv.flat
  have hL := hv.lim
  have cl := hv.len
  have hN2 : n ≤ 1048576 := by rw [← hln]; exact Nat.le_trans (Nat.div_le_self _ _) hL
  have ed : (X.length : Int).tdiv (size : Int) = (n : Int) := by rw [Int.tdiv_eq_ediv_of_nonneg (by omega), ← hln]; rfl
  clear hv hln
  generalize X.length = lx at *
  have e13 : decide ((size : Int) < 1) = false := decide_eq_false (by omega)
  have e21 : ((m : Int) != (n : Int)) = true := by simp; omega
  have E := Ext.refl w
  go_enter Try.func22, Try.ntmps22
  have TB4 : True := trivial
  go_wp2_with (first | (clear TB4; refine boxsV (v := v) rfl rfl rfl hF ?_; intro B4 w4 bB4 cB4 XB4 LB4 RB4; have z1 := XB4.size; replace E := E.trans XB4; clear RB4) | (refine loadgV (B := B4) (by rfl) rfl rfl LB4 ?_))
  clear LB4
  refine (cl _ E).mono ?_
  rintro e w18 ⟨rfl, x⟩
  have z2 := x.size
  replace E := E.trans x
  clear x
  go_wp2_with fail
  go_ret
  exact ⟨rfl, E⟩
theorem sorted_zero (v : Value) (hF : Flat 8 v) (down : Bool) (w : World) : Calls Try.prog 22 #[v, .int .i64 0, .slice none 0 0, .bool down] w fun e w' => e = .returned (.bool false) ∧ Ext w w' := by
  have E := Ext.refl w
  go_enter Try.func22, Try.ntmps22
  have TB4 : True := trivial
  go_wp2_with (clear TB4; refine boxsV (v := v) rfl rfl rfl hF ?_; intro B4 w4 bB4 cB4 XB4 LB4 RB4; have z1 := XB4.size; replace E := E.trans XB4; clear LB4 RB4)
  go_ret
  exact ⟨rfl, E⟩
end Go.Proofs.Ytidnikndjhfgaaa
