/- order.Cells, Less, Sorted. -/
import Derived.Test.YtidnikndjhfgaaaTa
import Derived.Test.YtidnikndjhfgaaaTb
namespace Go.Proofs.Ytidnikndjhfgaaa
open Go.ChangeShapes Go.WideShapes Go.RowKit Bv Fl
set_option maxHeartbeats 2000000
set_option maxRecDepth 100000
theorem triZ (A : Prop) (c : Int) : (A ∧ (c != 0) = false) ∨ (A ∧ (c != 0) = true) ∨ ¬A := by
  by_cases a : A
  · cases h : (c != 0)
    · exact .inl ⟨a, rfl⟩
    · exact .inr (.inl ⟨a, rfl⟩)
  · exact .inr (.inr a)
theorem i64s_getT {l : List Int} {k : Nat} (h : k < l.length) : (i64s l)[k]? = some (.int .i64 (l.getD k 0)) := i64s_get h
def cmpZ (a b : Int) : Int := if a < b then -1 else if b < a then 1 else 0
/-- cells from a on and from b on: the first that differ -/
def cellZ (X : List Int) (a b : Nat) : Nat → Int
  | 0 => 0
  | j + 1 => if cellZ X a b j ≠ 0 then cellZ X a b j else cmpZ (X.getD (a + j) 0) (X.getD (b + j) 0)
theorem cellZ_stay {X : List Int} {a b k n : Nat} (h : cellZ X a b k ≠ 0) (hk : k ≤ n) : cellZ X a b n = cellZ X a b k := by
  induction hk with
  | refl => rfl
  | step _ ih => show (if _ then _ else _) = _; rw [if_pos (by rw [ih]; exact h), ih]
def lessZ (X : List Int) (size i k : Nat) (down : Bool) : Bool := if cellZ X (i * size) (k * size) size = 0 then decide (i < k) else if down then decide (0 < cellZ X (i * size) (k * size) size) else decide (cellZ X (i * size) (k * size) size < 0)
/-- elements that have an order: v's are those of X -/
structure OV (w : World) (v : Value) (X : List Int) : Prop where
  flat : Flat 8 v
  lim : X.length ≤ 1048576
  len : ∀ w', Ext w w' → Calls Try.prog 47 #[v] w' fun e w2 => e = .returned (.int .i64 (X.length : Int)) ∧ Ext w' w2
  cmp : ∀ w', Ext w w' → ∀ i k : Nat, i < X.length → k < X.length → Calls Try.prog 26 #[v, .int .i64 (i : Int), v, .int .i64 (k : Int)] w' fun e w2 => e = .returned (.tuple #[.int .i64 (cmpZ (X.getD i 0) (X.getD k 0)), .bool true]) ∧ Ext w' w2
theorem OV.ext {w w' : World} {v : Value} {X : List Int} (h : OV w v X) (hx : Ext w w') : OV w' v X := ⟨h.flat, h.lim, fun w2 h2 => h.len w2 (hx.trans h2), fun w2 h2 => h.cmp w2 (hx.trans h2)⟩
theorem getD_map_key {x : List Nat} {i : Nat} (h : i < x.length) : (x.map key).getD i 0 = key (x.getD i 0) := by simp [List.getD, h]
theorem OV.num {w : World} {v : Value} {K : Nat} {x : List Nat} (h : IsNum w v K x) : OV w v (x.map key) := by
  have hl : (x.map key).length = x.length := by simp
  refine ⟨h.flat, by rw [hl]; exact h.lim, fun w' hx => ?_, fun w' hx i k hi hk => ?_⟩
  · rw [hl]; exact nlen_any v K x w' (h.ext hx)
  · rw [hl] at hi hk
    rw [getD_map_key hi, getD_map_key hk]
    exact ocmp_num v v K K x x i k hi hk w' (h.ext hx) (h.ext hx)
theorem cells_any (v : Value) (X : List Int) (size i k a b : Nat) (w : World) (hv : OV w v X) (hs : size ≤ 1048576) (ha : i * size = a) (hb : k * size = b) (hi : a + size ≤ X.length) (hk : b + size ≤ X.length) :
    Calls Try.prog 17 #[v, .int .i64 (size : Int), .int .i64 (i : Int), .int .i64 (k : Int)] w fun e w' => e = .returned (.int .i64 (cellZ X a b size)) ∧ Ext w w' := by
  have hF := hv.flat
  have hL := hv.lim
  have ea : (i : Int) * (size : Int) = (a : Int) := by rw [← ha]; exact (Int.natCast_mul i size).symm
  have eb : (k : Int) * (size : Int) = (b : Int) := by rw [← hb]; exact (Int.natCast_mul k size).symm
  have hc : ∀ w' j, Ext w w' → j < size → Calls Try.prog 26 #[v, .int .i64 ((a : Int) + (j : Int)), v, .int .i64 ((b : Int) + (j : Int))] w' fun e w2 => e = .returned (.tuple #[.int .i64 (cmpZ (X.getD (a + j) 0) (X.getD (b + j) 0)), .bool true]) ∧ Ext w' w2 := fun w' j h hj => by
    have := hv.cmp w' h (a + j) (b + j) (by omega) (by omega)
    rwa [Int.natCast_add, Int.natCast_add] at this
  have HZ : Hid (∀ j, cellZ X a b (j + 1) = if cellZ X a b j ≠ 0 then cellZ X a b j else cmpZ (X.getD (a + j) 0) (X.getD (b + j) 0)) := fun j => rfl
  have HS : Hid (∀ j, cellZ X a b j ≠ 0 → j ≤ size → cellZ X a b size = cellZ X a b j) := fun j h hj => cellZ_stay h hj
  have H0 : Hid (cellZ X a b 0 = 0) := rfl
  have mi : (0 : Int) ≤ (i : Int) * (size : Int) ∧ (i : Int) * (size : Int) ≤ 1048576 := by rw [ea]; omega
  have mk : (0 : Int) ≤ (k : Int) * (size : Int) ∧ (k : Int) * (size : Int) ≤ 1048576 := by rw [eb]; omega
  clear hv ha hb
  obtain ⟨CZ, hCZ⟩ : ∃ CZ : Nat → Int, cellZ X a b = CZ := ⟨_, rfl⟩
  obtain ⟨CM, hCM⟩ : ∃ CM : Nat → Int, ∀ j, cmpZ (X.getD (a + j) 0) (X.getD (b + j) 0) = CM j := ⟨_, fun _ => rfl⟩
  rw [hCZ] at HZ HS H0 ⊢
  simp only [hCM] at HZ hc
  clear hCZ hCM hL
  have E := Ext.refl w
  go_enter Try.func17, Try.ntmps17
  have TB4 : True := trivial
  go_wp2_with (clear TB4; refine boxsV (v := v) rfl rfl rfl hF ?_; intro B4 w4 bB4 cB4 XB4 LB4 RB4; have z1 := XB4.size; replace E := E.trans XB4; clear RB4)
  go_loopw [13] (fun i wr => ∃ j : Nat, j ≤ size ∧ i = .int .i64 j ∧ CZ j = 0 ∧ Ext w4 wr) (fun i _ => size - (intOf i).toNat)
  case atStart => exact ⟨0, Nat.zero_le _, rfl, H0.out, Ext.refl _⟩
  case round =>
    obtain ⟨j, hj, rfl, hz, HX⟩ := hrel
    have HU := Lib.hid hz
    clear hz
    have z2 := HX.size
    replace E := E.trans HX
    replace LB4 := LB4.ext HX
    rcases triZ (j < size) (CM j) with ⟨hlt, hcm⟩ | ⟨hlt, hcm⟩ | hlt
    · go_wp2_with (refine loadsV (B := B4) (by rfl) rfl rfl LB4 ?_)
      refine (hc _ j E hlt).mono ?_
      rintro e w29 ⟨rfl, x⟩
      have z3 := x.size
      replace E := E.trans x
      replace LB4 := LB4.ext x
      replace HX := HX.trans x
      clear x
      go_wp2_with fail
      exact ⟨⟨j + 1, by omega, by go_num, by rw [HZ.out, if_neg (by rw [HU.out]; decide)]; simpa using hcm, HX⟩, by simp [intOf]; omega⟩
    · go_wp2_with (refine loadsV (B := B4) (by rfl) rfl rfl LB4 ?_)
      clear LB4
      refine (hc _ j E hlt).mono ?_
      rintro e w29 ⟨rfl, x⟩
      have z4 := x.size
      replace E := E.trans x
      replace HX := HX.trans x
      clear x
      go_wp2_with fail
      go_ret
      exact ⟨by rw [HS.out (j + 1) (by rw [HZ.out, if_neg (by rw [HU.out]; decide)]; simpa using hcm) (by omega), HZ.out, if_neg (by rw [HU.out]; decide)]; rfl, E⟩
    · have hjs : j = size := by omega
      rw [hjs] at HU
      clear hjs
      go_wp2_with fail
      go_ret
      exact ⟨by rw [HU.out]; rfl, E⟩
theorem less_any (v : Value) (X : List Int) (size i k : Nat) (down : Bool) (w : World) (hv : OV w v X) (hs : size ≤ 1048576) (hi : i * size + size ≤ X.length) (hk : k * size + size ≤ X.length) :
    Calls Try.prog 19 #[v, .int .i64 (size : Int), .int .i64 (i : Int), .int .i64 (k : Int), .bool down] w fun e w' => e = .returned (.bool (lessZ X size i k down)) ∧ Ext w w' := by
  have hF := hv.flat
  have cc := fun w' (h : Ext w w') => cells_any v X size i k _ _ w' (hv.ext h) hs rfl rfl hi hk
  clear hv hs hi hk
  unfold lessZ
  generalize cellZ X (i * size) (k * size) size = c at *
  have E := Ext.refl w
  by_cases hc : c = 0
  · rw [if_pos hc]
    subst hc
    go_enter Try.func19, Try.ntmps19
    have TB5 : True := trivial
    go_wp2_with (first | (clear TB5; refine boxsV (v := v) rfl rfl rfl hF ?_; intro B5 w5 bB5 cB5 XB5 LB5 RB5; have z1 := XB5.size; replace E := E.trans XB5; clear RB5) | (refine loadsV (B := B5) (by rfl) rfl rfl LB5 ?_))
    clear LB5
    refine (cc _ E).mono ?_
    rintro e w16 ⟨rfl, x⟩
    have z2 := x.size
    replace E := E.trans x
    clear x
    go_wp2_with fail
    go_ret
    exact ⟨rfl, E⟩
  · rw [if_neg hc]
    have hc' : (c == 0) = false := by simpa using hc
    clear hc
    cases down
    · rw [if_neg (by decide)]
      go_enter Try.func19, Try.ntmps19
      have TB5 : True := trivial
      go_wp2_with (first | (clear TB5; refine boxsV (v := v) rfl rfl rfl hF ?_; intro B5 w5 bB5 cB5 XB5 LB5 RB5; have z1 := XB5.size; replace E := E.trans XB5; clear RB5) | (refine loadsV (B := B5) (by rfl) rfl rfl LB5 ?_))
      clear LB5
      refine (cc _ E).mono ?_
      rintro e w16 ⟨rfl, x⟩
      have z2 := x.size
      replace E := E.trans x
      clear x
      go_wp2_with fail
      go_ret
      exact ⟨rfl, E⟩
    · rw [if_pos rfl]
      go_enter Try.func19, Try.ntmps19
      have TB5 : True := trivial
      go_wp2_with (first | (clear TB5; refine boxsV (v := v) rfl rfl rfl hF ?_; intro B5 w5 bB5 cB5 XB5 LB5 RB5; have z1 := XB5.size; replace E := E.trans XB5; clear RB5) | (refine loadsV (B := B5) (by rfl) rfl rfl LB5 ?_))
      clear LB5
      refine (cc _ E).mono ?_
      rintro e w16 ⟨rfl, x⟩
      have z2 := x.size
      replace E := E.trans x
      clear x
      go_wp2_with fail
      go_ret
      exact ⟨rfl, E⟩
def seenL (a : List Int) (j : Nat) : List Bool := (List.range a.length).map fun (p : Nat) => decide (0 ≤ posI a j (p : Int))
theorem seenL_length (a : List Int) (j : Nat) : (seenL a j).length = a.length := by simp [seenL]
theorem seenL_get (a : List Int) (j : Nat) {p : Nat} (hp : p < a.length) : (seenL a j).getD p false = decide (0 ≤ posI a j (p : Int)) := by simp [seenL, List.getD, hp]
theorem seenL_set (a : List Int) (j q : Nat) (h : a.getD j 0 = (q : Int)) (_ : q < a.length) : (seenL a j).set q true = seenL a (j + 1) := by
  apply List.ext_getElem (by simp [seenL_length])
  intro i h1 h2
  have hi : i < a.length := by rw [seenL_length] at h2; exact h2
  rw [List.getElem_set]
  simp only [seenL, List.getElem_map, List.getElem_range]
  by_cases e : q = i
  · rw [if_pos e]
    subst e
    symm
    apply decide_eq_true
    show 0 ≤ (if a.getD j 0 = (q : Int) then (j : Int) else _)
    rw [if_pos h]
    omega
  · rw [if_neg e]
    show decide (0 ≤ posI a j (i : Int)) = decide (0 ≤ if a.getD j 0 = (i : Int) then (j : Int) else _)
    rw [if_neg (by omega)]
theorem seenL_zero (a : List Int) : seenL a 0 = List.replicate a.length false := by
  apply List.ext_getElem (by simp [seenL_length])
  intro i h1 h2
  simp [seenL, posI]
/-- each of the first but one is ahead of the next one -/
def ahead (X : List Int) (size : Nat) (down : Bool) (a : List Int) : Nat → Bool
  | 0 => true
  | j + 1 => ahead X size down a j && (decide (j = 0) || lessZ X size (a.getD (j - 1) 0).toNat (a.getD j 0).toNat down)
def srtZ (X : List Int) (size : Nat) (down : Bool) (a : List Int) (j : Nat) : Bool := okI a j && ahead X size down a j
theorem srtZ_zero (X : List Int) (size : Nat) (down : Bool) (a : List Int) : srtZ X size down a 0 = true := rfl
theorem srtZ_step (X : List Int) (size : Nat) (down : Bool) (a : List Int) (j : Nat) : srtZ X size down a (j + 1) = (srtZ X size down a j && ((decide (0 ≤ a.getD j 0 ∧ a.getD j 0 < (a.length : Int)) && decide (posI a j (a.getD j 0) < 0)) && (decide (j = 0) || lessZ X size (a.getD (j - 1) 0).toNat (a.getD j 0).toNat down))) := by
  show (okI a j && _ && (ahead X size down a j && _)) = (okI a j && ahead X size down a j && _)
  cases okI a j <;> cases ahead X size down a j <;> simp
theorem srtZ_stay {X : List Int} {size : Nat} {down : Bool} {a : List Int} {k n : Nat} (h : srtZ X size down a k = false) (hk : k ≤ n) : srtZ X size down a n = false := by
  induction hk with
  | refl => exact h
  | step _ ih => rw [srtZ_step, ih]; rfl
theorem srtZ_ok {X : List Int} {size : Nat} {down : Bool} {a : List Int} {k : Nat} (h : srtZ X size down a k = true) : okI a k = true := by
  unfold srtZ at h
  simp only [Bool.and_eq_true] at h
  exact h.1
theorem split_srt (A : Prop) (x : Int) (n : Nat) (p : Int) (j : Nat) (b : Bool) : (A ∧ 0 ≤ x ∧ x < (n : Int) ∧ p < 0 ∧ j = 0) ∨ (A ∧ 0 ≤ x ∧ x < (n : Int) ∧ p < 0 ∧ 0 < j ∧ b = true) ∨ (A ∧ 0 ≤ x ∧ x < (n : Int) ∧ p < 0 ∧ 0 < j ∧ b = false) ∨ (A ∧ x < 0) ∨ (A ∧ 0 ≤ x ∧ (n : Int) ≤ x) ∨ (A ∧ 0 ≤ x ∧ x < (n : Int) ∧ 0 ≤ p) ∨ ¬A := by
  by_cases a : A
  · by_cases h1 : x < 0
    · exact .inr (.inr (.inr (.inl ⟨a, h1⟩)))
    · by_cases h2 : x < (n : Int)
      · by_cases h3 : p < 0
        · rcases Nat.eq_zero_or_pos j with h4 | h4
          · exact .inl ⟨a, by omega, h2, h3, h4⟩
          · cases b
            · exact .inr (.inr (.inl ⟨a, by omega, h2, h3, h4, rfl⟩))
            · exact .inr (.inl ⟨a, by omega, h2, h3, h4, rfl⟩)
        · exact .inr (.inr (.inr (.inr (.inr (.inl ⟨a, by omega, h2, by omega⟩)))))
      · exact .inr (.inr (.inr (.inr (.inl ⟨a, by omega, by omega⟩))))
  · exact .inr (.inr (.inr (.inr (.inr (.inr a)))))
theorem sorted_go (v : Value) (X : List Int) (size n : Nat) (down : Bool) (A : Option Addr) (a : List Int) (hn : n = a.length) (c : Nat) (w : World) (hv : OV w v X) (hs1 : 1 ≤ size) (hs : size ≤ 1048576) (hln : X.length / size = n) (hsl : Sl w 1 A n (i64s a)) :
    Calls Try.prog 22 #[v, .int .i64 (size : Int), .slice A n c, .bool down] w fun e w' => e = .returned (.bool (srtZ X size down a n)) ∧ Ext w w' := by
  have hF := hv.flat
  have hL := hv.lim
  have hN2 : n ≤ 1048576 := by rw [← hln]; exact Nat.le_trans (Nat.div_le_self _ _) hL
  have hfit : ∀ x : Nat, x < n → x * size + size ≤ X.length := fun x hx => by
    have h1 : (x + 1) * size ≤ n * size := Nat.mul_le_mul_right _ hx
    have h2 : n * size ≤ X.length := by rw [← hln]; exact Nat.div_mul_le_self _ _
    rw [Nat.add_mul, Nat.one_mul] at h1
    omega
  have HLS : Hid (∀ w' (x y : Nat), Ext w w' → x < n → y < n → Calls Try.prog 19 #[v, .int .i64 (size : Int), .int .i64 (x : Int), .int .i64 (y : Int), .bool down] w' fun e w2 => e = .returned (.bool (lessZ X size x y down)) ∧ Ext w' w2) := fun w' x y h hx hy => less_any v X size x y down w' (hv.ext h) hs (hfit x hx) (hfit y hy)
  have cl := hv.len
  have ed : (X.length : Int).tdiv (size : Int) = (n : Int) := by rw [Int.tdiv_eq_ediv_of_nonneg (by omega), ← hln]; rfl
  have HSB : Hid (∀ j, okI a j = true → j < n → 0 < j → 0 ≤ a.getD (j - 1) 0 ∧ a.getD (j - 1) 0 < (n : Int)) := fun j h hj h0 => by
    have := ((okI_iff a j).1 h).1 (j - 1) (by omega)
    rw [hn]; exact this
  have HN := Lib.hid hn
  have HS := Lib.hid hsl
  have HR0 : Hid (List.replicate n (Value.bool false) = bools (seenL a 0)) := by
    show _ = _
    rw [seenL_zero, ← hn]; simp [bools]
  have HST := Lib.hid (srtZ_step X size down a)
  have HSY : Hid (∀ k, srtZ X size down a k = false → k ≤ n → srtZ X size down a n = false) := fun k h hk => srtZ_stay h hk
  have HSO : Hid (∀ k, srtZ X size down a k = true → okI a k = true) := fun k h => srtZ_ok h
  have HS0 := Lib.hid (srtZ_zero X size down a)
  rw [← hn] at HST
  clear hv hn hsl hfit
  obtain ⟨LZ, hLZ⟩ : ∃ LZ : Nat → Nat → Bool, ∀ x y, lessZ X size x y down = LZ x y := ⟨_, fun _ _ => rfl⟩
  simp only [hLZ] at HLS HST
  obtain ⟨SZ, hSZ⟩ : ∃ SZ : Nat → Bool, srtZ X size down a = SZ := ⟨_, rfl⟩
  rw [hSZ] at HST HSY HSO HS0 ⊢
  clear hLZ hSZ hln
  generalize X.length = lx at *
  have e13 : decide ((size : Int) < 1) = false := decide_eq_false (by omega)
  have E := Ext.refl w
  go_enter Try.func22, Try.ntmps22
  have TB4 : True := trivial
  go_wp2_with (first | (clear TB4; refine boxsV (v := v) rfl rfl rfl hF ?_; intro B4 w4 bB4 cB4 XB4 LB4 RB4; have z1 := XB4.size; replace E := E.trans XB4; clear RB4) | (refine loadgV (B := B4) (by rfl) rfl rfl LB4 ?_))
  refine (cl _ E).mono ?_
  rintro e w18 ⟨rfl, x⟩
  have z2 := x.size
  replace E := E.trans x
  replace LB4 := LB4.ext x
  clear x
  have TM25 : True := trivial
  go_wp2_with (clear TM25; refine maker_bool rfl rfl (n := n) rfl hN2 ?_; intro g25 w25 bg25 cg25 X25 Og25; have z3 := X25.size; replace E := E.trans X25; replace LB4 := LB4.ext X25; clear X25)
  rw [HR0.out] at Og25
  go_loopw [28] (fun i wr => ∃ k : Nat, k ≤ n ∧ i = .int .i64 k ∧ SZ k = true ∧ Grw w25 g25 wr ∧ RowO 4 wr g25 n (bools (seenL a k))) (fun i _ => n - (intOf i).toNat)
  case atStart => exact ⟨0, Nat.zero_le _, rfl, HS0.out, Grw.refl _ _, Og25⟩
  case round =>
    obtain ⟨j, hj, rfl, hup, HG, O2⟩ := hrel
    clear Og25
    have Og25 := O2
    clear O2
    have z4 := HG.out.size
    replace E := grown_ext E HG.out (by omega)
    replace LB4 := LB4.grown HG.out (by omega)
    rcases split_srt (j < n) (a.getD j 0) n (posI a j (a.getD j 0)) j (LZ (a.getD (j - 1) 0).toNat (a.getD j 0).toNat) with ⟨hlt, h1, h2, h3, h4⟩ | ⟨hlt, h1, h2, h3, h4, h5⟩ | ⟨hlt, h1, h2, h3, h4, h5⟩ | ⟨hlt, h1⟩ | ⟨hlt, h1, h2⟩ | ⟨hlt, h1, h2, h3⟩ | hlt
    · obtain ⟨ad, u1, hAd, -, hu1, D0⟩ := (HS.out.ext E).at1 hlt
      subst hAd
      rw [i64s_getT (by rw [← HN.out]; exact hlt)] at hu1
      cases hu1
      have HUk := Lib.hid hup
      clear hup
      have HK : Hid (SZ (j + 1) = true) := by show _ = _; rw [HST.out, HUk.out, decide_eq_true ⟨h1, h2⟩, decide_eq_true h3, decide_eq_true h4]; rfl
      obtain ⟨q, hqq⟩ : ∃ q : Nat, a.getD j 0 = (q : Int) := ⟨(a.getD j 0).toNat, by omega⟩
      rw [hqq] at D0 h1 h2 h3
      have hq : q < n := by omega
      have D1 : wr.cell? ⟨g25, q, none⟩ = some (.bool (decide (0 ≤ posI a j (q : Int)))) := by rw [World.ownsRow.cellAt Og25 q (by omega), bools_get (by rw [seenL_length, ← HN.out]; exact hq), seenL_get a j (by rw [← HN.out]; exact hq)]
      have hd : decide (0 ≤ posI a j (q : Int)) = false := decide_eq_false (by omega)
      rw [hd] at D1
      clear hd
      have HSET : Hid ((bools (seenL a j)).set q (.bool true) = bools (seenL a (j + 1))) := by show _ = _; rw [← seenL_set a j q hqq (by rw [← HN.out]; exact hq)]; simp [bools, List.map_set]
      clear hqq
      have e51 : decide (0 < j) = false := decide_eq_false (by omega)
      clear h4
      have TG5 : True := trivial
      go_wp2_with (clear TG5; have hRl := Og25.lt; refine storesr_bool rfl rfl (g := g25) (k := q) (n := n) (by rfl) rfl (by rfl) Og25 hq ?_; clear Og25; intro s5 G5 Og25; have z6 := G5.size; replace E := grown_ext E G5 (by omega); replace LB4 := LB4.grown G5 (by omega); replace HG := HG.grown G5 (by omega); clear hRl G5)
      try simp only [Act.put]
      have hq7 : s5.heap.size ≤ s5.drew.heap.size := Nat.le_refl _
      have z8 := (Ext.refl s5).drew.size
      replace E := E.trans (Ext.refl s5).drew
      replace LB4 := LB4.ext (Ext.refl s5).drew
      replace Og25 := Og25.ext (Ext.refl s5).drew
      replace HG := HG.ext (Ext.refl s5).drew
      refine wp_region_held_drew (S := (fun _ => True)) (by kernel_rfl) trivial (fun hHeld => ?_)
      refine wpAnyH_take (i := 0) (oi := { dst := some 50, op := Go.Op.move (Go.Operand.tmp 10), type := 3, pos := "order.go:61", after := #[], guard := none }) (v := ?v9) rfl (by kernel_rfl) (by kernel_rfl) (by kernel_rfl) (fun _ _ _ h => h) (Or.inl ⟨by rfl, ?hy9⟩) hHeld ?rest9
      case hy9 => (intro w hSw; (try dsimp only at hSw); go_simp; (first | done | with_reducible rfl))
      try simp only [Act.put, List.setIfInBounds_toArray, List.set_cons_zero, List.set_cons_succ]
      refine wpAnyH_take (i := 1) (oi := { dst := some 51, op := Go.Op.binOp Go.BinOp.gtr 3 (Go.Operand.tmp 50) (Go.Operand.const (Go.Value.int Go.IntKind.i64 0)) 3, type := 4, pos := "order.go:61", after := #[{ on := 0, ground := Go.Ground.data }], guard := none }) (v := ?v10) rfl (by kernel_rfl) (by kernel_rfl) (by kernel_rfl) (fun _ _ _ h => h) (Or.inl ⟨by rfl, ?hy10⟩) hHeld ?rest10
      case hy10 => (intro w hSw; (try dsimp only at hSw); go_simp; (first | done | with_reducible rfl))
      try simp only [Act.put, List.setIfInBounds_toArray, List.set_cons_zero, List.set_cons_succ]
      refine wpAnyH_take (i := 2) (oi := { dst := some 52, op := Go.Op.move (Go.Operand.tmp 51), type := 4, pos := "order.go:61", after := #[{ on := 1, ground := Go.Ground.data }], guard := none }) (v := ?v11) rfl (by kernel_rfl) (by kernel_rfl) (by kernel_rfl) (fun _ _ _ h => h) (Or.inl ⟨by rfl, ?hy11⟩) hHeld ?rest11
      case hy11 => (intro w hSw; (try dsimp only at hSw); go_simp; (first | done | with_reducible rfl))
      try simp only [Act.put, List.setIfInBounds_toArray, List.set_cons_zero, List.set_cons_succ]
      refine wpAnyH_take (i := 3) (oi := { dst := some 53, op := Go.Op.load 41 (Go.Operand.tmp 4), type := 41, pos := "order.go:61", after := #[{ on := 2, ground := Go.Ground.guard }], guard := some (2, true) }) (v := undef) rfl (by kernel_rfl) (by kernel_rfl) (by kernel_rfl) (fun _ _ _ h => h) (Or.inr ⟨by rfl, rfl⟩) hHeld ?_
      try simp only [Act.put, List.setIfInBounds_toArray, List.set_cons_zero, List.set_cons_succ]
      refine wpAnyH_take (i := 4) (oi := { dst := some 54, op := Go.Op.move (Go.Operand.tmp 1), type := 3, pos := "order.go:61", after := #[{ on := 2, ground := Go.Ground.guard }], guard := some (2, true) }) (v := undef) rfl (by kernel_rfl) (by kernel_rfl) (by kernel_rfl) (fun _ _ _ h => h) (Or.inr ⟨by rfl, rfl⟩) hHeld ?_
      try simp only [Act.put, List.setIfInBounds_toArray, List.set_cons_zero, List.set_cons_succ]
      refine wpAnyH_take (i := 5) (oi := { dst := some 55, op := Go.Op.move (Go.Operand.tmp 2), type := 22, pos := "order.go:61", after := #[{ on := 2, ground := Go.Ground.guard }], guard := some (2, true) }) (v := undef) rfl (by kernel_rfl) (by kernel_rfl) (by kernel_rfl) (fun _ _ _ h => h) (Or.inr ⟨by rfl, rfl⟩) hHeld ?_
      try simp only [Act.put, List.setIfInBounds_toArray, List.set_cons_zero, List.set_cons_succ]
      refine wpAnyH_take (i := 6) (oi := { dst := some 56, op := Go.Op.move (Go.Operand.tmp 10), type := 3, pos := "order.go:61", after := #[{ on := 2, ground := Go.Ground.guard }], guard := some (2, true) }) (v := undef) rfl (by kernel_rfl) (by kernel_rfl) (by kernel_rfl) (fun _ _ _ h => h) (Or.inr ⟨by rfl, rfl⟩) hHeld ?_
      try simp only [Act.put, List.setIfInBounds_toArray, List.set_cons_zero, List.set_cons_succ]
      refine wpAnyH_take (i := 7) (oi := { dst := some 57, op := Go.Op.binOp Go.BinOp.sub 3 (Go.Operand.tmp 56) (Go.Operand.const (Go.Value.int Go.IntKind.i64 1)) 3, type := 3, pos := "order.go:61", after := #[{ on := 6, ground := Go.Ground.data }, { on := 2, ground := Go.Ground.guard }], guard := some (2, true) }) (v := undef) rfl (by kernel_rfl) (by kernel_rfl) (by kernel_rfl) (fun _ _ _ h => h) (Or.inr ⟨by rfl, rfl⟩) hHeld ?_
      try simp only [Act.put, List.setIfInBounds_toArray, List.set_cons_zero, List.set_cons_succ]
      refine wpAnyH_take (i := 8) (oi := { dst := some 58, op := Go.Op.indexAddr 22 (Go.Operand.tmp 55) (Go.Operand.tmp 57), type := 0, pos := "order.go:61", after := #[{ on := 5, ground := Go.Ground.data }, { on := 7, ground := Go.Ground.data }, { on := 2, ground := Go.Ground.guard }], guard := some (2, true) }) (v := undef) rfl (by kernel_rfl) (by kernel_rfl) (by kernel_rfl) (fun _ _ _ h => h) (Or.inr ⟨by rfl, rfl⟩) hHeld ?_
      try simp only [Act.put, List.setIfInBounds_toArray, List.set_cons_zero, List.set_cons_succ]
      refine wpAnyH_take (i := 9) (oi := { dst := some 59, op := Go.Op.load 3 (Go.Operand.tmp 58), type := 3, pos := "order.go:61", after := #[{ on := 8, ground := Go.Ground.data }, { on := 2, ground := Go.Ground.guard }], guard := some (2, true) }) (v := undef) rfl (by kernel_rfl) (by kernel_rfl) (by kernel_rfl) (fun _ _ _ h => h) (Or.inr ⟨by rfl, rfl⟩) hHeld ?_
      try simp only [Act.put, List.setIfInBounds_toArray, List.set_cons_zero, List.set_cons_succ]
      refine wpAnyH_take (i := 10) (oi := { dst := some 60, op := Go.Op.move (Go.Operand.tmp 11), type := 3, pos := "order.go:61", after := #[{ on := 2, ground := Go.Ground.guard }], guard := some (2, true) }) (v := undef) rfl (by kernel_rfl) (by kernel_rfl) (by kernel_rfl) (fun _ _ _ h => h) (Or.inr ⟨by rfl, rfl⟩) hHeld ?_
      try simp only [Act.put, List.setIfInBounds_toArray, List.set_cons_zero, List.set_cons_succ]
      refine wpAnyH_take (i := 11) (oi := { dst := some 61, op := Go.Op.move (Go.Operand.tmp 3), type := 4, pos := "order.go:61", after := #[{ on := 2, ground := Go.Ground.guard }], guard := some (2, true) }) (v := undef) rfl (by kernel_rfl) (by kernel_rfl) (by kernel_rfl) (fun _ _ _ h => h) (Or.inr ⟨by rfl, rfl⟩) hHeld ?_
      try simp only [Act.put, List.setIfInBounds_toArray, List.set_cons_zero, List.set_cons_succ]
      refine wpAnyH_take (i := 12) (oi := { dst := some 62, op := Go.Op.call { callee := Go.Callee.value (Go.Operand.func 19), args := #[Go.Operand.tmp 53, Go.Operand.tmp 54, Go.Operand.tmp 59, Go.Operand.tmp 60, Go.Operand.tmp 61], argTypes := #[41, 3, 3, 3, 4] }, type := 4, pos := "order.go:61", after := #[{ on := 3, ground := Go.Ground.data }, { on := 4, ground := Go.Ground.data }, { on := 9, ground := Go.Ground.data }, { on := 10, ground := Go.Ground.data }, { on := 11, ground := Go.Ground.data }, { on := 2, ground := Go.Ground.chain }, { on := 2, ground := Go.Ground.guard }], guard := some (2, true) }) (v := undef) rfl (by kernel_rfl) (by kernel_rfl) (by kernel_rfl) (fun _ _ _ h => h) (Or.inr ⟨by rfl, rfl⟩) hHeld ?_
      try simp only [Act.put, List.setIfInBounds_toArray, List.set_cons_zero, List.set_cons_succ]
      refine wpAnyH_take (i := 13) (oi := { dst := some 63, op := Go.Op.unOp Go.UnOp.not 4 (Go.Operand.tmp 62), type := 4, pos := "order.go:61", after := #[{ on := 12, ground := Go.Ground.data }, { on := 2, ground := Go.Ground.guard }], guard := some (2, true) }) (v := undef) rfl (by kernel_rfl) (by kernel_rfl) (by kernel_rfl) (fun _ _ _ h => h) (Or.inr ⟨by rfl, rfl⟩) hHeld ?_
      try simp only [Act.put, List.setIfInBounds_toArray, List.set_cons_zero, List.set_cons_succ]
      refine wpAnyH_take (i := 14) (oi := { dst := some 64, op := Go.Op.pick (Go.Operand.tmp 52) (Go.Operand.tmp 63) (Go.Operand.const (Go.Value.bool false)), type := 4, pos := "order.go:61", after := #[{ on := 2, ground := Go.Ground.data }, { on := 13, ground := Go.Ground.data }], guard := none }) (v := ?v23) rfl (by kernel_rfl) (by kernel_rfl) (by kernel_rfl) (fun _ _ _ h => h) (Or.inl ⟨by rfl, ?hy23⟩) hHeld ?rest23
      case hy23 => (intro w hSw; (try dsimp only at hSw); go_simp; (first | done | with_reducible rfl))
      try simp only [Act.put, List.setIfInBounds_toArray, List.set_cons_zero, List.set_cons_succ]
      refine wpAnyH_done (by kernel_rfl) ?_ _
      go_wp2_with fail
      exact ⟨⟨j + 1, by omega, by go_num, HK.out, HG, by rw [← HSET.out]; exact Og25⟩, by simp [intOf]; omega⟩
    · obtain ⟨ad, u1, hAd, -, hu1, D0⟩ := (HS.out.ext E).at1 hlt
      subst hAd
      rw [i64s_getT (by rw [← HN.out]; exact hlt)] at hu1
      cases hu1
      have HUk := Lib.hid hup
      clear hup
      have HK : Hid (SZ (j + 1) = true) := by show _ = _; rw [HST.out, HUk.out, decide_eq_true ⟨h1, h2⟩, decide_eq_true h3, h5, Bool.or_true]; rfl
      obtain ⟨q, hqq⟩ : ∃ q : Nat, a.getD j 0 = (q : Int) := ⟨(a.getD j 0).toNat, by omega⟩
      rw [hqq] at D0 h1 h2 h3
      have hq : q < n := by omega
      obtain ⟨p, hpp⟩ : ∃ p : Nat, a.getD (j - 1) 0 = (p : Int) := ⟨(a.getD (j - 1) 0).toNat, by have := HSB.out j (HSO.out j HUk.out) hlt h4; omega⟩
      have hp : p < n := by have := HSB.out j (HSO.out j HUk.out) hlt h4; omega
      have D1 : wr.cell? ⟨g25, q, none⟩ = some (.bool (decide (0 ≤ posI a j (q : Int)))) := by rw [World.ownsRow.cellAt Og25 q (by omega), bools_get (by rw [seenL_length, ← HN.out]; exact hq), seenL_get a j (by rw [← HN.out]; exact hq)]
      have hd : decide (0 ≤ posI a j (q : Int)) = false := decide_eq_false (by omega)
      rw [hd] at D1
      clear hd
      have HSET : Hid ((bools (seenL a j)).set q (.bool true) = bools (seenL a (j + 1))) := by show _ = _; rw [← seenL_set a j q hqq (by rw [← HN.out]; exact hq)]; simp [bools, List.map_set]
      have ew : IntKind.i64.wrap ((j : Int) - 1) = ((j - 1 : Nat) : Int) := by rw [IntKind.wrap_i64]; omega
      have e51 : decide (0 < j) = true := decide_eq_true h4
      have HP : Hid (∀ w', Ext w w' → w'.cell? (ad.add (j - 1)) = some (.int .i64 (p : Int))) := fun w' h => by
        obtain ⟨ad', u2, e, -, hu2, D2⟩ := (HS.out.ext h).at1 (k := j - 1) (by omega)
        cases e
        rw [i64s_getT (by rw [← HN.out]; omega), hpp] at hu2
        cases hu2
        exact D2
      rw [hqq, hpp, Int.toNat_natCast, Int.toNat_natCast] at h5
      clear hqq hpp
      have TG24 : True := trivial
      go_wp2_with (clear TG24; have hRl := Og25.lt; refine storesr_bool rfl rfl (g := g25) (k := q) (n := n) (by rfl) rfl (by rfl) Og25 hq ?_; clear Og25; intro s24 G24 Og25; have z25 := G24.size; replace E := grown_ext E G24 (by omega); replace LB4 := LB4.grown G24 (by omega); replace HG := HG.grown G24 (by omega); clear hRl G24)
      try simp only [Act.put]
      have hq26 : s24.heap.size ≤ s24.drew.heap.size := Nat.le_refl _
      have z27 := (Ext.refl s24).drew.size
      replace E := E.trans (Ext.refl s24).drew
      replace LB4 := LB4.ext (Ext.refl s24).drew
      replace Og25 := Og25.ext (Ext.refl s24).drew
      replace HG := HG.ext (Ext.refl s24).drew
      refine wp_region_held_drew (S := (fun w' => Lay 8 w' B4 v ∧ w'.cell? (ad.add (j - 1)) = some (.int .i64 (p : Int)))) (by kernel_rfl) ⟨LB4, (HP.out _ E)⟩ (fun hHeld => ?_)
      refine wpAnyH_take (i := 0) (oi := { dst := some 50, op := Go.Op.move (Go.Operand.tmp 10), type := 3, pos := "order.go:61", after := #[], guard := none }) (v := ?v28) rfl (by kernel_rfl) (by kernel_rfl) (by kernel_rfl) (fun _ _ _ h => h) (Or.inl ⟨by rfl, ?hy28⟩) hHeld ?rest28
      case hy28 => (intro w hSw; (try dsimp only at hSw); obtain ⟨hS0, hS1⟩ := hSw; go_simp; (first | done | with_reducible rfl))
      try simp only [Act.put, List.setIfInBounds_toArray, List.set_cons_zero, List.set_cons_succ]
      refine wpAnyH_take (i := 1) (oi := { dst := some 51, op := Go.Op.binOp Go.BinOp.gtr 3 (Go.Operand.tmp 50) (Go.Operand.const (Go.Value.int Go.IntKind.i64 0)) 3, type := 4, pos := "order.go:61", after := #[{ on := 0, ground := Go.Ground.data }], guard := none }) (v := ?v29) rfl (by kernel_rfl) (by kernel_rfl) (by kernel_rfl) (fun _ _ _ h => h) (Or.inl ⟨by rfl, ?hy29⟩) hHeld ?rest29
      case hy29 => (intro w hSw; (try dsimp only at hSw); obtain ⟨hS0, hS1⟩ := hSw; go_simp; (first | done | with_reducible rfl))
      try simp only [Act.put, List.setIfInBounds_toArray, List.set_cons_zero, List.set_cons_succ]
      refine wpAnyH_take (i := 2) (oi := { dst := some 52, op := Go.Op.move (Go.Operand.tmp 51), type := 4, pos := "order.go:61", after := #[{ on := 1, ground := Go.Ground.data }], guard := none }) (v := ?v30) rfl (by kernel_rfl) (by kernel_rfl) (by kernel_rfl) (fun _ _ _ h => h) (Or.inl ⟨by rfl, ?hy30⟩) hHeld ?rest30
      case hy30 => (intro w hSw; (try dsimp only at hSw); obtain ⟨hS0, hS1⟩ := hSw; go_simp; (first | done | with_reducible rfl))
      try simp only [Act.put, List.setIfInBounds_toArray, List.set_cons_zero, List.set_cons_succ]
      refine wpAnyH_take (i := 3) (oi := { dst := some 53, op := Go.Op.load 41 (Go.Operand.tmp 4), type := 41, pos := "order.go:61", after := #[{ on := 2, ground := Go.Ground.guard }], guard := some (2, true) }) (v := v) rfl (by kernel_rfl) (by kernel_rfl) (by kernel_rfl) (fun _ _ _ h => h) (yieldV (by rfl) rfl rfl fun w' hx => hx.1) hHeld ?_
      try simp only [Act.put, List.setIfInBounds_toArray, List.set_cons_zero, List.set_cons_succ]
      refine wpAnyH_take (i := 4) (oi := { dst := some 54, op := Go.Op.move (Go.Operand.tmp 1), type := 3, pos := "order.go:61", after := #[{ on := 2, ground := Go.Ground.guard }], guard := some (2, true) }) (v := ?v32) rfl (by kernel_rfl) (by kernel_rfl) (by kernel_rfl) (fun _ _ _ h => h) (Or.inl ⟨by rfl, ?hy32⟩) hHeld ?rest32
      case hy32 => (intro w hSw; (try dsimp only at hSw); obtain ⟨hS0, hS1⟩ := hSw; go_simp; (first | done | with_reducible rfl))
      try simp only [Act.put, List.setIfInBounds_toArray, List.set_cons_zero, List.set_cons_succ]
      refine wpAnyH_take (i := 5) (oi := { dst := some 55, op := Go.Op.move (Go.Operand.tmp 2), type := 22, pos := "order.go:61", after := #[{ on := 2, ground := Go.Ground.guard }], guard := some (2, true) }) (v := ?v33) rfl (by kernel_rfl) (by kernel_rfl) (by kernel_rfl) (fun _ _ _ h => h) (Or.inl ⟨by rfl, ?hy33⟩) hHeld ?rest33
      case hy33 => (intro w hSw; (try dsimp only at hSw); obtain ⟨hS0, hS1⟩ := hSw; go_simp; (first | done | with_reducible rfl))
      try simp only [Act.put, List.setIfInBounds_toArray, List.set_cons_zero, List.set_cons_succ]
      refine wpAnyH_take (i := 6) (oi := { dst := some 56, op := Go.Op.move (Go.Operand.tmp 10), type := 3, pos := "order.go:61", after := #[{ on := 2, ground := Go.Ground.guard }], guard := some (2, true) }) (v := ?v34) rfl (by kernel_rfl) (by kernel_rfl) (by kernel_rfl) (fun _ _ _ h => h) (Or.inl ⟨by rfl, ?hy34⟩) hHeld ?rest34
      case hy34 => (intro w hSw; (try dsimp only at hSw); obtain ⟨hS0, hS1⟩ := hSw; go_simp; (first | done | with_reducible rfl))
      try simp only [Act.put, List.setIfInBounds_toArray, List.set_cons_zero, List.set_cons_succ]
      refine wpAnyH_take (i := 7) (oi := { dst := some 57, op := Go.Op.binOp Go.BinOp.sub 3 (Go.Operand.tmp 56) (Go.Operand.const (Go.Value.int Go.IntKind.i64 1)) 3, type := 3, pos := "order.go:61", after := #[{ on := 6, ground := Go.Ground.data }, { on := 2, ground := Go.Ground.guard }], guard := some (2, true) }) (v := .int .i64 ((j - 1 : Nat) : Int)) rfl (by kernel_rfl) (by kernel_rfl) (by kernel_rfl) (fun _ _ _ h => h) (Or.inl ⟨by rfl, ?hy35⟩) hHeld ?rest35
      case hy35 => (intro w hSw; (try dsimp only at hSw); obtain ⟨hS0, hS1⟩ := hSw; go_simp; try rw [ew]; (first | done | with_reducible rfl))
      try simp only [Act.put, List.setIfInBounds_toArray, List.set_cons_zero, List.set_cons_succ]
      refine wpAnyH_take (i := 8) (oi := { dst := some 58, op := Go.Op.indexAddr 22 (Go.Operand.tmp 55) (Go.Operand.tmp 57), type := 0, pos := "order.go:61", after := #[{ on := 5, ground := Go.Ground.data }, { on := 7, ground := Go.Ground.data }, { on := 2, ground := Go.Ground.guard }], guard := some (2, true) }) (v := ?v36) rfl (by kernel_rfl) (by kernel_rfl) (by kernel_rfl) (fun _ _ _ h => h) (Or.inl ⟨by rfl, ?hy36⟩) hHeld ?rest36
      case hy36 => (intro w hSw; (try dsimp only at hSw); obtain ⟨hS0, hS1⟩ := hSw; go_simp; try rw [if_pos (by omega)]; (first | done | with_reducible rfl))
      try simp only [Act.put, List.setIfInBounds_toArray, List.set_cons_zero, List.set_cons_succ]
      refine wpAnyH_take (i := 9) (oi := { dst := some 59, op := Go.Op.load 3 (Go.Operand.tmp 58), type := 3, pos := "order.go:61", after := #[{ on := 8, ground := Go.Ground.data }, { on := 2, ground := Go.Ground.guard }], guard := some (2, true) }) (v := ?v37) rfl (by kernel_rfl) (by kernel_rfl) (by kernel_rfl) (fun _ _ _ h => h) (Or.inl ⟨by rfl, ?hy37⟩) hHeld ?rest37
      case hy37 => (intro w hSw; (try dsimp only at hSw); obtain ⟨hS0, hS1⟩ := hSw; go_simp; (first | done | with_reducible rfl))
      try simp only [Act.put, List.setIfInBounds_toArray, List.set_cons_zero, List.set_cons_succ]
      refine wpAnyH_take (i := 10) (oi := { dst := some 60, op := Go.Op.move (Go.Operand.tmp 11), type := 3, pos := "order.go:61", after := #[{ on := 2, ground := Go.Ground.guard }], guard := some (2, true) }) (v := ?v38) rfl (by kernel_rfl) (by kernel_rfl) (by kernel_rfl) (fun _ _ _ h => h) (Or.inl ⟨by rfl, ?hy38⟩) hHeld ?rest38
      case hy38 => (intro w hSw; (try dsimp only at hSw); obtain ⟨hS0, hS1⟩ := hSw; go_simp; (first | done | with_reducible rfl))
      try simp only [Act.put, List.setIfInBounds_toArray, List.set_cons_zero, List.set_cons_succ]
      refine wpAnyH_take (i := 11) (oi := { dst := some 61, op := Go.Op.move (Go.Operand.tmp 3), type := 4, pos := "order.go:61", after := #[{ on := 2, ground := Go.Ground.guard }], guard := some (2, true) }) (v := ?v39) rfl (by kernel_rfl) (by kernel_rfl) (by kernel_rfl) (fun _ _ _ h => h) (Or.inl ⟨by rfl, ?hy39⟩) hHeld ?rest39
      case hy39 => (intro w hSw; (try dsimp only at hSw); obtain ⟨hS0, hS1⟩ := hSw; go_simp; (first | done | with_reducible rfl))
      try simp only [Act.put, List.setIfInBounds_toArray, List.set_cons_zero, List.set_cons_succ]
      refine wpAnyH_ready (rs := [12]) (by kernel_rfl) (by simp) ?_
      refine AllReadyH.cons (o := { dst := some 62, op := Go.Op.call { callee := Go.Callee.value (Go.Operand.func 19), args := #[Go.Operand.tmp 53, Go.Operand.tmp 54, Go.Operand.tmp 59, Go.Operand.tmp 60, Go.Operand.tmp 61], argTypes := #[41, 3, 3, 3, 4] }, type := 4, pos := "order.go:61", after := #[{ on := 3, ground := Go.Ground.data }, { on := 4, ground := Go.Ground.data }, { on := 9, ground := Go.Ground.data }, { on := 10, ground := Go.Ground.data }, { on := 11, ground := Go.Ground.data }, { on := 2, ground := Go.Ground.chain }, { on := 2, ground := Go.Ground.guard }], guard := some (2, true) }) rfl (fun K hK => ?_) (AllReadyH.nil)
      go_simp
      refine (HLS.out _ p q E hp hq).mono ?_
      rintro e w62 ⟨rfl, x⟩
      have z40 := x.size
      replace E := E.trans x
      replace LB4 := LB4.ext x
      replace Og25 := Og25.ext x
      replace HG := HG.ext x
      clear x
      clear hHeld
      have hHeld := And.intro LB4 ((HP.out _ E))
      refine hK.out _ _ hHeld (fun _ => ?_)
      clear hK K
      try simp only [Act.put, List.setIfInBounds_toArray, List.set_cons_zero, List.set_cons_succ]
      refine wpAnyH_take (i := 13) (oi := { dst := some 63, op := Go.Op.unOp Go.UnOp.not 4 (Go.Operand.tmp 62), type := 4, pos := "order.go:61", after := #[{ on := 12, ground := Go.Ground.data }, { on := 2, ground := Go.Ground.guard }], guard := some (2, true) }) (v := ?v41) rfl (by kernel_rfl) (by kernel_rfl) (by kernel_rfl) (fun _ _ _ h => h) (Or.inl ⟨by rfl, ?hy41⟩) hHeld ?rest41
      case hy41 => (intro w hSw; (try dsimp only at hSw); obtain ⟨hS0, hS1⟩ := hSw; go_simp; (first | done | with_reducible rfl))
      try simp only [Act.put, List.setIfInBounds_toArray, List.set_cons_zero, List.set_cons_succ]
      refine wpAnyH_take (i := 14) (oi := { dst := some 64, op := Go.Op.pick (Go.Operand.tmp 52) (Go.Operand.tmp 63) (Go.Operand.const (Go.Value.bool false)), type := 4, pos := "order.go:61", after := #[{ on := 2, ground := Go.Ground.data }, { on := 13, ground := Go.Ground.data }], guard := none }) (v := ?v42) rfl (by kernel_rfl) (by kernel_rfl) (by kernel_rfl) (fun _ _ _ h => h) (Or.inl ⟨by rfl, ?hy42⟩) hHeld ?rest42
      case hy42 => (intro w hSw; (try dsimp only at hSw); obtain ⟨hS0, hS1⟩ := hSw; go_simp; (first | done | with_reducible rfl))
      try simp only [Act.put, List.setIfInBounds_toArray, List.set_cons_zero, List.set_cons_succ]
      refine wpAnyH_done (by kernel_rfl) ?_ _
      go_wp2_with fail
      exact ⟨⟨j + 1, by omega, by go_num, HK.out, HG, by rw [← HSET.out]; exact Og25⟩, by simp [intOf]; omega⟩
    · obtain ⟨ad, u1, hAd, -, hu1, D0⟩ := (HS.out.ext E).at1 hlt
      subst hAd
      rw [i64s_getT (by rw [← HN.out]; exact hlt)] at hu1
      cases hu1
      have HUk := Lib.hid hup
      clear hup
      have HK : Hid (SZ (j + 1) = false) := by show _ = _; rw [HST.out, HUk.out, decide_eq_true ⟨h1, h2⟩, decide_eq_true h3, h5, decide_eq_false (p := j = 0) (by omega)]; rfl
      obtain ⟨q, hqq⟩ : ∃ q : Nat, a.getD j 0 = (q : Int) := ⟨(a.getD j 0).toNat, by omega⟩
      rw [hqq] at D0 h1 h2 h3
      have hq : q < n := by omega
      obtain ⟨p, hpp⟩ : ∃ p : Nat, a.getD (j - 1) 0 = (p : Int) := ⟨(a.getD (j - 1) 0).toNat, by have := HSB.out j (HSO.out j HUk.out) hlt h4; omega⟩
      have hp : p < n := by have := HSB.out j (HSO.out j HUk.out) hlt h4; omega
      have D1 : wr.cell? ⟨g25, q, none⟩ = some (.bool (decide (0 ≤ posI a j (q : Int)))) := by rw [World.ownsRow.cellAt Og25 q (by omega), bools_get (by rw [seenL_length, ← HN.out]; exact hq), seenL_get a j (by rw [← HN.out]; exact hq)]
      have hd : decide (0 ≤ posI a j (q : Int)) = false := decide_eq_false (by omega)
      rw [hd] at D1
      clear hd
      have ew : IntKind.i64.wrap ((j : Int) - 1) = ((j - 1 : Nat) : Int) := by rw [IntKind.wrap_i64]; omega
      have e51 : decide (0 < j) = true := decide_eq_true h4
      have HP : Hid (∀ w', Ext w w' → w'.cell? (ad.add (j - 1)) = some (.int .i64 (p : Int))) := fun w' h => by
        obtain ⟨ad', u2, e, -, hu2, D2⟩ := (HS.out.ext h).at1 (k := j - 1) (by omega)
        cases e
        rw [i64s_getT (by rw [← HN.out]; omega), hpp] at hu2
        cases hu2
        exact D2
      rw [hqq, hpp, Int.toNat_natCast, Int.toNat_natCast] at h5
      clear hqq hpp
      have TG43 : True := trivial
      go_wp2_with (clear TG43; have hRl := Og25.lt; refine storesr_bool rfl rfl (g := g25) (k := q) (n := n) (by rfl) rfl (by rfl) Og25 hq ?_; clear Og25; intro s43 G43 Og25; have z44 := G43.size; replace E := grown_ext E G43 (by omega); replace LB4 := LB4.grown G43 (by omega); replace HG := HG.grown G43 (by omega); clear hRl G43)
      try simp only [Act.put]
      have hq45 : s43.heap.size ≤ s43.drew.heap.size := Nat.le_refl _
      have z46 := (Ext.refl s43).drew.size
      replace E := E.trans (Ext.refl s43).drew
      replace LB4 := LB4.ext (Ext.refl s43).drew
      replace Og25 := Og25.ext (Ext.refl s43).drew
      replace HG := HG.ext (Ext.refl s43).drew
      refine wp_region_held_drew (S := (fun w' => Lay 8 w' B4 v ∧ w'.cell? (ad.add (j - 1)) = some (.int .i64 (p : Int)))) (by kernel_rfl) ⟨LB4, (HP.out _ E)⟩ (fun hHeld => ?_)
      refine wpAnyH_take (i := 0) (oi := { dst := some 50, op := Go.Op.move (Go.Operand.tmp 10), type := 3, pos := "order.go:61", after := #[], guard := none }) (v := ?v47) rfl (by kernel_rfl) (by kernel_rfl) (by kernel_rfl) (fun _ _ _ h => h) (Or.inl ⟨by rfl, ?hy47⟩) hHeld ?rest47
      case hy47 => (intro w hSw; (try dsimp only at hSw); obtain ⟨hS0, hS1⟩ := hSw; go_simp; (first | done | with_reducible rfl))
      try simp only [Act.put, List.setIfInBounds_toArray, List.set_cons_zero, List.set_cons_succ]
      refine wpAnyH_take (i := 1) (oi := { dst := some 51, op := Go.Op.binOp Go.BinOp.gtr 3 (Go.Operand.tmp 50) (Go.Operand.const (Go.Value.int Go.IntKind.i64 0)) 3, type := 4, pos := "order.go:61", after := #[{ on := 0, ground := Go.Ground.data }], guard := none }) (v := ?v48) rfl (by kernel_rfl) (by kernel_rfl) (by kernel_rfl) (fun _ _ _ h => h) (Or.inl ⟨by rfl, ?hy48⟩) hHeld ?rest48
      case hy48 => (intro w hSw; (try dsimp only at hSw); obtain ⟨hS0, hS1⟩ := hSw; go_simp; (first | done | with_reducible rfl))
      try simp only [Act.put, List.setIfInBounds_toArray, List.set_cons_zero, List.set_cons_succ]
      refine wpAnyH_take (i := 2) (oi := { dst := some 52, op := Go.Op.move (Go.Operand.tmp 51), type := 4, pos := "order.go:61", after := #[{ on := 1, ground := Go.Ground.data }], guard := none }) (v := ?v49) rfl (by kernel_rfl) (by kernel_rfl) (by kernel_rfl) (fun _ _ _ h => h) (Or.inl ⟨by rfl, ?hy49⟩) hHeld ?rest49
      case hy49 => (intro w hSw; (try dsimp only at hSw); obtain ⟨hS0, hS1⟩ := hSw; go_simp; (first | done | with_reducible rfl))
      try simp only [Act.put, List.setIfInBounds_toArray, List.set_cons_zero, List.set_cons_succ]
      refine wpAnyH_take (i := 3) (oi := { dst := some 53, op := Go.Op.load 41 (Go.Operand.tmp 4), type := 41, pos := "order.go:61", after := #[{ on := 2, ground := Go.Ground.guard }], guard := some (2, true) }) (v := v) rfl (by kernel_rfl) (by kernel_rfl) (by kernel_rfl) (fun _ _ _ h => h) (yieldV (by rfl) rfl rfl fun w' hx => hx.1) hHeld ?_
      try simp only [Act.put, List.setIfInBounds_toArray, List.set_cons_zero, List.set_cons_succ]
      refine wpAnyH_take (i := 4) (oi := { dst := some 54, op := Go.Op.move (Go.Operand.tmp 1), type := 3, pos := "order.go:61", after := #[{ on := 2, ground := Go.Ground.guard }], guard := some (2, true) }) (v := ?v51) rfl (by kernel_rfl) (by kernel_rfl) (by kernel_rfl) (fun _ _ _ h => h) (Or.inl ⟨by rfl, ?hy51⟩) hHeld ?rest51
      case hy51 => (intro w hSw; (try dsimp only at hSw); obtain ⟨hS0, hS1⟩ := hSw; go_simp; (first | done | with_reducible rfl))
      try simp only [Act.put, List.setIfInBounds_toArray, List.set_cons_zero, List.set_cons_succ]
      refine wpAnyH_take (i := 5) (oi := { dst := some 55, op := Go.Op.move (Go.Operand.tmp 2), type := 22, pos := "order.go:61", after := #[{ on := 2, ground := Go.Ground.guard }], guard := some (2, true) }) (v := ?v52) rfl (by kernel_rfl) (by kernel_rfl) (by kernel_rfl) (fun _ _ _ h => h) (Or.inl ⟨by rfl, ?hy52⟩) hHeld ?rest52
      case hy52 => (intro w hSw; (try dsimp only at hSw); obtain ⟨hS0, hS1⟩ := hSw; go_simp; (first | done | with_reducible rfl))
      try simp only [Act.put, List.setIfInBounds_toArray, List.set_cons_zero, List.set_cons_succ]
      refine wpAnyH_take (i := 6) (oi := { dst := some 56, op := Go.Op.move (Go.Operand.tmp 10), type := 3, pos := "order.go:61", after := #[{ on := 2, ground := Go.Ground.guard }], guard := some (2, true) }) (v := ?v53) rfl (by kernel_rfl) (by kernel_rfl) (by kernel_rfl) (fun _ _ _ h => h) (Or.inl ⟨by rfl, ?hy53⟩) hHeld ?rest53
      case hy53 => (intro w hSw; (try dsimp only at hSw); obtain ⟨hS0, hS1⟩ := hSw; go_simp; (first | done | with_reducible rfl))
      try simp only [Act.put, List.setIfInBounds_toArray, List.set_cons_zero, List.set_cons_succ]
      refine wpAnyH_take (i := 7) (oi := { dst := some 57, op := Go.Op.binOp Go.BinOp.sub 3 (Go.Operand.tmp 56) (Go.Operand.const (Go.Value.int Go.IntKind.i64 1)) 3, type := 3, pos := "order.go:61", after := #[{ on := 6, ground := Go.Ground.data }, { on := 2, ground := Go.Ground.guard }], guard := some (2, true) }) (v := .int .i64 ((j - 1 : Nat) : Int)) rfl (by kernel_rfl) (by kernel_rfl) (by kernel_rfl) (fun _ _ _ h => h) (Or.inl ⟨by rfl, ?hy54⟩) hHeld ?rest54
      case hy54 => (intro w hSw; (try dsimp only at hSw); obtain ⟨hS0, hS1⟩ := hSw; go_simp; try rw [ew]; (first | done | with_reducible rfl))
      try simp only [Act.put, List.setIfInBounds_toArray, List.set_cons_zero, List.set_cons_succ]
      refine wpAnyH_take (i := 8) (oi := { dst := some 58, op := Go.Op.indexAddr 22 (Go.Operand.tmp 55) (Go.Operand.tmp 57), type := 0, pos := "order.go:61", after := #[{ on := 5, ground := Go.Ground.data }, { on := 7, ground := Go.Ground.data }, { on := 2, ground := Go.Ground.guard }], guard := some (2, true) }) (v := ?v55) rfl (by kernel_rfl) (by kernel_rfl) (by kernel_rfl) (fun _ _ _ h => h) (Or.inl ⟨by rfl, ?hy55⟩) hHeld ?rest55
      case hy55 => (intro w hSw; (try dsimp only at hSw); obtain ⟨hS0, hS1⟩ := hSw; go_simp; try rw [if_pos (by omega)]; (first | done | with_reducible rfl))
      try simp only [Act.put, List.setIfInBounds_toArray, List.set_cons_zero, List.set_cons_succ]
      refine wpAnyH_take (i := 9) (oi := { dst := some 59, op := Go.Op.load 3 (Go.Operand.tmp 58), type := 3, pos := "order.go:61", after := #[{ on := 8, ground := Go.Ground.data }, { on := 2, ground := Go.Ground.guard }], guard := some (2, true) }) (v := ?v56) rfl (by kernel_rfl) (by kernel_rfl) (by kernel_rfl) (fun _ _ _ h => h) (Or.inl ⟨by rfl, ?hy56⟩) hHeld ?rest56
      case hy56 => (intro w hSw; (try dsimp only at hSw); obtain ⟨hS0, hS1⟩ := hSw; go_simp; (first | done | with_reducible rfl))
      try simp only [Act.put, List.setIfInBounds_toArray, List.set_cons_zero, List.set_cons_succ]
      refine wpAnyH_take (i := 10) (oi := { dst := some 60, op := Go.Op.move (Go.Operand.tmp 11), type := 3, pos := "order.go:61", after := #[{ on := 2, ground := Go.Ground.guard }], guard := some (2, true) }) (v := ?v57) rfl (by kernel_rfl) (by kernel_rfl) (by kernel_rfl) (fun _ _ _ h => h) (Or.inl ⟨by rfl, ?hy57⟩) hHeld ?rest57
      case hy57 => (intro w hSw; (try dsimp only at hSw); obtain ⟨hS0, hS1⟩ := hSw; go_simp; (first | done | with_reducible rfl))
      try simp only [Act.put, List.setIfInBounds_toArray, List.set_cons_zero, List.set_cons_succ]
      refine wpAnyH_take (i := 11) (oi := { dst := some 61, op := Go.Op.move (Go.Operand.tmp 3), type := 4, pos := "order.go:61", after := #[{ on := 2, ground := Go.Ground.guard }], guard := some (2, true) }) (v := ?v58) rfl (by kernel_rfl) (by kernel_rfl) (by kernel_rfl) (fun _ _ _ h => h) (Or.inl ⟨by rfl, ?hy58⟩) hHeld ?rest58
      case hy58 => (intro w hSw; (try dsimp only at hSw); obtain ⟨hS0, hS1⟩ := hSw; go_simp; (first | done | with_reducible rfl))
      try simp only [Act.put, List.setIfInBounds_toArray, List.set_cons_zero, List.set_cons_succ]
      refine wpAnyH_ready (rs := [12]) (by kernel_rfl) (by simp) ?_
      refine AllReadyH.cons (o := { dst := some 62, op := Go.Op.call { callee := Go.Callee.value (Go.Operand.func 19), args := #[Go.Operand.tmp 53, Go.Operand.tmp 54, Go.Operand.tmp 59, Go.Operand.tmp 60, Go.Operand.tmp 61], argTypes := #[41, 3, 3, 3, 4] }, type := 4, pos := "order.go:61", after := #[{ on := 3, ground := Go.Ground.data }, { on := 4, ground := Go.Ground.data }, { on := 9, ground := Go.Ground.data }, { on := 10, ground := Go.Ground.data }, { on := 11, ground := Go.Ground.data }, { on := 2, ground := Go.Ground.chain }, { on := 2, ground := Go.Ground.guard }], guard := some (2, true) }) rfl (fun K hK => ?_) (AllReadyH.nil)
      go_simp
      refine (HLS.out _ p q E hp hq).mono ?_
      rintro e w62 ⟨rfl, x⟩
      have z59 := x.size
      replace E := E.trans x
      replace LB4 := LB4.ext x
      replace Og25 := Og25.ext x
      replace HG := HG.ext x
      clear x
      clear hHeld
      have hHeld := And.intro LB4 ((HP.out _ E))
      refine hK.out _ _ hHeld (fun _ => ?_)
      clear hK K
      try simp only [Act.put, List.setIfInBounds_toArray, List.set_cons_zero, List.set_cons_succ]
      refine wpAnyH_take (i := 13) (oi := { dst := some 63, op := Go.Op.unOp Go.UnOp.not 4 (Go.Operand.tmp 62), type := 4, pos := "order.go:61", after := #[{ on := 12, ground := Go.Ground.data }, { on := 2, ground := Go.Ground.guard }], guard := some (2, true) }) (v := ?v60) rfl (by kernel_rfl) (by kernel_rfl) (by kernel_rfl) (fun _ _ _ h => h) (Or.inl ⟨by rfl, ?hy60⟩) hHeld ?rest60
      case hy60 => (intro w hSw; (try dsimp only at hSw); obtain ⟨hS0, hS1⟩ := hSw; go_simp; (first | done | with_reducible rfl))
      try simp only [Act.put, List.setIfInBounds_toArray, List.set_cons_zero, List.set_cons_succ]
      refine wpAnyH_take (i := 14) (oi := { dst := some 64, op := Go.Op.pick (Go.Operand.tmp 52) (Go.Operand.tmp 63) (Go.Operand.const (Go.Value.bool false)), type := 4, pos := "order.go:61", after := #[{ on := 2, ground := Go.Ground.data }, { on := 13, ground := Go.Ground.data }], guard := none }) (v := ?v61) rfl (by kernel_rfl) (by kernel_rfl) (by kernel_rfl) (fun _ _ _ h => h) (Or.inl ⟨by rfl, ?hy61⟩) hHeld ?rest61
      case hy61 => (intro w hSw; (try dsimp only at hSw); obtain ⟨hS0, hS1⟩ := hSw; go_simp; (first | done | with_reducible rfl))
      try simp only [Act.put, List.setIfInBounds_toArray, List.set_cons_zero, List.set_cons_succ]
      refine wpAnyH_done (by kernel_rfl) ?_ _
      go_wp2_with fail
      go_ret
      exact ⟨by rw [HSY.out (j + 1) HK.out (by omega)]; rfl, E⟩
    · obtain ⟨ad, u1, hAd, -, hu1, D0⟩ := (HS.out.ext E).at1 hlt
      subst hAd
      rw [i64s_getT (by rw [← HN.out]; exact hlt)] at hu1
      cases hu1
      have HUk := Lib.hid hup
      clear hup
      have HK : Hid (SZ (j + 1) = false) := by show _ = _; rw [HST.out, HUk.out, decide_eq_false (fun h => absurd h.1 (by omega)), Bool.false_and, Bool.false_and]; rfl
      generalize a.getD j 0 = x at *
      go_wp2_with fail
      go_ret
      exact ⟨by rw [HSY.out (j + 1) HK.out (by omega)]; rfl, E⟩
    · obtain ⟨ad, u1, hAd, -, hu1, D0⟩ := (HS.out.ext E).at1 hlt
      subst hAd
      rw [i64s_getT (by rw [← HN.out]; exact hlt)] at hu1
      cases hu1
      have HUk := Lib.hid hup
      clear hup
      have HK : Hid (SZ (j + 1) = false) := by show _ = _; rw [HST.out, HUk.out, decide_eq_false (fun h => absurd h.2 (by omega)), Bool.false_and, Bool.false_and]; rfl
      generalize a.getD j 0 = x at *
      go_wp2_with fail
      go_ret
      exact ⟨by rw [HSY.out (j + 1) HK.out (by omega)]; rfl, E⟩
    · obtain ⟨ad, u1, hAd, -, hu1, D0⟩ := (HS.out.ext E).at1 hlt
      subst hAd
      rw [i64s_getT (by rw [← HN.out]; exact hlt)] at hu1
      cases hu1
      have HUk := Lib.hid hup
      clear hup
      have HK : Hid (SZ (j + 1) = false) := by show _ = _; rw [HST.out, HUk.out, decide_eq_false (p := posI a j (a.getD j 0) < 0) (by omega), Bool.and_false, Bool.false_and]; rfl
      obtain ⟨q, hqq⟩ : ∃ q : Nat, a.getD j 0 = (q : Int) := ⟨(a.getD j 0).toNat, by omega⟩
      rw [hqq] at D0 h1 h2 h3
      have hq : q < n := by omega
      have D1 : wr.cell? ⟨g25, q, none⟩ = some (.bool (decide (0 ≤ posI a j (q : Int)))) := by rw [World.ownsRow.cellAt Og25 q (by omega), bools_get (by rw [seenL_length, ← HN.out]; exact hq), seenL_get a j (by rw [← HN.out]; exact hq)]
      have hd : decide (0 ≤ posI a j (q : Int)) = true := decide_eq_true h3
      rw [hd] at D1
      clear hqq hd
      go_wp2_with fail
      go_ret
      exact ⟨by rw [HSY.out (j + 1) HK.out (by omega)]; rfl, E⟩
    · have hkN : j = n := by omega
      rw [hkN] at hup
      have HUN := Lib.hid hup
      clear HG hkN hup
      go_wp2_with fail
      go_ret
      exact ⟨by rw [HUN.out]; rfl, E⟩
end Go.Proofs.Ytidnikndjhfgaaa
