/- mono.bits, mono.kept. -/
import Derived.Test.YtidnikndjhfgaaaDoorUc
import Derived.Test.YtidnikndjhfgaaaDoorRb
import Derived.Test.YtidnikndjhfgaaaDoorPu
namespace Go.Proofs.YtidnikndjhfgaaaDoor
open Go.ChangeShapes Go.WideShapes Go.RowKit Bv Fl
set_option maxHeartbeats 2000000
set_option maxRecDepth 100000
theorem bits_numsM (b : List Bool) : (VD.bits b).nums = b.map bitW := by
  apply List.ext_getElem (by rw [VD.nums_length, List.length_map]; rfl)
  intro j h1 h2
  have hj : j < b.length := by rw [List.length_map] at h2; exact h2
  simp only [VD.nums, List.getElem_map, List.getElem_range]
  show bitW (b.getD j false) = bitW b[j]
  rw [show b.getD j false = b[j] by simp [List.getD, hj]]
theorem smalls_numsM (l : List Int) : (VD.smalls l).nums = l.map fi := by
  apply List.ext_getElem (by rw [VD.nums_length, List.length_map]; rfl)
  intro j h1 h2
  have hj : j < l.length := by rw [List.length_map] at h2; exact h2
  simp only [VD.nums, List.getElem_map, List.getElem_range]
  show fi (l.getD j 0) = fi l[j]
  rw [show l.getD j 0 = l[j] by simp [List.getD, hj]]
theorem bits_least {w : World} {v : Value} {b : List Bool} (h : IsVec w v (VD.bits b)) : leastL (b.map bitW) = 1 := by
  have : IsNum w v 1 (b.map bitW) := ⟨_, h, rfl, by omega, by omega, bits_numsM b⟩
  have h1 := this.least
  have h2 := leastL_ge (b.map bitW)
  omega
theorem bits_numS {w : World} {v : Value} {b : List Bool} {S : Nat → Prop} (h : VecS w v (VD.bits b) S) : NumS w v (leastL (b.map bitW)) (b.map bitW) S := by
  rw [bits_least h.is]
  exact ⟨_, h, rfl, by omega, by omega, bits_numsM b⟩
theorem bitW_fi' (c : Bool) : bitW c = fi (if c then 1 else 0) := by cases c; exact fi_zero.symm; exact fi_one.symm
theorem bitG (c : Bool) : G (if c then 1 else 0) := by cases c <;> decide
theorem resM_bits {f : Int} (hf : f = 1 ∨ f = 3 ∨ f = 5 ∨ f = 6 ∨ f = 7) (b : List Bool) : resM f (b.map bitW) = b.map bitW := by
  unfold resM
  rw [List.map_map]
  apply List.map_congr_left
  intro c _
  show valM f (bitW c) = bitW c
  have he : eM f (if c then 1 else 0) = true := by rcases hf with rfl | rfl | rfl | rfl | rfl <;> rfl
  rw [bitW_fi', valM_w (by omega) (by omega) (bitG c) he]
  congr 1
  rcases hf with rfl | rfl | rfl | rfl | rfl <;> cases c <;> decide
theorem resM_not (b : List Bool) : resM 8 (b.map bitW) = (notL b).map bitW := by
  unfold resM notL
  rw [List.map_map, List.map_map]
  apply List.map_congr_left
  intro c _
  show valM 8 (bitW c) = bitW (!c)
  have he : eM 8 (if c then 1 else 0) = true := by cases c <;> rfl
  rw [bitW_fi' c, valM_w (by omega) (by omega) (bitG c) he, bitW_fi' (!c)]
  congr 1
  cases c <;> decide
theorem resM_neg (b : List Bool) : (VD.smalls (b.map fun c => if c then -1 else 0)).nums = resM 2 (b.map bitW) := by
  rw [smalls_numsM]
  unfold resM
  rw [List.map_map, List.map_map]
  apply List.map_congr_left
  intro c _
  show fi (if c then -1 else 0) = valM 2 (bitW c)
  rw [bitW_fi' c, valM_w (by omega) (by omega) (bitG c) rfl, wM_2]
  congr 1
  cases c <;> decide
theorem valM4_one : valM 4 4607182418800017408 = 4607182418800017408 ∧ errM 4 4607182418800017408 = 0 := by
  rw [(valM_4 _).1, (valM_4 _).2, if_neg (by decide), if_neg (by decide)]
  exact ⟨by kernel_rfl, by kernel_rfl⟩
theorem errM4_zero : errM 4 0 = 24 := by rw [(valM_4 _).2, if_pos rfl]
theorem cnt_all {b : List Bool} (h : ¬ cnt b b.length < b.length) : ∀ c ∈ b, c = true := by
  have hk : ∀ k, k ≤ b.length → cnt b k ≤ k ∧ (cnt b k = k → ∀ j, j < k → b.getD j false = true) := fun k => by
    induction k with
    | zero => exact fun _ => ⟨Nat.le_refl _, fun _ j hj => by omega⟩
    | succ k ih =>
      intro hk
      have hs : cnt b (k + 1) = cnt b k + (b.getD k false).toNat := rfl
      obtain ⟨h1, h2⟩ := ih (by omega)
      cases hb : b.getD k false
      · rw [hb] at hs
        refine ⟨by rw [hs]; simp; omega, fun e => ?_⟩
        rw [hs] at e
        simp at e
        omega
      · rw [hb] at hs
        refine ⟨by rw [hs]; simp; omega, fun e j hj => ?_⟩
        rw [hs] at e
        simp at e
        by_cases e1 : j = k
        · subst e1; exact hb
        · exact h2 e j (by omega)
  obtain ⟨h1, h2⟩ := hk b.length (Nat.le_refl _)
  intro c hc
  obtain ⟨j, hj, rfl⟩ := List.getElem_of_mem hc
  have := h2 (by omega) j hj
  simpa [List.getD, hj] using this
theorem cnt_some {b : List Bool} (h : cnt b b.length < b.length) : ∃ j, j < b.length ∧ b.getD j false = false := by
  refine Classical.byContradiction fun hn => ?_
  have hall : ∀ j, j < b.length → b.getD j false = true := fun j hj => by
    cases hb : b.getD j false
    · exact absurd ⟨j, hj, hb⟩ hn
    · rfl
  have : ∀ k, k ≤ b.length → cnt b k = k := fun k => by
    induction k with
    | zero => exact fun _ => rfl
    | succ k ih =>
      intro hk
      have hs : cnt b (k + 1) = cnt b k + (b.getD k false).toNat := rfl
      rw [hs, ih (by omega), hall k (by omega)]; rfl
  have := this b.length (Nat.le_refl _)
  omega
theorem res4_bits {b : List Bool} (h : ¬ cnt b b.length < b.length) : resM 4 (b.map bitW) = b.map bitW ∧ errMF 4 (b.map bitW) b.length = 0 := by
  have ha := cnt_all h
  constructor
  · unfold resM
    rw [List.map_map]
    apply List.map_congr_left
    intro c hc
    rw [ha c hc]
    exact valM4_one.1
  · exact errMF_of fun j hj => by
      have : (b.map bitW).getD j 0 = bitW (b.getD j false) := by simp [List.getD, hj]
      rw [this, ha (b.getD j false) (by rw [List.getD_eq_getElem?_getD, List.getElem?_eq_getElem hj]; exact List.getElem_mem hj)]
      exact valM4_one.2
theorem err4_bits {b : List Bool} (h : cnt b b.length < b.length) : errMF 4 (b.map bitW) b.length = 24 := by
  obtain ⟨j, hj, hb⟩ := cnt_some h
  have hx : ∀ k, k < b.length → errM 4 ((b.map bitW).getD k 0) = if b.getD k false then 0 else 24 := fun k hk => by
    have : (b.map bitW).getD k 0 = bitW (b.getD k false) := by simp [List.getD, hk]
    rw [this]
    cases b.getD k false
    · exact errM4_zero
    · exact valM4_one.2
  have all : ∀ k, k ≤ b.length → errMF 4 (b.map bitW) k = 0 ∨ errMF 4 (b.map bitW) k = 24 := fun k => by
    induction k with
    | zero => exact fun _ => .inl rfl
    | succ k ih =>
      intro hk
      unfold errMF
      split
      · exact ih (by omega)
      · rw [hx k (by omega)]
        cases b.getD k false
        · exact .inr rfl
        · exact .inl rfl
  have ne : errMF 4 (b.map bitW) (j + 1) ≠ 0 := by
    unfold errMF
    split
    · assumption
    · rw [hx j hj, hb]; decide
  have e := errMF_stay ne (show j + 1 ≤ b.length by omega)
  rcases all b.length (Nat.le_refl _) with h | h
  · rw [e] at h; exact absurd h ne
  · exact h
theorem onesL_mem (b : List Bool) (i : Nat) : i ∈ onesL b b.length ↔ i < b.length ∧ b.getD i false = true := by
  unfold onesL
  simp [List.mem_filter]
def negO (n : Nat) (l : List Nat) : List Value := (List.range n).map fun i => .int .i8 (if i ∈ l then -1 else 0)
theorem negO_nil (n : Nat) : List.replicate n (Value.int .i8 0) = negO n [] := by
  apply List.ext_getElem (by simp [negO])
  intro i h1 h2
  simp [negO]
theorem negO_set (n : Nat) (l : List Nat) {k : Nat} (hk : k < l.length) : (negO n (l.take k)).set (l.getD k 0) (.int .i8 (-1)) = negO n (l.take (k + 1)) := by
  apply List.ext_getElem (by simp [negO])
  intro i h1 h2
  rw [List.getElem_set]
  simp only [negO, List.getElem_map, List.getElem_range]
  have hg : l.getD k 0 = l[k] := by simp [List.getD, hk]
  rw [hg, List.take_succ_eq_append_getElem hk]
  by_cases e : l[k] = i
  · rw [if_pos e, if_pos (List.mem_append.2 (.inr (by rw [e]; exact List.mem_singleton.2 rfl)))]
  · rw [if_neg e]
    by_cases g : i ∈ l.take k
    · rw [if_pos g, if_pos (List.mem_append.2 (.inl g))]
    · rw [if_neg g, if_neg (fun h => (List.mem_append.1 h).elim g fun h => e (List.mem_singleton.1 h).symm)]
theorem negO_all (b : List Bool) : negO b.length (onesL b b.length) = i8s (b.map fun c => if c then -1 else 0) := by
  apply List.ext_getElem (by simp [negO, i8s])
  intro i h1 h2
  have hi : i < b.length := by simpa [negO] using h1
  simp only [negO, i8s, List.getElem_map, List.getElem_range]
  have : b.getD i false = b[i] := by simp [List.getD, hi]
  by_cases g : b[i] = true
  · rw [if_pos ((onesL_mem b i).2 ⟨hi, by rw [this]; exact g⟩), if_pos g]
  · rw [if_neg (fun h => g (by rw [← this]; exact ((onesL_mem b i).1 h).2)), if_neg g]
theorem smalls_sM (A : Option Addr) (l : List Int) (n : Nat) (hn : n = l.length) (hb : ∀ x ∈ l, -128 ≤ x ∧ x ≤ 127) (c : Nat) (w : World) (hl : n ≤ 1048576) (hs : Sl w 1 A n (i8s l)) : Calls Tryd.prog 60 #[.slice A n c] w fun e w' => ∃ p, e = .returned p ∧ NumS w' p 2 (VD.smalls l).nums (New w.heap.size) ∧ Ext w w' := by
  refine (vsmalls_own A l n hn c w hl hs).mono ?_
  rintro e w' ⟨B, cb, rfl, ho, hx⟩
  refine ⟨_, rfl, ?_, hx⟩
  refine NumS.mk ⟨VD.smalls l, isvec_smalls hn hl hb (Sl.own ho), rfl, by omega, by omega, rfl⟩ (In.one (A := B) (n := n) (c := cb) (fun a ha => by subst ha; exact (World.ownsRow.lt ho a.block rfl).1) (.inr rfl) ⟨_, rfl⟩ (.inl rfl) (.inr rfl) (.inr rfl) (.inr rfl) (.inr rfl))
theorem ones_sM (v : Value) (b : List Bool) (m : Nat) (hm : m = (onesL b b.length).length) (w : World) (hv : IsB w v b) (ht : Tab w) : Calls Tryd.prog 65 #[v] w fun e w' => ∃ A c, e = .returned (.slice A m c) ∧ SlS w' 1 A m (nats (onesL b b.length)) (fun i => w.heap.size ≤ i ∧ i < w'.heap.size) ∧ Ext w w' := by
  have hc : m = cnt b b.length := by rw [hm, onesL_length]
  subst hc
  refine (ones_any v b w hv ht).mono ?_
  rintro e w' ⟨v', rfl, ho, hx⟩
  rcases RowC.of ho with ⟨rfl, h0, h1⟩ | ⟨g, c, rfl, hg, hr⟩
  · rw [h0, h1]
    exact ⟨none, 0, rfl, fun _ _ _ => Sl.nil _ _ _, hx⟩
  · exact ⟨_, c, rfl, fun w2 hs hk => hr.sl.reach hs hk (fun a ha hlt => by cases ha; exact ⟨hg, hlt⟩), hx⟩
theorem natsM_get {l : List Nat} {k : Nat} (h : k < l.length) : (nats l)[k]? = some (.int .i64 ((l.getD k 0 : Nat) : Int)) := nats_get h
/-- what mono.bits makes of truths -/
def MbP (L : List Nat) (S : Nat → Prop) (w : World) (e : Ending) (w' : World) : Prop := ∃ q, e = .returned (.tuple #[q, .int .i64 0]) ∧ NumS w' q (leastL L) L (fun i => S i ∨ New w.heap.size i) ∧ Ext w w'
section
variable (pv : Value) (b : List Bool) (w : World) (S : Nat → Prop) (hS : BitS w pv b S)
include hS
theorem mbits_1 : Calls Tryd.prog 42 #[.int .i64 1, pv] w (MbP (resM 1 (b.map bitW)) S w) := by
  rw [resM_bits (by omega)]
  have hF := hS.is.flat
  have BS := hS.now
  have E := Ext.refl w
  unfold MbP
  go_enter Tryd.func42, Tryd.ntmps42
  have TB3 : True := trivial
  have TB4 : True := trivial
  go_wp2_with (first | (clear TB3; refine boxsB (v := pv) rfl rfl rfl hF ?_; intro B3 w3 bB3 cB3 XB3 LB3 RB3; have z1 := XB3.size; replace E := E.trans XB3; replace BS := BS.ext XB3; clear RB3) | (clear TB4; refine allocsV rfl rfl ?_; intro B4 w4 bB4 cB4 XB4 LB4 RB4; have z2 := XB4.size; replace E := E.trans XB4; replace BS := BS.ext XB4; replace LB3 := LB3.ext XB4) | (refine loadsB (B := B3) (by rfl) rfl rfl LB3 ?_))
  clear LB3
  refine (VecS.bits_of pv b _ BS.is).mono ?_
  rintro e w43 ⟨q, rfl, hq, x⟩
  have NQ := bits_numS (hq _ BS)
  have Fq := NQ.is.flat
  clear hq
  have z3 := x.size
  replace E := E.trans x
  replace BS := BS.ext x
  replace LB4 := LB4.ext x
  replace RB4 := RB4.ext x
  clear x
  have TG4 : True := trivial
  go_wp2_with (clear TG4; have hRl := (RB4).lt (Nat.zero_lt_succ _); refine storesV (B := B4) rfl rfl rfl (v := q) rfl RB4 Fq ?_; clear LB4; intro s4 G4 LB4 RQ; have z5 := G4.size; replace E := grown_ext E G4 (by omega); replace NQ := NQ.grown G4 (fun h => absurd h.2 (by omega)); clear RB4; have RB4 := RQ; clear RQ hRl; clear RB4)
  refine bodyPost_ret (results_lay2 rfl rfl rfl (ldV LB4)) rfl ?_
  exact ⟨q, rfl, NQ.mono (fun i _ h => .inl h.1), E⟩
theorem mbits_3 : Calls Tryd.prog 42 #[.int .i64 3, pv] w (MbP (resM 3 (b.map bitW)) S w) := by
  rw [resM_bits (by omega)]
  have hF := hS.is.flat
  have BS := hS.now
  have E := Ext.refl w
  unfold MbP
  go_enter Tryd.func42, Tryd.ntmps42
  have TB3 : True := trivial
  have TB4 : True := trivial
  go_wp2_with (first | (clear TB3; refine boxsB (v := pv) rfl rfl rfl hF ?_; intro B3 w3 bB3 cB3 XB3 LB3 RB3; have z1 := XB3.size; replace E := E.trans XB3; replace BS := BS.ext XB3; clear RB3) | (clear TB4; refine allocsV rfl rfl ?_; intro B4 w4 bB4 cB4 XB4 LB4 RB4; have z2 := XB4.size; replace E := E.trans XB4; replace BS := BS.ext XB4; replace LB3 := LB3.ext XB4) | (refine loadsB (B := B3) (by rfl) rfl rfl LB3 ?_))
  clear LB3
  refine (VecS.bits_of pv b _ BS.is).mono ?_
  rintro e w43 ⟨q, rfl, hq, x⟩
  have NQ := bits_numS (hq _ BS)
  have Fq := NQ.is.flat
  clear hq
  have z3 := x.size
  replace E := E.trans x
  replace BS := BS.ext x
  replace LB4 := LB4.ext x
  replace RB4 := RB4.ext x
  clear x
  have TG4 : True := trivial
  go_wp2_with (clear TG4; have hRl := (RB4).lt (Nat.zero_lt_succ _); refine storesV (B := B4) rfl rfl rfl (v := q) rfl RB4 Fq ?_; clear LB4; intro s4 G4 LB4 RQ; have z5 := G4.size; replace E := grown_ext E G4 (by omega); replace NQ := NQ.grown G4 (fun h => absurd h.2 (by omega)); clear RB4; have RB4 := RQ; clear RQ hRl; clear RB4)
  refine bodyPost_ret (results_lay2 rfl rfl rfl (ldV LB4)) rfl ?_
  exact ⟨q, rfl, NQ.mono (fun i _ h => .inl h.1), E⟩
theorem mbits_5 : Calls Tryd.prog 42 #[.int .i64 5, pv] w (MbP (resM 5 (b.map bitW)) S w) := by
  rw [resM_bits (by omega)]
  have hF := hS.is.flat
  have BS := hS.now
  have E := Ext.refl w
  unfold MbP
  go_enter Tryd.func42, Tryd.ntmps42
  have TB3 : True := trivial
  have TB4 : True := trivial
  go_wp2_with (first | (clear TB3; refine boxsB (v := pv) rfl rfl rfl hF ?_; intro B3 w3 bB3 cB3 XB3 LB3 RB3; have z1 := XB3.size; replace E := E.trans XB3; replace BS := BS.ext XB3; clear RB3) | (clear TB4; refine allocsV rfl rfl ?_; intro B4 w4 bB4 cB4 XB4 LB4 RB4; have z2 := XB4.size; replace E := E.trans XB4; replace BS := BS.ext XB4; replace LB3 := LB3.ext XB4) | (refine loadsB (B := B3) (by rfl) rfl rfl LB3 ?_))
  clear LB3
  refine (VecS.bits_of pv b _ BS.is).mono ?_
  rintro e w43 ⟨q, rfl, hq, x⟩
  have NQ := bits_numS (hq _ BS)
  have Fq := NQ.is.flat
  clear hq
  have z3 := x.size
  replace E := E.trans x
  replace BS := BS.ext x
  replace LB4 := LB4.ext x
  replace RB4 := RB4.ext x
  clear x
  have TG4 : True := trivial
  go_wp2_with (clear TG4; have hRl := (RB4).lt (Nat.zero_lt_succ _); refine storesV (B := B4) rfl rfl rfl (v := q) rfl RB4 Fq ?_; clear LB4; intro s4 G4 LB4 RQ; have z5 := G4.size; replace E := grown_ext E G4 (by omega); replace NQ := NQ.grown G4 (fun h => absurd h.2 (by omega)); clear RB4; have RB4 := RQ; clear RQ hRl; clear RB4)
  refine bodyPost_ret (results_lay2 rfl rfl rfl (ldV LB4)) rfl ?_
  exact ⟨q, rfl, NQ.mono (fun i _ h => .inl h.1), E⟩
theorem mbits_6 : Calls Tryd.prog 42 #[.int .i64 6, pv] w (MbP (resM 6 (b.map bitW)) S w) := by
  rw [resM_bits (by omega)]
  have hF := hS.is.flat
  have BS := hS.now
  have E := Ext.refl w
  unfold MbP
  go_enter Tryd.func42, Tryd.ntmps42
  have TB3 : True := trivial
  have TB4 : True := trivial
  go_wp2_with (first | (clear TB3; refine boxsB (v := pv) rfl rfl rfl hF ?_; intro B3 w3 bB3 cB3 XB3 LB3 RB3; have z1 := XB3.size; replace E := E.trans XB3; replace BS := BS.ext XB3; clear RB3) | (clear TB4; refine allocsV rfl rfl ?_; intro B4 w4 bB4 cB4 XB4 LB4 RB4; have z2 := XB4.size; replace E := E.trans XB4; replace BS := BS.ext XB4; replace LB3 := LB3.ext XB4) | (refine loadsB (B := B3) (by rfl) rfl rfl LB3 ?_))
  clear LB3
  refine (VecS.bits_of pv b _ BS.is).mono ?_
  rintro e w43 ⟨q, rfl, hq, x⟩
  have NQ := bits_numS (hq _ BS)
  have Fq := NQ.is.flat
  clear hq
  have z3 := x.size
  replace E := E.trans x
  replace BS := BS.ext x
  replace LB4 := LB4.ext x
  replace RB4 := RB4.ext x
  clear x
  have TG4 : True := trivial
  go_wp2_with (clear TG4; have hRl := (RB4).lt (Nat.zero_lt_succ _); refine storesV (B := B4) rfl rfl rfl (v := q) rfl RB4 Fq ?_; clear LB4; intro s4 G4 LB4 RQ; have z5 := G4.size; replace E := grown_ext E G4 (by omega); replace NQ := NQ.grown G4 (fun h => absurd h.2 (by omega)); clear RB4; have RB4 := RQ; clear RQ hRl; clear RB4)
  refine bodyPost_ret (results_lay2 rfl rfl rfl (ldV LB4)) rfl ?_
  exact ⟨q, rfl, NQ.mono (fun i _ h => .inl h.1), E⟩
theorem mbits_7 : Calls Tryd.prog 42 #[.int .i64 7, pv] w (MbP (resM 7 (b.map bitW)) S w) := by
  rw [resM_bits (by omega)]
  have hF := hS.is.flat
  have BS := hS.now
  have E := Ext.refl w
  unfold MbP
  go_enter Tryd.func42, Tryd.ntmps42
  have TB3 : True := trivial
  have TB4 : True := trivial
  go_wp2_with (first | (clear TB3; refine boxsB (v := pv) rfl rfl rfl hF ?_; intro B3 w3 bB3 cB3 XB3 LB3 RB3; have z1 := XB3.size; replace E := E.trans XB3; replace BS := BS.ext XB3; clear RB3) | (clear TB4; refine allocsV rfl rfl ?_; intro B4 w4 bB4 cB4 XB4 LB4 RB4; have z2 := XB4.size; replace E := E.trans XB4; replace BS := BS.ext XB4; replace LB3 := LB3.ext XB4) | (refine loadsB (B := B3) (by rfl) rfl rfl LB3 ?_))
  clear LB3
  refine (VecS.bits_of pv b _ BS.is).mono ?_
  rintro e w43 ⟨q, rfl, hq, x⟩
  have NQ := bits_numS (hq _ BS)
  have Fq := NQ.is.flat
  clear hq
  have z3 := x.size
  replace E := E.trans x
  replace BS := BS.ext x
  replace LB4 := LB4.ext x
  replace RB4 := RB4.ext x
  clear x
  have TG4 : True := trivial
  go_wp2_with (clear TG4; have hRl := (RB4).lt (Nat.zero_lt_succ _); refine storesV (B := B4) rfl rfl rfl (v := q) rfl RB4 Fq ?_; clear LB4; intro s4 G4 LB4 RQ; have z5 := G4.size; replace E := grown_ext E G4 (by omega); replace NQ := NQ.grown G4 (fun h => absurd h.2 (by omega)); clear RB4; have RB4 := RQ; clear RQ hRl; clear RB4)
  refine bodyPost_ret (results_lay2 rfl rfl rfl (ldV LB4)) rfl ?_
  exact ⟨q, rfl, NQ.mono (fun i _ h => .inl h.1), E⟩
theorem mbits_4 (h : ¬ cnt b b.length < b.length) : Calls Tryd.prog 42 #[.int .i64 4, pv] w (MbP (resM 4 (b.map bitW)) S w) := by
  rw [(res4_bits h).1]
  have hF := hS.is.flat
  have BS := hS.now
  have E := Ext.refl w
  unfold MbP
  have cc := fun w hv => count_any pv b w hv
  have cl := fun w hv => blen_any pv b w hv
  have e21 : decide (cnt b b.length < b.length) = false := decide_eq_false h
  clear h
  generalize cnt b b.length = m at *
  generalize hL : b.length = n at *
  clear hL
  go_enter Tryd.func42, Tryd.ntmps42
  have TB3 : True := trivial
  have TB4 : True := trivial
  go_wp2_with (first | (clear TB3; refine boxsB (v := pv) rfl rfl rfl hF ?_; intro B3 w3 bB3 cB3 XB3 LB3 RB3; have z1 := XB3.size; replace E := E.trans XB3; replace BS := BS.ext XB3; clear RB3) | (clear TB4; refine allocsV rfl rfl ?_; intro B4 w4 bB4 cB4 XB4 LB4 RB4; have z2 := XB4.size; replace E := E.trans XB4; replace BS := BS.ext XB4; replace LB3 := LB3.ext XB4))
  try simp only [Act.put, List.setIfInBounds_toArray, List.set_cons_zero, List.set_cons_succ]
  have hq3 : w4.heap.size ≤ w4.drew.heap.size := Nat.le_refl _
  have z4 := (Ext.refl w4).drew.size
  replace E := E.trans (Ext.refl w4).drew
  replace BS := BS.ext (Ext.refl w4).drew
  replace LB3 := LB3.ext (Ext.refl w4).drew
  replace LB4 := LB4.ext (Ext.refl w4).drew
  replace RB4 := RB4.ext (Ext.refl w4).drew
  refine wp_region_held_drew (S := (fun w' => Lay 2 w' B3 pv)) (by kernel_rfl) LB3 (fun hHeld => ?_)
  refine wpAnyH_take (i := 0) (oi := { dst := some 17, op := Go.Op.load 38 (Go.Operand.tmp 3), type := 38, pos := "mono.go:99", after := #[], guard := none }) (v := pv) rfl (by kernel_rfl) (by kernel_rfl) (by kernel_rfl) (fun _ _ _ h => h) (yieldB (by rfl) rfl rfl fun w' hx => hx) hHeld ?_
  try simp only [Act.put, List.setIfInBounds_toArray, List.set_cons_zero, List.set_cons_succ]
  refine wpAnyH_take (i := 2) (oi := { dst := some 19, op := Go.Op.load 38 (Go.Operand.tmp 3), type := 38, pos := "mono.go:99", after := #[], guard := none }) (v := pv) rfl (by kernel_rfl) (by kernel_rfl) (by kernel_rfl) (fun _ _ _ h => h) (yieldB (by rfl) rfl rfl fun w' hx => hx) hHeld ?_
  try simp only [Act.put, List.setIfInBounds_toArray, List.set_cons_zero, List.set_cons_succ]
  refine wpAnyH_ready (rs := [1]) (by kernel_rfl) (by simp) ?_
  refine AllReadyH.cons (o := { dst := some 18, op := Go.Op.call { callee := Go.Callee.value (Go.Operand.func 63), args := #[Go.Operand.tmp 17], argTypes := #[38] }, type := 3, pos := "mono.go:99", after := #[{ on := 0, ground := Go.Ground.data }], guard := none }) rfl (fun K hK => ?_) (AllReadyH.nil)
  go_simp
  refine (cc _ BS.is).mono ?_
  rintro e w18 ⟨rfl, x⟩
  have z7 := x.size
  replace E := E.trans x
  replace BS := BS.ext x
  replace LB3 := LB3.ext x
  replace LB4 := LB4.ext x
  replace RB4 := RB4.ext x
  clear x
  clear hHeld
  have hHeld := LB3
  refine hK.out _ _ hHeld (fun _ => ?_)
  clear hK K
  try simp only [Act.put, List.setIfInBounds_toArray, List.set_cons_zero, List.set_cons_succ]
  refine wpAnyH_ready (rs := [3]) (by kernel_rfl) (by simp) ?_
  refine AllReadyH.cons (o := { dst := some 20, op := Go.Op.call { callee := Go.Callee.value (Go.Operand.func 64), args := #[Go.Operand.tmp 19], argTypes := #[38] }, type := 3, pos := "mono.go:99", after := #[{ on := 2, ground := Go.Ground.data }, { on := 1, ground := Go.Ground.chain }], guard := none }) rfl (fun K hK => ?_) (AllReadyH.nil)
  go_simp
  refine (cl _ BS.is).mono ?_
  rintro e w20 ⟨rfl, x⟩
  have z8 := x.size
  replace E := E.trans x
  replace BS := BS.ext x
  replace LB3 := LB3.ext x
  replace LB4 := LB4.ext x
  replace RB4 := RB4.ext x
  clear x
  clear hHeld
  have hHeld := LB3
  refine hK.out _ _ hHeld (fun _ => ?_)
  clear hK K
  try simp only [Act.put, List.setIfInBounds_toArray, List.set_cons_zero, List.set_cons_succ]
  refine wpAnyH_take (i := 4) (oi := { dst := some 21, op := Go.Op.binOp Go.BinOp.lss 3 (Go.Operand.tmp 18) (Go.Operand.tmp 20) 3, type := 4, pos := "mono.go:99", after := #[{ on := 1, ground := Go.Ground.data }, { on := 3, ground := Go.Ground.data }], guard := none }) (v := ?v9) rfl (by kernel_rfl) (by kernel_rfl) (by kernel_rfl) (fun _ _ _ h => h) (Or.inl ⟨by rfl, ?hy9⟩) hHeld ?rest9
  case hy9 => (intro w hSw; (try dsimp only at hSw); go_simp; (first | done | with_reducible rfl))
  try simp only [Act.put, List.setIfInBounds_toArray, List.set_cons_zero, List.set_cons_succ]
  refine wpAnyH_done (by kernel_rfl) ?_ _
  go_wp2_with (refine loadsB (B := B3) (by rfl) rfl rfl LB3 ?_)
  clear LB3
  refine (VecS.bits_of pv b _ BS.is).mono ?_
  rintro e w43 ⟨q, rfl, hq, x⟩
  have NQ := bits_numS (hq _ BS)
  have Fq := NQ.is.flat
  clear hq
  have z10 := x.size
  replace E := E.trans x
  replace BS := BS.ext x
  replace LB4 := LB4.ext x
  replace RB4 := RB4.ext x
  clear x
  have TG11 : True := trivial
  go_wp2_with (clear TG11; have hRl := (RB4).lt (Nat.zero_lt_succ _); refine storesV (B := B4) rfl rfl rfl (v := q) rfl RB4 Fq ?_; clear LB4; intro s11 G11 LB4 RQ; have z12 := G11.size; replace E := grown_ext E G11 (by omega); replace NQ := NQ.grown G11 (fun h => absurd h.2 (by omega)); clear RB4; have RB4 := RQ; clear RQ hRl; clear RB4)
  refine bodyPost_ret (results_lay2 rfl rfl rfl (ldV LB4)) rfl ?_
  exact ⟨q, rfl, NQ.mono (fun i _ h => .inl h.1), E⟩
theorem mbits_4e (h : cnt b b.length < b.length) : Calls Tryd.prog 42 #[.int .i64 4, pv] w fun e w' => e = .returned (.tuple #[zeroVec, .int .i64 24]) ∧ Ext w w' := by
  have hF := hS.is.flat
  have BS := hS.now
  have E := Ext.refl w
  have cc := fun w hv => count_any pv b w hv
  have cl := fun w hv => blen_any pv b w hv
  have e21 : decide (cnt b b.length < b.length) = true := decide_eq_true h
  clear h
  generalize cnt b b.length = m at *
  generalize hL : b.length = n at *
  clear hL
  go_enter Tryd.func42, Tryd.ntmps42
  have TB3 : True := trivial
  have TB4 : True := trivial
  go_wp2_with (first | (clear TB3; refine boxsB (v := pv) rfl rfl rfl hF ?_; intro B3 w3 bB3 cB3 XB3 LB3 RB3; have z1 := XB3.size; replace E := E.trans XB3; replace BS := BS.ext XB3; clear RB3) | (clear TB4; refine allocsV rfl rfl ?_; intro B4 w4 bB4 cB4 XB4 LB4 RB4; have z2 := XB4.size; replace E := E.trans XB4; replace BS := BS.ext XB4; replace LB3 := LB3.ext XB4))
  try simp only [Act.put, List.setIfInBounds_toArray, List.set_cons_zero, List.set_cons_succ]
  have hq3 : w4.heap.size ≤ w4.drew.heap.size := Nat.le_refl _
  have z4 := (Ext.refl w4).drew.size
  replace E := E.trans (Ext.refl w4).drew
  replace BS := BS.ext (Ext.refl w4).drew
  replace LB3 := LB3.ext (Ext.refl w4).drew
  replace LB4 := LB4.ext (Ext.refl w4).drew
  replace RB4 := RB4.ext (Ext.refl w4).drew
  refine wp_region_held_drew (S := (fun w' => Lay 2 w' B3 pv)) (by kernel_rfl) LB3 (fun hHeld => ?_)
  refine wpAnyH_take (i := 0) (oi := { dst := some 17, op := Go.Op.load 38 (Go.Operand.tmp 3), type := 38, pos := "mono.go:99", after := #[], guard := none }) (v := pv) rfl (by kernel_rfl) (by kernel_rfl) (by kernel_rfl) (fun _ _ _ h => h) (yieldB (by rfl) rfl rfl fun w' hx => hx) hHeld ?_
  try simp only [Act.put, List.setIfInBounds_toArray, List.set_cons_zero, List.set_cons_succ]
  refine wpAnyH_take (i := 2) (oi := { dst := some 19, op := Go.Op.load 38 (Go.Operand.tmp 3), type := 38, pos := "mono.go:99", after := #[], guard := none }) (v := pv) rfl (by kernel_rfl) (by kernel_rfl) (by kernel_rfl) (fun _ _ _ h => h) (yieldB (by rfl) rfl rfl fun w' hx => hx) hHeld ?_
  try simp only [Act.put, List.setIfInBounds_toArray, List.set_cons_zero, List.set_cons_succ]
  refine wpAnyH_ready (rs := [1]) (by kernel_rfl) (by simp) ?_
  refine AllReadyH.cons (o := { dst := some 18, op := Go.Op.call { callee := Go.Callee.value (Go.Operand.func 63), args := #[Go.Operand.tmp 17], argTypes := #[38] }, type := 3, pos := "mono.go:99", after := #[{ on := 0, ground := Go.Ground.data }], guard := none }) rfl (fun K hK => ?_) (AllReadyH.nil)
  go_simp
  refine (cc _ BS.is).mono ?_
  rintro e w18 ⟨rfl, x⟩
  have z7 := x.size
  replace E := E.trans x
  replace BS := BS.ext x
  replace LB3 := LB3.ext x
  replace LB4 := LB4.ext x
  replace RB4 := RB4.ext x
  clear x
  clear hHeld
  have hHeld := LB3
  refine hK.out _ _ hHeld (fun _ => ?_)
  clear hK K
  try simp only [Act.put, List.setIfInBounds_toArray, List.set_cons_zero, List.set_cons_succ]
  refine wpAnyH_ready (rs := [3]) (by kernel_rfl) (by simp) ?_
  refine AllReadyH.cons (o := { dst := some 20, op := Go.Op.call { callee := Go.Callee.value (Go.Operand.func 64), args := #[Go.Operand.tmp 19], argTypes := #[38] }, type := 3, pos := "mono.go:99", after := #[{ on := 2, ground := Go.Ground.data }, { on := 1, ground := Go.Ground.chain }], guard := none }) rfl (fun K hK => ?_) (AllReadyH.nil)
  go_simp
  refine (cl _ BS.is).mono ?_
  rintro e w20 ⟨rfl, x⟩
  have z8 := x.size
  replace E := E.trans x
  replace BS := BS.ext x
  replace LB3 := LB3.ext x
  replace LB4 := LB4.ext x
  replace RB4 := RB4.ext x
  clear x
  clear hHeld
  have hHeld := LB3
  refine hK.out _ _ hHeld (fun _ => ?_)
  clear hK K
  try simp only [Act.put, List.setIfInBounds_toArray, List.set_cons_zero, List.set_cons_succ]
  refine wpAnyH_take (i := 4) (oi := { dst := some 21, op := Go.Op.binOp Go.BinOp.lss 3 (Go.Operand.tmp 18) (Go.Operand.tmp 20) 3, type := 4, pos := "mono.go:99", after := #[{ on := 1, ground := Go.Ground.data }, { on := 3, ground := Go.Ground.data }], guard := none }) (v := ?v9) rfl (by kernel_rfl) (by kernel_rfl) (by kernel_rfl) (fun _ _ _ h => h) (Or.inl ⟨by rfl, ?hy9⟩) hHeld ?rest9
  case hy9 => (intro w hSw; (try dsimp only at hSw); go_simp; (first | done | with_reducible rfl))
  try simp only [Act.put, List.setIfInBounds_toArray, List.set_cons_zero, List.set_cons_succ]
  refine wpAnyH_done (by kernel_rfl) ?_ _
  have TG10 : True := trivial
  go_wp2_with (clear TG10; have hRl := (RB4).lt (Nat.zero_lt_succ _); refine storesV (B := B4) rfl rfl rfl (v := zeroVec) rfl RB4 zeroVec_flat ?_; clear LB4; intro s10 G10 LB4 RQ; have z11 := G10.size; replace E := grown_ext E G10 (by omega); replace BS := BS.grown G10 (fun h => absurd h.2 (by omega)); replace LB3 := LB3.grown G10 (by omega); clear RB4; have RB4 := RQ; clear RQ hRl; clear RB4)
  refine bodyPost_ret (results_lay2 rfl rfl rfl (ldV LB4)) rfl ?_
  exact ⟨rfl, E⟩
theorem mbits_8 : Calls Tryd.prog 42 #[.int .i64 8, pv] w (MbP (resM 8 (b.map bitW)) S w) := by
  rw [resM_not]
  have hF := hS.is.flat
  have BS := hS.now
  have E := Ext.refl w
  unfold MbP
  have cn := fun w hv => not_any pv b w hv
  go_enter Tryd.func42, Tryd.ntmps42
  have TB3 : True := trivial
  have TB4 : True := trivial
  go_wp2_with (first | (clear TB3; refine boxsB (v := pv) rfl rfl rfl hF ?_; intro B3 w3 bB3 cB3 XB3 LB3 RB3; have z1 := XB3.size; replace E := E.trans XB3; replace BS := BS.ext XB3; clear RB3) | (clear TB4; refine allocsV rfl rfl ?_; intro B4 w4 bB4 cB4 XB4 LB4 RB4; have z2 := XB4.size; replace E := E.trans XB4; replace BS := BS.ext XB4; replace LB3 := LB3.ext XB4) | (refine loadsB (B := B3) (by rfl) rfl rfl LB3 ?_))
  clear LB3
  refine (cn _ BS.is).mono ?_
  rintro e w13 ⟨u, rfl, hq, x⟩
  have BU := hq.bs.now
  have Fu := BU.is.flat
  clear hq
  have z3 := x.size
  replace E := E.trans x
  replace BS := BS.ext x
  replace LB4 := LB4.ext x
  replace RB4 := RB4.ext x
  clear x
  go_wp2_with fail
  refine (VecS.bits_of u (notL b) _ BU.is).mono ?_
  rintro e w14 ⟨q, rfl, hq, x⟩
  have NQ := bits_numS (hq _ BU)
  have Fq := NQ.is.flat
  clear hq
  have z4 := x.size
  replace E := E.trans x
  replace BS := BS.ext x
  replace LB4 := LB4.ext x
  replace RB4 := RB4.ext x
  replace BU := BU.ext x
  clear x
  have TG5 : True := trivial
  go_wp2_with (clear TG5; have hRl := (RB4).lt (Nat.zero_lt_succ _); refine storesV (B := B4) rfl rfl rfl (v := q) rfl RB4 Fq ?_; clear LB4; intro s5 G5 LB4 RQ; have z6 := G5.size; replace E := grown_ext E G5 (by omega); replace BS := BS.grown G5 (fun h => absurd h.2 (by omega)); replace NQ := NQ.grown G5 (by first | omega | (dsimp only [New]; omega)); clear RB4; have RB4 := RQ; clear RQ hRl; clear RB4)
  refine bodyPost_ret (results_lay2 rfl rfl rfl (ldV LB4)) rfl ?_
  exact ⟨q, rfl, NQ.mono (fun i hi h => .inr (by dsimp only [New] at *; omega)), E⟩
theorem mbits_2 (ht : Tab w) : Calls Tryd.prog 42 #[.int .i64 2, pv] w (MbP (resM 2 (b.map bitW)) S w) := by
  have hlim := hS.is.1
  obtain ⟨L', hL'⟩ : ∃ L' : List Int, L' = b.map (fun c => if c then -1 else 0) := ⟨_, rfl⟩
  have hRES : (VD.smalls L').nums = resM 2 (b.map bitW) := by rw [hL']; exact resM_neg b
  have hLl : b.length = L'.length := by rw [hL', List.length_map]
  have hLb : ∀ x ∈ L', -128 ≤ x ∧ x ≤ 127 := by
    intro x hx
    rw [hL'] at hx
    obtain ⟨c, _, rfl⟩ := List.mem_map.1 hx
    cases c <;> decide
  have HALL : Hid (negO b.length (onesL b b.length) = i8s L') := by show _ = _; rw [hL']; exact negO_all b
  rw [← hRES]
  have cl := fun w hv => blen_any pv b w hv
  obtain ⟨m, hm⟩ : ∃ m, m = (onesL b b.length).length := ⟨_, rfl⟩
  have HM := Lib.hid hm
  have hm2 : m ≤ 1048576 := by
    rw [hm]
    refine Nat.le_trans ?_ hlim
    unfold onesL
    exact Nat.le_trans (List.length_filter_le _ _) (by simp)
  have co : ∀ w', Ext w w' → IsB w' pv b → Calls Tryd.prog 65 #[pv] w' fun e w2 => ∃ A c, e = .returned (.slice A m c) ∧ SlS w2 1 A m (nats (onesL b b.length)) (fun i => w'.heap.size ≤ i ∧ i < w2.heap.size) ∧ Ext w' w2 := fun w' h hv => ones_sM pv b m hm w' hv (ht.ext h)
  have HMEM : Hid (∀ k, k < m → (onesL b b.length).getD k 0 < b.length) := fun k hk => by
    have : (onesL b b.length).getD k 0 ∈ onesL b b.length := by rw [List.getD_eq_getElem?_getD, List.getElem?_eq_getElem (show k < (onesL b b.length).length by omega)]; exact List.getElem_mem _
    exact ((onesL_mem b _).1 this).1
  have HNS : Hid (∀ k, k < m → (negO b.length ((onesL b b.length).take k)).set ((onesL b b.length).getD k 0) (.int .i8 (-1)) = negO b.length ((onesL b b.length).take (k + 1))) := fun k hk => negO_set _ _ (by omega)
  have HNT : Hid ((onesL b b.length).take m = onesL b b.length) := by show _ = _; rw [hm]; exact List.take_length
  have cs := fun g c w2 (hs : Sl w2 1 (some ⟨g, 0, none⟩) b.length (i8s L')) => smalls_sM (some ⟨g, 0, none⟩) L' b.length hLl hLb c w2 hlim hs
  have cq := fun p w2 h => squeeze_num p 2 (VD.smalls L').nums w2 h
  have hF := hS.is.flat
  have BS := hS.now
  have E := Ext.refl w
  unfold MbP
  clear hS hL' hRES hLl hLb hm ht
  generalize onesL b b.length = ON at *
  generalize hN : b.length = n at *
  clear hN
  have hlim0 : (n : Int) ≤ 1048576 := by omega
  go_enter Tryd.func42, Tryd.ntmps42
  have TB3 : True := trivial
  have TB4 : True := trivial
  go_wp2_with (first | (clear TB3; refine boxsB (v := pv) rfl rfl rfl hF ?_; intro B3 w3 bB3 cB3 XB3 LB3 RB3; have z1 := XB3.size; replace E := E.trans XB3; replace BS := BS.ext XB3; clear RB3) | (clear TB4; refine allocsV rfl rfl ?_; intro B4 w4 bB4 cB4 XB4 LB4 RB4; have z2 := XB4.size; replace E := E.trans XB4; replace BS := BS.ext XB4; replace LB3 := LB3.ext XB4) | (refine loadsB (B := B3) (by rfl) rfl rfl LB3 ?_))
  refine (cl _ BS.is).mono ?_
  rintro e w26 ⟨rfl, x⟩
  have z3 := x.size
  replace E := E.trans x
  replace BS := BS.ext x
  replace LB3 := LB3.ext x
  replace LB4 := LB4.ext x
  replace RB4 := RB4.ext x
  clear x
  have TM27 : True := trivial
  go_wp2_with (first | (clear TM27; refine maker_i8 rfl rfl (n := n) rfl hlim ?_; intro g27 w27 bg27 cg27 X27 Og27; have z4 := X27.size; replace E := E.trans X27; replace BS := BS.ext X27; replace LB3 := LB3.ext X27; replace LB4 := LB4.ext X27; replace RB4 := RB4.ext X27; clear X27) | (refine loadsB (B := B3) (by rfl) rfl rfl LB3 ?_))
  clear LB3
  refine (co _ E BS.is).mono ?_
  rintro e w29 ⟨A29, c29, rfl, hq, x⟩
  have SO := hq
  clear hq
  have z5 := x.size
  replace E := E.trans x
  replace BS := BS.ext x
  replace LB4 := LB4.ext x
  replace RB4 := RB4.ext x
  replace Og27 := Og27.ext x
  clear x
  go_wp2_with fail
  rw [negO_nil] at Og27
  go_loopw [31] (fun i wr => ∃ j : Nat, j ≤ m ∧ i = .int .i64 j ∧ Grw w29 g27 wr ∧ RowO 92 wr g27 n (negO n (ON.take j))) (fun i _ => m - (intOf i).toNat)
  case atStart => exact ⟨0, Nat.zero_le _, rfl, Grw.refl _ _, Og27⟩
  case round =>
    obtain ⟨j, hj, rfl, HG, O2⟩ := hrel
    clear Og27
    have Og27 := O2
    clear O2
    have z6 := HG.out.size
    replace E := grown_ext E HG.out (by omega)
    replace LB4 := LB4.grown HG.out (by omega)
    replace RB4 := RB4.grown HG.out (by omega)
    replace SO := SO.grown HG.out (by first | omega | (dsimp only [New]; omega))
    by_cases hlt : j < m
    · have hq := HMEM.out j hlt
      have HSET := Lib.hid (HNS.out j hlt)
      obtain ⟨ad, u1, e1, -, hu1, D0⟩ := SO.is.at1 hlt
      subst e1
      rw [natsM_get (by rw [← HM.out]; exact hlt)] at hu1
      cases hu1
      generalize ON.getD j 0 = q at *
      have TG7 : True := trivial
      go_wp2_with (clear TG7; have hRl := Og27.lt; refine storesr_i8 rfl rfl (g := g27) (k := q) (n := n) (by rfl) rfl (by rfl) Og27 hq ?_; clear Og27; intro s7 G7 Og27; have z8 := G7.size; replace E := grown_ext E G7 (by omega); replace LB4 := LB4.grown G7 (by omega); replace RB4 := RB4.grown G7 (by omega); replace SO := SO.grown G7 (by first | omega | (dsimp only [New]; omega)); replace HG := HG.grown G7 (by omega); clear hRl G7)
      exact ⟨⟨j + 1, by omega, by go_num, HG, by rw [← HSET.out]; exact Og27⟩, by simp [intOf]; omega⟩
    · have hjm : j = m := by omega
      rw [hjm, HNT.out, HALL.out] at Og27
      clear HG hjm
      go_wp2_with fail
      refine (cs g27 _ _ Og27.sl).mono ?_
      rintro e w40 ⟨p, rfl, hq, x⟩
      clear Og27
      have NP := hq.now
      have Fp := NP.is.flat
      clear hq
      have z9 := x.size
      replace E := E.trans x
      replace LB4 := LB4.ext x
      replace RB4 := RB4.ext x
      replace SO := SO.ext x
      clear x
      go_wp2_with fail
      refine (cq p _ NP.is).mono ?_
      rintro e w41 ⟨q, rfl, hq, x⟩
      have NQ := (hq _ NP).now
      have Fq := NQ.is.flat
      clear hq
      have z10 := x.size
      replace E := E.trans x
      replace LB4 := LB4.ext x
      replace RB4 := RB4.ext x
      replace NP := NP.ext x
      clear x
      have TG11 : True := trivial
      go_wp2_with (clear TG11; have hRl := (RB4).lt (Nat.zero_lt_succ _); refine storesV (B := B4) rfl rfl rfl (v := q) rfl RB4 Fq ?_; clear LB4; intro s11 G11 LB4 RQ; have z12 := G11.size; replace E := grown_ext E G11 (by omega); replace NQ := NQ.grown G11 (by first | omega | (dsimp only [New]; omega)); clear RB4; have RB4 := RQ; clear RQ hRl; clear RB4)
      refine bodyPost_ret (results_lay2 rfl rfl rfl (ldV LB4)) rfl ?_
      exact ⟨q, rfl, NQ.mono (fun i hi h => .inr (by dsimp only [New] at *; omega)), E⟩
end
theorem mkept_any (A : Option Addr) (l : List Nat) (n : Nat) (hn : n = l.length) (ht : ∀ x ∈ l, tidy x) (c : Nat) (w : World) (hl : n ≤ 1048576) (hs : Sl w 1 A n (f64s l)) : Calls Tryd.prog 45 #[.slice A n c] w fun e w' => ∃ q, e = .returned (.tuple #[q, .int .i64 0]) ∧ NumS w' q (leastL l) l (New w.heap.size) ∧ Ext w w' := by
  have cn := fun w hs => numbers_yes A l n hn (fun x hx => (ht x hx).2.1) (List.all_eq_true.2 fun x hx => decide_eq_true (ht x hx).1) c w hl hs
  rw [dnL_tidy_eq ht] at cn
  have HS := Lib.hid hs
  clear hs hn ht
  generalize leastL l = k at *
  have E := Ext.refl w
  go_enter Tryd.func45, Tryd.ntmps45
  have TB2 : True := trivial
  go_wp2_with (clear TB2; refine allocsV rfl rfl ?_; intro B2 w2 bB2 cB2 XB2 LB2 RB2; have z1 := XB2.size; replace E := E.trans XB2)
  refine (cn _ (HS.out.ext E)).mono ?_
  rintro e w8 ⟨p, rfl, hq, x⟩
  have NP := hq.now
  have Fp := NP.is.flat
  clear hq
  have z2 := x.size
  replace E := E.trans x
  replace LB2 := LB2.ext x
  replace RB2 := RB2.ext x
  clear x
  have TB4 : True := trivial
  have TG4 : True := trivial
  have TG6 : True := trivial
  go_wp2_with (first | (clear TB4; refine allocsV rfl rfl ?_; intro B4 w4 bB4 cB4 XB4 LB4 RB4; have z3 := XB4.size; replace E := E.trans XB4; replace LB2 := LB2.ext XB4; replace RB2 := RB2.ext XB4; replace NP := NP.ext XB4) | (clear TG4; have hRl := (RB4).lt (Nat.zero_lt_succ _); refine storesV (B := B4) rfl rfl rfl (v := p) rfl RB4 Fp ?_; clear LB4; intro s4 G4 LB4 RQ; have z5 := G4.size; replace E := grown_ext E G4 (by omega); replace LB2 := LB2.grown G4 (by omega); replace RB2 := RB2.grown G4 (by omega); replace NP := NP.grown G4 (by first | omega | (dsimp only [New]; omega)); clear RB4; have RB4 := RQ; clear RQ hRl; clear RB4) | (refine loadsV (B := B4) (by rfl) rfl rfl LB4 ?_) | (clear TG6; have hRl := (RB2).lt (Nat.zero_lt_succ _); refine storesV (B := B2) rfl rfl rfl (v := p) rfl RB2 Fp ?_; clear LB2; intro s6 G6 LB2 RQ; have z7 := G6.size; replace E := grown_ext E G6 (by omega); replace NP := NP.grown G6 (by first | omega | (dsimp only [New]; omega)); replace LB4 := LB4.grown G6 (by omega); clear RB2; have RB2 := RQ; clear RQ hRl; clear RB2))
  refine bodyPost_ret (results_lay2 rfl rfl rfl (ldV LB2)) rfl ?_
  exact ⟨p, rfl, NP.mono (fun i hi h => by dsimp only [New] at *; omega), E⟩
end Go.Proofs.YtidnikndjhfgaaaDoor
