/- arith.wholes. -/
import Derived.Test.YtidnikndjhfgaaaSb
namespace Go.Proofs.Ytidnikndjhfgaaa
open Go.ChangeShapes Go.WideShapes Go.RowKit Bv Fl
def pkI (x : List Int) (k : Nat) : Int := x.getD (ixN x.length k) 0
def resI (f : Int) (x y : List Int) (N : Nat) : List Int := (List.range N).map fun k => whV f (pkI x k) (pkI y k)
theorem resI_length (f : Int) (x y : List Int) (N : Nat) : (resI f x y N).length = N := by simp [resI]
theorem resI_row (f : Int) (x y : List Int) (N : Nat) : i64s (resI f x y N) = fillL (fun k => .int .i64 (whV f (pkI x k) (pkI y k))) (.int .i64 0) N N := by
  rw [fillL_full]; simp [i64s, resI]
def whF (f : Int) : Prop := f = 1 ∨ f = 2 ∨ f = 3 ∨ f = 5 ∨ f = 6 ∨ f = 7
theorem valA_1 (a b : Nat) : valA 1 a b = dn (fadd a b) ∧ errA 1 a b = de (fadd a b) := by unfold valA errA; rw [if_pos rfl, if_pos rfl]; exact ⟨rfl, rfl⟩
theorem valA_2 (a b : Nat) : valA 2 a b = dn (fsub a b) ∧ errA 2 a b = de (fsub a b) := by
  unfold valA errA
  rw [if_neg (by decide), if_pos rfl, if_neg (by decide), if_pos rfl]; exact ⟨rfl, rfl⟩
theorem valA_3 (a b : Nat) : valA 3 a b = dn (fmul a b) ∧ errA 3 a b = de (fmul a b) := by
  unfold valA errA
  rw [if_neg (by decide), if_neg (by decide), if_pos rfl, if_neg (by decide), if_neg (by decide), if_pos rfl]; exact ⟨rfl, rfl⟩
theorem valA_5 (a b : Nat) : valA 5 a b = fmax a b ∧ errA 5 a b = 0 := by
  unfold valA errA
  rw [if_neg (by decide), if_neg (by decide), if_neg (by decide), if_neg (by decide), if_pos rfl, if_neg (by decide), if_neg (by decide), if_neg (by decide), if_neg (by decide), if_pos rfl]; exact ⟨rfl, rfl⟩
theorem valA_6 (a b : Nat) : valA 6 a b = fmin a b ∧ errA 6 a b = 0 := by
  unfold valA errA
  rw [if_neg (by decide), if_neg (by decide), if_neg (by decide), if_neg (by decide), if_neg (by decide), if_pos rfl, if_neg (by decide), if_neg (by decide), if_neg (by decide), if_neg (by decide), if_neg (by decide), if_pos rfl]; exact ⟨rfl, rfl⟩
theorem valA_7 (a b : Nat) : valA 7 a b = rsN a b ∧ errA 7 a b = rsE a b := by
  unfold valA errA
  rw [if_neg (by decide), if_neg (by decide), if_neg (by decide), if_neg (by decide), if_neg (by decide), if_neg (by decide), if_pos rfl, if_neg (by decide), if_neg (by decide), if_neg (by decide), if_neg (by decide), if_neg (by decide), if_neg (by decide), if_pos rfl]; exact ⟨rfl, rfl⟩
theorem whV_1 (a b : Int) : whV 1 a b = gN (a + b) ∧ whO 1 a b = decide (G (a + b)) := by unfold whV whO; rw [if_pos rfl, if_pos rfl]; exact ⟨rfl, rfl⟩
theorem whV_2 (a b : Int) : whV 2 a b = gN (a - b) ∧ whO 2 a b = decide (G (a - b)) := by unfold whV whO; rw [if_neg (by decide), if_pos rfl, if_neg (by decide), if_pos rfl]; exact ⟨rfl, rfl⟩
theorem whV_3 (a b : Int) : whV 3 a b = gN (a * b) ∧ whO 3 a b = decide (G (a * b)) := by unfold whV whO; rw [if_neg (by decide), if_neg (by decide), if_pos rfl, if_neg (by decide), if_neg (by decide), if_pos rfl]; exact ⟨rfl, rfl⟩
theorem whV_5 (a b : Int) : whV 5 a b = max a b := by unfold whV; rw [if_neg (by decide), if_neg (by decide), if_neg (by decide), if_pos rfl]
theorem whV_6 (a b : Int) : whV 6 a b = min a b := by unfold whV; rw [if_neg (by decide), if_neg (by decide), if_neg (by decide), if_neg (by decide), if_pos rfl]
theorem whV_7 (a b : Int) : whV 7 a b = restI a b := by unfold whV; rw [if_neg (by decide), if_neg (by decide), if_neg (by decide), if_neg (by decide), if_neg (by decide)]
theorem whV_G {f : Int} (hf : whF f) {a b : Int} (ha : G a) (hb : G b) (ho : whO f a b = true) : G (whV f a b) := by
  rcases hf with rfl | rfl | rfl | rfl | rfl | rfl
  · rw [(whV_1 a b).2] at ho
    have h := of_decide_eq_true ho
    rw [(whV_1 a b).1, show gN (a + b) = a + b from if_pos h]; exact h
  · rw [(whV_2 a b).2] at ho
    have h := of_decide_eq_true ho
    rw [(whV_2 a b).1, show gN (a - b) = a - b from if_pos h]; exact h
  · rw [(whV_3 a b).2] at ho
    have h := of_decide_eq_true ho
    rw [(whV_3 a b).1, show gN (a * b) = a * b from if_pos h]; exact h
  · rw [whV_5]; unfold G at *; omega
  · rw [whV_6]; unfold G at *; omega
  · rw [whV_7]; exact restI_le ha hb
/-- the floats' way of it -/
theorem wh_val {f : Int} (hf : whF f) {a b : Int} (ha : G a) (hb : G b) (ho : whO f a b = true) : valA f (fi a) (fi b) = fi (whV f a b) ∧ errA f (fi a) (fi b) = 0 := by
  have fa := fi_fin ha.1 ha.2
  have fb := fi_fin hb.1 hb.2
  rcases hf with rfl | rfl | rfl | rfl | rfl | rfl
  · rw [(whV_1 a b).2] at ho
    have h : G (a + b) := of_decide_eq_true ho
    rw [(valA_1 _ _).1, (valA_1 _ _).2, (whV_1 a b).1, show gN (a + b) = a + b from if_pos h]
    exact fi_way' (add_some fa fb).2.2 h (fadd_fi ha.1 ha.2 hb.1 hb.2 h.1 h.2)
  · rw [(whV_2 a b).2] at ho
    have h : G (a - b) := of_decide_eq_true ho
    rw [(valA_2 _ _).1, (valA_2 _ _).2, (whV_2 a b).1, show gN (a - b) = a - b from if_pos h]
    exact fi_way' (sub_some fa fb).2.2 h (fsub_fi ha.1 ha.2 hb.1 hb.2 h.1 h.2)
  · rw [(whV_3 a b).2] at ho
    have h : G (a * b) := of_decide_eq_true ho
    rw [(valA_3 _ _).1, (valA_3 _ _).2, (whV_3 a b).1, show gN (a * b) = a * b from if_pos h]
    exact fi_way' (mul_some fa fb).2.2 h (fmul_fi ha.1 ha.2 hb.1 hb.2 h.1 h.2)
  · rw [(valA_5 _ _).1, (valA_5 _ _).2, whV_5]
    refine ⟨?_, rfl⟩
    have := @fi_lt a b ha.1 ha.2 hb.1 hb.2
    unfold fmax
    by_cases h : a < b
    · rw [if_pos (this.2 h), show max a b = b by omega]
    · rw [if_neg (fun h' => h (this.1 h')), show max a b = a by omega]
  · rw [(valA_6 _ _).1, (valA_6 _ _).2, whV_6]
    refine ⟨?_, rfl⟩
    have := @fi_lt b a hb.1 hb.2 ha.1 ha.2
    unfold fmin
    by_cases h : b < a
    · rw [if_pos (this.2 h), show min a b = b by omega]
    · rw [if_neg (fun h' => h (this.1 h')), show min a b = a by omega]
  · rw [(valA_7 _ _).1, (valA_7 _ _).2, whV_7]
    have wa := whole_fi ha.1 ha.2
    have wb := whole_fi hb.1 hb.2
    unfold rsN rsE
    rw [if_pos ⟨wa, wb⟩, if_pos ⟨wa, wb⟩, trn_fi ha.1 ha.2, trn_fi hb.1 hb.2]
    exact ⟨rfl, rfl⟩
theorem ints_nums (l : List Int) : (VD.ints l).nums = l.map fi := by
  apply List.ext_getElem (by rw [VD.nums_length, List.length_map]; rfl)
  intro j h1 h2
  have hj : j < l.length := by rw [List.length_map] at h2; exact h2
  simp only [VD.nums, List.getElem_map, List.getElem_range]
  show fi (l.getD j 0) = fi l[j]
  rw [show l.getD j 0 = l[j] by simp [List.getD, hj]]
theorem pk_toI {x : List Nat} {N k : Nat} (hw : ∀ i ∈ x, tidy i ∧ whole i) (hx : x.length = N ∨ x.length = 1) (hk : k < N) : pkN x k = fi (pkI (toI x) k) ∧ G (pkI (toI x) k) := by
  have hj := ixN_lt hx hk
  have h := hw _ (getD_memN hj)
  unfold pkN pkI
  rw [toI_length, toI_get hj]
  exact ⟨whole_tidy h.2 h.1, trn_le h.2.1⟩
theorem res_wh {f : Int} (hf : whF f) {x y : List Nat} {N : Nat} (hx : ∀ i ∈ x, tidy i ∧ whole i) (hy : ∀ i ∈ y, tidy i ∧ whole i) (lx : x.length = N ∨ x.length = 1) (ly : y.length = N ∨ y.length = 1) (ho : ∀ k, k < N → whO f (pkI (toI x) k) (pkI (toI y) k) = true) :
    (VD.ints (resI f (toI x) (toI y) N)).nums = resL f x y N ∧ errF f x y N = 0 ∧ allG (resI f (toI x) (toI y) N) = true := by
  have h := fun k hk => wh_val hf (pk_toI hx lx hk).2 (pk_toI hy ly hk).2 (ho k hk)
  have hg := fun k hk => whV_G hf (pk_toI hx lx hk).2 (pk_toI hy ly hk).2 (ho k hk)
  refine ⟨?_, errF_of fun j hj => ?_, ?_⟩
  · rw [ints_nums]
    unfold resI resL
    rw [List.map_map]
    apply List.map_congr_left
    intro k hk
    have hk := List.mem_range.1 hk
    show fi (whV f (pkI (toI x) k) (pkI (toI y) k)) = _
    rw [(pk_toI hx lx hk).1, (pk_toI hy ly hk).1, (h k hk).1]
  · rw [(pk_toI hx lx hj).1, (pk_toI hy ly hj).1, (h j hj).2]
  · unfold allG
    rw [List.all_eq_true]
    intro z hz
    simp only [resI, List.mem_map, List.mem_range] at hz
    obtain ⟨k, hk, rfl⟩ := hz
    exact decide_eq_true (hg k hk)
set_option maxHeartbeats 2000000
set_option maxRecDepth 100000
def WholesP (b : Bool) (L : List Nat) (w : World) (e : Ending) (w' : World) : Prop := ∃ p, e = .returned (.tuple #[p, .bool b]) ∧ Flat 8 p ∧ (b = true → NumS w' p (leastL L) L (New w.heap.size)) ∧ Ext w w'
/-- does it go in whole numbers? -/
def whA (f : Int) (x y : List Int) : Nat → Bool
  | 0 => true
  | k + 1 => whA f x y k && whO f (pkI x k) (pkI y k)
theorem whA_all {f : Int} {x y : List Int} {k : Nat} (h : whA f x y k = true) : ∀ j, j < k → whO f (pkI x j) (pkI y j) = true := by
  induction k with
  | zero => intro j hj; omega
  | succ k ih =>
    unfold whA at h
    rw [Bool.and_eq_true] at h
    intro j hj
    by_cases e : j = k
    · subst e; exact h.2
    · exact ih h.1 j (by omega)
theorem whA_stay {f : Int} {x y : List Int} {k n : Nat} (h : whA f x y k = false) (hk : k ≤ n) : whA f x y n = false := by
  induction hk with
  | refl => exact h
  | step _ ih => show (_ && _) = false; rw [ih]; rfl
theorem wholes_four (f : Int) (v u : Value) (J : Nat) (x y : List Nat) (N : Int) (w : World) (hv : IsNum w v 4 x) (hu : IsNum w u J y) : Calls Try.prog 69 #[.int .i64 f, .int .i64 N, v, u] w fun e w' => e = .returned (.tuple #[zeroVec, .bool false]) ∧ Ext w w' := by
  have hF := hv.flat
  have hG := hu.flat
  have NV := NumS.all hv
  have NU := NumS.all hu
  have ca := fun w h => nwholes_four v x w h
  have cb : ∀ w, IsNum w u J y → Calls Try.prog 93 #[u] w fun e w' => ∃ P m c b, e = .returned (.tuple #[.slice P m c, .bool b]) ∧ Ext w w' := fun w h => by
    by_cases hJ : J ≤ 3
    · refine (nwholes_any u J y w h hJ).mono ?_
      rintro e w' ⟨v', rfl, ho, hx⟩
      obtain ⟨B, cb, rfl, -, -⟩ := own_form ho
      exact ⟨_, _, _, _, rfl, hx⟩
    · obtain rfl : J = 4 := by have := h.choose_spec.2.2.2.1; omega
      refine (nwholes_four u y w h).mono ?_
      rintro e w' ⟨rfl, hx⟩
      exact ⟨_, _, _, _, rfl, hx⟩
  clear hv hu
  have E := Ext.refl w
  go_enter Try.func69, Try.ntmps69
  have TB6 : True := trivial
  have TB7 : True := trivial
  have TB8 : True := trivial
  go_wp2_with (first | (clear TB6; refine boxsV (v := v) rfl rfl rfl hF ?_; intro B6 w6 bB6 cB6 XB6 LB6 RB6; have z1 := XB6.size; replace E := E.trans XB6; replace NV := NV.ext XB6; replace NU := NU.ext XB6; clear RB6) | (clear TB7; refine boxsV (v := u) rfl rfl rfl hG ?_; intro B7 w7 bB7 cB7 XB7 LB7 RB7; have z2 := XB7.size; replace E := E.trans XB7; replace NV := NV.ext XB7; replace NU := NU.ext XB7; replace LB6 := LB6.ext XB7; clear RB7) | (clear TB8; refine allocsV rfl rfl ?_; intro B8 w8 bB8 cB8 XB8 LB8 RB8; have z3 := XB8.size; replace E := E.trans XB8; replace NV := NV.ext XB8; replace NU := NU.ext XB8; replace LB6 := LB6.ext XB8; replace LB7 := LB7.ext XB8) | (refine loadsV (B := B6) (by rfl) rfl rfl LB6 ?_))
  clear LB6
  refine (ca _ NV.is).mono ?_
  rintro e w21 ⟨rfl, x'⟩
  have z4 := x'.size
  replace E := E.trans x'
  replace NV := NV.ext x'
  replace NU := NU.ext x'
  replace LB7 := LB7.ext x'
  replace LB8 := LB8.ext x'
  replace RB8 := RB8.ext x'
  clear x'
  go_wp2_with (refine loadsV (B := B7) (by rfl) rfl rfl LB7 ?_)
  clear LB7
  refine (cb _ NU.is).mono ?_
  rintro e w26 ⟨P, m, c, t, rfl, x'⟩
  have z5 := x'.size
  replace E := E.trans x'
  replace NV := NV.ext x'
  replace NU := NU.ext x'
  replace LB8 := LB8.ext x'
  replace RB8 := RB8.ext x'
  clear x'
  have TG6 : True := trivial
  go_wp2_with (clear TG6; have hRl := (RB8).lt (Nat.zero_lt_succ _); refine storesV (B := B8) rfl rfl rfl (v := zeroVec) rfl RB8 zeroVec_flat ?_; clear LB8; intro s6 G6 LB8 RQ; have z7 := G6.size; replace E := grown_ext E G6 (by omega); replace NV := NV.grown G6 (by omega); replace NU := NU.grown G6 (by omega); clear RB8; have RB8 := RQ; clear RQ hRl; clear RB8)
  refine bodyPost_ret (results_lay2 rfl rfl rfl (ldV LB8)) rfl ?_
  exact ⟨rfl, E⟩
theorem wholes_two (f : Int) (v u : Value) (K : Nat) (hK : K ≤ 3) (x y : List Nat) (N : Int) (w : World) (hv : IsNum w v K x) (hu : IsNum w u 4 y) : Calls Try.prog 69 #[.int .i64 f, .int .i64 N, v, u] w fun e w' => e = .returned (.tuple #[zeroVec, .bool false]) ∧ Ext w w' := by
  have hF := hv.flat
  have hG := hu.flat
  have NV := NumS.all hv
  have NU := NumS.all hu
  have cb := fun w h => nwholes_four u y w h
  have ca : ∀ w, IsNum w v K x → Calls Try.prog 93 #[v] w fun e w' => ∃ P m c, e = .returned (.tuple #[.slice P m c, .bool true]) ∧ Ext w w' := fun w h => by
    refine (nwholes_any v K x w h hK).mono ?_
    rintro e w' ⟨v', rfl, ho, hx⟩
    obtain ⟨B, cb, rfl, -, -⟩ := own_form ho
    exact ⟨_, _, _, rfl, hx⟩
  clear hv hu hK
  have E := Ext.refl w
  go_enter Try.func69, Try.ntmps69
  have TB6 : True := trivial
  have TB7 : True := trivial
  have TB8 : True := trivial
  go_wp2_with (first | (clear TB6; refine boxsV (v := v) rfl rfl rfl hF ?_; intro B6 w6 bB6 cB6 XB6 LB6 RB6; have z1 := XB6.size; replace E := E.trans XB6; replace NV := NV.ext XB6; replace NU := NU.ext XB6; clear RB6) | (clear TB7; refine boxsV (v := u) rfl rfl rfl hG ?_; intro B7 w7 bB7 cB7 XB7 LB7 RB7; have z2 := XB7.size; replace E := E.trans XB7; replace NV := NV.ext XB7; replace NU := NU.ext XB7; replace LB6 := LB6.ext XB7; clear RB7) | (clear TB8; refine allocsV rfl rfl ?_; intro B8 w8 bB8 cB8 XB8 LB8 RB8; have z3 := XB8.size; replace E := E.trans XB8; replace NV := NV.ext XB8; replace NU := NU.ext XB8; replace LB6 := LB6.ext XB8; replace LB7 := LB7.ext XB8) | (refine loadsV (B := B6) (by rfl) rfl rfl LB6 ?_))
  clear LB6
  refine (ca _ NV.is).mono ?_
  rintro e w21 ⟨P, m, c, rfl, x'⟩
  have z4 := x'.size
  replace E := E.trans x'
  replace NV := NV.ext x'
  replace NU := NU.ext x'
  replace LB7 := LB7.ext x'
  replace LB8 := LB8.ext x'
  replace RB8 := RB8.ext x'
  clear x'
  go_wp2_with (refine loadsV (B := B7) (by rfl) rfl rfl LB7 ?_)
  clear LB7
  refine (cb _ NU.is).mono ?_
  rintro e w26 ⟨rfl, x'⟩
  have z5 := x'.size
  replace E := E.trans x'
  replace NV := NV.ext x'
  replace NU := NU.ext x'
  replace LB8 := LB8.ext x'
  replace RB8 := RB8.ext x'
  clear x'
  have TG6 : True := trivial
  go_wp2_with (clear TG6; have hRl := (RB8).lt (Nat.zero_lt_succ _); refine storesV (B := B8) rfl rfl rfl (v := zeroVec) rfl RB8 zeroVec_flat ?_; clear LB8; intro s6 G6 LB8 RQ; have z7 := G6.size; replace E := grown_ext E G6 (by omega); replace NV := NV.grown G6 (by omega); replace NU := NU.grown G6 (by omega); clear RB8; have RB8 := RQ; clear RQ hRl; clear RB8)
  refine bodyPost_ret (results_lay2 rfl rfl rfl (ldV LB8)) rfl ?_
  exact ⟨rfl, E⟩
theorem num_whole {w : World} {v : Value} {k : Nat} {l : List Nat} (h : IsNum w v k l) (hk : k ≤ 3) : ∀ i ∈ l, tidy i ∧ whole i := fun i hi => ⟨h.tidy i hi, of_decide_eq_true (List.all_eq_true.1 (leastL_le3.1 (Nat.le_trans h.least hk)) i hi)⟩
theorem i64s_get' {l : List Int} {k : Nat} (h : k < l.length) : (i64s l)[k]? = some (.int .i64 (l.getD k 0)) := i64s_get h
theorem split_wh (A B C : Prop) (D : Bool) : (A ∧ B ∧ C ∧ D = true) ∨ (A ∧ B ∧ C ∧ D = false) ∨ (A ∧ B ∧ ¬C ∧ D = true) ∨ (A ∧ B ∧ ¬C ∧ D = false) ∨ (A ∧ ¬B ∧ C ∧ D = true) ∨ (A ∧ ¬B ∧ C ∧ D = false) ∨ (A ∧ ¬B ∧ ¬C ∧ D = true) ∨ (A ∧ ¬B ∧ ¬C ∧ D = false) ∨ ¬A := by
  cases D <;> by_cases a : A <;> by_cases b : B <;> by_cases c : C <;> simp [a, b, c]
theorem vints_s (A : Option Addr) (l : List Int) (n : Nat) (hn : n = l.length) (hg : allG l = true) (c : Nat) (w : World) (hl : n ≤ 1048576) (hs : Sl w 1 A n (i64s l)) : Calls Try.prog 92 #[.slice A n c] w fun e w' => ∃ p, e = .returned (.tuple #[p, .bool true]) ∧ NumS w' p 3 (VD.ints l).nums (New w.heap.size) ∧ Ext w w' := by
  refine (vints_own A l n hn c w hl hs).mono ?_
  rintro e w' ⟨B, cb, rfl, ho, hx⟩
  rw [hg] at ho
  have ho' := ho rfl
  refine ⟨_, by rw [hg, if_pos rfl], ?_, hx⟩
  refine NumS.mk ⟨VD.ints l, isvec_ints hn hl (allG_true hg) (Sl.own ho'), rfl, by omega, by omega, rfl⟩ (In.one (A := B) (n := n) (c := cb) (fun a ha => by subst ha; exact (World.ownsRow.lt ho' a.block rfl).1) (.inr rfl) ⟨_, rfl⟩ (.inr rfl) (.inl rfl) (.inr rfl) (.inr rfl) (.inr rfl))
theorem wholes_r (f : Int) (hf : whF f) (v u : Value) (K J : Nat) (hK : K ≤ 3) (hJ : J ≤ 3) (x y : List Nat) (N : Nat) (hN2 : N ≤ 1048576) (hx : x.length = N ∨ x.length = 1) (hy : y.length = N ∨ y.length = 1) (w : World) (hv : IsNum w v K x) (hu : IsNum w u J y) : Calls Try.prog 69 #[.int .i64 f, .int .i64 (N : Int), v, u] w (WholesP (whA f (toI x) (toI y) N) (resL f x y N) w) := by
  have hF := hv.flat
  have hG := hu.flat
  have NV := NumS.all hv
  have NU := NumS.all hu
  have wx := num_whole hv hK
  have wy := num_whole hu hJ
  have lX := toI_length x
  have lY := toI_length y
  have ca : ∀ w, IsNum w v K x → Calls Try.prog 93 #[v] w fun e w' => ∃ P c, e = .returned (.tuple #[.slice P x.length c, .bool true]) ∧ Sl w' 1 P x.length (i64s (toI x)) ∧ Ext w w' := fun w h => by
    refine (nwholes_any v K x w h hK).mono ?_
    rintro e w' ⟨v', rfl, ho, hx⟩
    obtain ⟨B, cb, rfl, -, -⟩ := own_form ho
    exact ⟨_, _, rfl, Sl.own ho, hx⟩
  have cb : ∀ w, IsNum w u J y → Calls Try.prog 93 #[u] w fun e w' => ∃ P c, e = .returned (.tuple #[.slice P y.length c, .bool true]) ∧ Sl w' 1 P y.length (i64s (toI y)) ∧ Ext w w' := fun w h => by
    refine (nwholes_any u J y w h hJ).mono ?_
    rintro e w' ⟨v', rfl, ho, hx⟩
    obtain ⟨B, cb, rfl, -, -⟩ := own_form ho
    exact ⟨_, _, rfl, Sl.own ho, hx⟩
  have co : ∀ k w, k < N → Calls Try.prog 94 #[.int .i64 f, .int .i64 (pkI (toI x) k), .int .i64 (pkI (toI y) k)] w fun e w' => e = .returned (.tuple #[.int .i64 (whV f (pkI (toI x) k) (pkI (toI y) k)), .bool (whO f (pkI (toI x) k) (pkI (toI y) k))]) ∧ Ext w w' := fun k w hk => (whole_r f _ _ (pk_toI wx hx hk).2 (pk_toI wy hy hk).2 hf w).mono fun e w2 h => ⟨h.1, h.2 ▸ Ext.refl _⟩
  have cin : whA f (toI x) (toI y) N = true → ∀ g w, RowO 2 w g N (fillL (fun k => .int .i64 (whV f (pkI (toI x) k) (pkI (toI y) k))) (.int .i64 0) N N) → Calls Try.prog 92 #[.slice (some ⟨g, 0, none⟩) N N] w fun e w' => ∃ p, e = .returned (.tuple #[p, .bool true]) ∧ NumS w' p 3 (resL f x y N) (New w.heap.size) ∧ Ext w w' := fun hA g w h => by
    have hh := res_wh hf wx wy hx hy (whA_all hA)
    have h2 := h.sl
    rw [← resI_row] at h2
    have := vints_s (some ⟨g, 0, none⟩) (resI f (toI x) (toI y) N) N (resI_length _ _ _ _).symm hh.2.2 N w hN2 h2
    rwa [hh.1] at this
  have csq := fun v w h => squeeze_num v 3 (resL f x y N) w h
  unfold SqPost at csq
  have HA : Hid (∀ k, whA f (toI x) (toI y) (k + 1) = (whA f (toI x) (toI y) k && whO f (pkI (toI x) k) (pkI (toI y) k))) := fun k => rfl
  have HS : Hid (∀ k, whA f (toI x) (toI y) k = false → k ≤ N → whA f (toI x) (toI y) N = false) := fun k h hk => whA_stay h hk
  have H0 : Hid (whA f (toI x) (toI y) 0 = true) := rfl
  have PX : Hid (∀ k, pkI (toI x) k = (toI x).getD (ixN x.length k) 0) := fun k => by show pkI _ _ = _; unfold pkI; rw [lX]
  have PY : Hid (∀ k, pkI (toI y) k = (toI y).getD (ixN y.length k) 0) := fun k => by show pkI _ _ = _; unfold pkI; rw [lY]
  have HLX := Lib.hid lX
  have HLY := Lib.hid lY
  unfold WholesP
  obtain ⟨AF, hAF⟩ : ∃ AF : Nat → Bool, whA f (toI x) (toI y) = AF := ⟨_, rfl⟩
  rw [hAF] at cin HA HS H0 ⊢
  obtain ⟨FN, hFN⟩ : ∃ FN : Nat → Value, (fun k => Value.int .i64 (whV f (pkI (toI x) k) (pkI (toI y) k))) = FN := ⟨_, rfl⟩
  have HFN := Lib.hid fun k => congrFun hFN k
  rw [hFN] at cin
  clear hFN hAF hv hu hK hJ wx wy lX lY
  generalize resL f x y N = RL at *
  generalize toI x = X at *
  generalize toI y = Y at *
  generalize x.length = mx at *
  generalize y.length = my at *
  have E := Ext.refl w
  go_enter Try.func69, Try.ntmps69
  have TB6 : True := trivial
  have TB7 : True := trivial
  have TB8 : True := trivial
  go_wp2_with (first | (clear TB6; refine boxsV (v := v) rfl rfl rfl hF ?_; intro B6 w6 bB6 cB6 XB6 LB6 RB6; have z1 := XB6.size; replace E := E.trans XB6; replace NV := NV.ext XB6; replace NU := NU.ext XB6; clear RB6) | (clear TB7; refine boxsV (v := u) rfl rfl rfl hG ?_; intro B7 w7 bB7 cB7 XB7 LB7 RB7; have z2 := XB7.size; replace E := E.trans XB7; replace NV := NV.ext XB7; replace NU := NU.ext XB7; replace LB6 := LB6.ext XB7; clear RB7) | (clear TB8; refine allocsV rfl rfl ?_; intro B8 w8 bB8 cB8 XB8 LB8 RB8; have z3 := XB8.size; replace E := E.trans XB8; replace NV := NV.ext XB8; replace NU := NU.ext XB8; replace LB6 := LB6.ext XB8; replace LB7 := LB7.ext XB8) | (refine loadsV (B := B6) (by rfl) rfl rfl LB6 ?_))
  clear LB6
  refine (ca _ NV.is).mono ?_
  rintro e w21 ⟨P, cP, rfl, hq, x'⟩
  have SX := SlS.all hq
  clear hq
  have z4 := x'.size
  replace E := E.trans x'
  replace NV := NV.ext x'
  replace NU := NU.ext x'
  replace LB7 := LB7.ext x'
  replace LB8 := LB8.ext x'
  replace RB8 := RB8.ext x'
  clear x'
  go_wp2_with (refine loadsV (B := B7) (by rfl) rfl rfl LB7 ?_)
  clear LB7
  refine (cb _ NU.is).mono ?_
  rintro e w26 ⟨Q, cQ, rfl, hq, x'⟩
  have SY := SlS.all hq
  clear hq
  have z5 := x'.size
  replace E := E.trans x'
  replace NV := NV.ext x'
  replace NU := NU.ext x'
  replace LB8 := LB8.ext x'
  replace RB8 := RB8.ext x'
  replace SX := SX.ext x'
  clear x'
  have TM37 : True := trivial
  go_wp2_with (clear TM37; refine maker_i64 rfl rfl (n := N) rfl hN2 ?_; intro g37 w37 bg37 cg37 X37 Og37; have z6 := X37.size; replace E := E.trans X37; replace NV := NV.ext X37; replace NU := NU.ext X37; replace LB8 := LB8.ext X37; replace RB8 := RB8.ext X37; replace SX := SX.ext X37; replace SY := SY.ext X37; clear X37)
  go_loopw [40] (fun i wr => ∃ k : Nat, k ≤ N ∧ i = .int .i64 k ∧ AF k = true ∧ Grw w37 g37 wr ∧ RowO 2 wr g37 N (fillL FN (.int .i64 0) N k)) (fun i _ => N - (intOf i).toNat)
  case atStart => exact ⟨0, Nat.zero_le _, rfl, H0.out, Grw.refl _ _, by rw [fillL_zero]; exact Og37⟩
  case round =>
    obtain ⟨k, hk, rfl, hup, HG, O2⟩ := hrel
    clear Og37
    have Og37 := O2
    clear O2
    have z7 := HG.out.size
    replace E := grown_ext E HG.out (by omega)
    replace NV := NV.grown HG.out (by omega)
    replace NU := NU.grown HG.out (by omega)
    replace LB8 := LB8.grown HG.out (by omega)
    replace RB8 := RB8.grown HG.out (by omega)
    replace SX := SX.grown HG.out (by first | omega | (dsimp only [New]; omega))
    replace SY := SY.grown HG.out (by first | omega | (dsimp only [New]; omega))
    rcases split_wh (k < N) (1 < mx) (1 < my) (whO f (pkI X k) (pkI Y k)) with ⟨hlt, gx, gy, hz⟩ | ⟨hlt, gx, gy, hz⟩ | ⟨hlt, gx, gy, hz⟩ | ⟨hlt, gx, gy, hz⟩ | ⟨hlt, gx, gy, hz⟩ | ⟨hlt, gx, gy, hz⟩ | ⟨hlt, gx, gy, hz⟩ | ⟨hlt, gx, gy, hz⟩ | hlt
    · have k0 : 0 < mx := by omega
      have k0' : 0 < my := by omega
      obtain ⟨ax, u1, rfl, -, hu1, D0⟩ := SX.is.at1 (k := 0) k0
      rw [i64s_get' (by rw [HLX.out]; exact k0)] at hu1
      cases hu1
      obtain ⟨ay, u2, rfl, -, hu2, D0'⟩ := SY.is.at1 (k := 0) k0'
      rw [i64s_get' (by rw [HLY.out]; exact k0')] at hu2
      cases hu2
      rw [show ax.add 0 = ax by unfold Addr.add; split <;> simp_all] at D0
      rw [show ay.add 0 = ay by unfold Addr.add; split <;> simp_all] at D0'
      have PXk : Hid (pkI X k = X.getD k 0) := by show _ = _; rw [PX.out k]; unfold ixN; rw [if_neg (by omega)]
      have PYk : Hid (pkI Y k = Y.getD k 0) := by show _ = _; rw [PY.out k]; unfold ixN; rw [if_neg (by omega)]
      have kx : k < mx := by omega
      obtain ⟨ax2, u3, e3, -, hu3, D1⟩ := SX.is.at1 (k := k) kx
      cases e3
      rw [i64s_get' (by rw [HLX.out]; exact kx)] at hu3
      cases hu3
      have ky : k < my := by omega
      obtain ⟨ay2, u4, e4, -, hu4, D1'⟩ := SY.is.at1 (k := k) ky
      cases e4
      rw [i64s_get' (by rw [HLY.out]; exact ky)] at hu4
      cases hu4
      have CO := fun w => co k w hlt
      have HFk := Lib.hid (HFN.out k)
      have HAk := Lib.hid (HA.out k)
      have HFK := Lib.hid (fillL_set FN (.int .i64 0) hlt)
      have HUk := Lib.hid hup
      rw [PXk.out, PYk.out] at CO HFk HAk hz
      clear co hup cin csq PXk PYk ca cb
      generalize whV f (X.getD k 0) (Y.getD k 0) = rb at *
      generalize whO f (X.getD k 0) (Y.getD k 0) = ob at *
      generalize X.getD 0 0 = p0 at *
      generalize Y.getD 0 0 = q0 at *
      generalize X.getD k 0 = p1 at *
      generalize Y.getD k 0 = q1 at *
      subst hz
      go_wp2_with fail
      go_region_held3 (fun w' => w'.cell? ax = some (.int .i64 p0) ∧ w'.cell? ay = some (.int .i64 q0)) ((first | exact ⟨D0, D0'⟩ | go_keep)) (fail)
      have hq8 : wr.heap.size ≤ wr.drew.heap.size := Nat.le_refl _
      have z9 := (Ext.refl wr).drew.size
      replace E := E.trans (Ext.refl wr).drew
      replace NV := NV.ext (Ext.refl wr).drew
      replace NU := NU.ext (Ext.refl wr).drew
      replace LB8 := LB8.ext (Ext.refl wr).drew
      replace RB8 := RB8.ext (Ext.refl wr).drew
      replace SX := SX.ext (Ext.refl wr).drew
      replace SY := SY.ext (Ext.refl wr).drew
      replace Og37 := Og37.ext (Ext.refl wr).drew
      replace HG := HG.ext (Ext.refl wr).drew
      try (replace D1 : wr.drew.cell? (ax.add k) = some (.int .i64 p1) := D1)
      try (replace D1' : wr.drew.cell? (ay.add k) = some (.int .i64 q1) := D1')
      generalize wr.drew = wd8 at *
      go_wp2_with fail
      refine (CO _).mono ?_
      rintro e w69 ⟨rfl, x'⟩
      have z10 := x'.size
      replace E := E.trans x'
      replace NV := NV.ext x'
      replace NU := NU.ext x'
      replace LB8 := LB8.ext x'
      replace RB8 := RB8.ext x'
      replace SX := SX.ext x'
      replace SY := SY.ext x'
      replace Og37 := Og37.ext x'
      replace HG := HG.ext x'
      clear x'
      have TG11 : True := trivial
      go_wp2_with (clear TG11; have hRl := Og37.lt; refine storesr_i64 rfl rfl (g := g37) (k := k) (n := N) (by rfl) rfl (by rfl) Og37 hlt ?_; clear Og37; intro s11 G11 Og37; have z12 := G11.size; replace E := grown_ext E G11 (by omega); replace NV := NV.grown G11 (by omega); replace NU := NU.grown G11 (by omega); replace LB8 := LB8.grown G11 (by omega); replace RB8 := RB8.grown G11 (by omega); replace SX := SX.grown G11 (by first | omega | (dsimp only [New]; omega)); replace SY := SY.grown G11 (by first | omega | (dsimp only [New]; omega)); replace HG := HG.grown G11 (by omega); clear hRl G11)
      exact ⟨⟨k + 1, by omega, by go_num, by rw [HAk.out, HUk.out]; rfl, HG, by rw [← HFK.out, ← HFk.out]; exact Og37⟩, by simp [intOf]; omega⟩
    · have k0 : 0 < mx := by omega
      have k0' : 0 < my := by omega
      obtain ⟨ax, u1, rfl, -, hu1, D0⟩ := SX.is.at1 (k := 0) k0
      rw [i64s_get' (by rw [HLX.out]; exact k0)] at hu1
      cases hu1
      obtain ⟨ay, u2, rfl, -, hu2, D0'⟩ := SY.is.at1 (k := 0) k0'
      rw [i64s_get' (by rw [HLY.out]; exact k0')] at hu2
      cases hu2
      rw [show ax.add 0 = ax by unfold Addr.add; split <;> simp_all] at D0
      rw [show ay.add 0 = ay by unfold Addr.add; split <;> simp_all] at D0'
      have PXk : Hid (pkI X k = X.getD k 0) := by show _ = _; rw [PX.out k]; unfold ixN; rw [if_neg (by omega)]
      have PYk : Hid (pkI Y k = Y.getD k 0) := by show _ = _; rw [PY.out k]; unfold ixN; rw [if_neg (by omega)]
      have kx : k < mx := by omega
      obtain ⟨ax2, u3, e3, -, hu3, D1⟩ := SX.is.at1 (k := k) kx
      cases e3
      rw [i64s_get' (by rw [HLX.out]; exact kx)] at hu3
      cases hu3
      have ky : k < my := by omega
      obtain ⟨ay2, u4, e4, -, hu4, D1'⟩ := SY.is.at1 (k := k) ky
      cases e4
      rw [i64s_get' (by rw [HLY.out]; exact ky)] at hu4
      cases hu4
      have CO := fun w => co k w hlt
      have HFk := Lib.hid (HFN.out k)
      have HAk := Lib.hid (HA.out k)
      have HFK := Lib.hid (fillL_set FN (.int .i64 0) hlt)
      have HUk := Lib.hid hup
      rw [PXk.out, PYk.out] at CO HFk HAk hz
      clear co hup cin csq PXk PYk ca cb
      generalize whV f (X.getD k 0) (Y.getD k 0) = rb at *
      generalize whO f (X.getD k 0) (Y.getD k 0) = ob at *
      generalize X.getD 0 0 = p0 at *
      generalize Y.getD 0 0 = q0 at *
      generalize X.getD k 0 = p1 at *
      generalize Y.getD k 0 = q1 at *
      subst hz
      clear HG SX SY
      go_wp2_with fail
      go_region_held3 (fun w' => w'.cell? ax = some (.int .i64 p0) ∧ w'.cell? ay = some (.int .i64 q0)) ((first | exact ⟨D0, D0'⟩ | go_keep)) (fail)
      have hq13 : wr.heap.size ≤ wr.drew.heap.size := Nat.le_refl _
      have z14 := (Ext.refl wr).drew.size
      replace E := E.trans (Ext.refl wr).drew
      replace NV := NV.ext (Ext.refl wr).drew
      replace NU := NU.ext (Ext.refl wr).drew
      replace LB8 := LB8.ext (Ext.refl wr).drew
      replace RB8 := RB8.ext (Ext.refl wr).drew
      replace Og37 := Og37.ext (Ext.refl wr).drew
      try (replace D1 : wr.drew.cell? (ax.add k) = some (.int .i64 p1) := D1)
      try (replace D1' : wr.drew.cell? (ay.add k) = some (.int .i64 q1) := D1')
      generalize wr.drew = wd13 at *
      go_wp2_with fail
      refine (CO _).mono ?_
      rintro e w69 ⟨rfl, x'⟩
      have z15 := x'.size
      replace E := E.trans x'
      replace NV := NV.ext x'
      replace NU := NU.ext x'
      replace LB8 := LB8.ext x'
      replace RB8 := RB8.ext x'
      replace Og37 := Og37.ext x'
      clear x'
      have TG16 : True := trivial
      have TG18 : True := trivial
      go_wp2_with (first | (clear TG16; have hRl := Og37.lt; refine storesr_i64 rfl rfl (g := g37) (k := k) (n := N) (by rfl) rfl (by rfl) Og37 hlt ?_; clear Og37; intro s16 G16 Og37; have z17 := G16.size; replace E := grown_ext E G16 (by omega); replace NV := NV.grown G16 (by omega); replace NU := NU.grown G16 (by omega); replace LB8 := LB8.grown G16 (by omega); replace RB8 := RB8.grown G16 (by omega); clear hRl G16) | (clear TG18; have hRl := (RB8).lt (Nat.zero_lt_succ _); refine storesV (B := B8) rfl rfl rfl (v := zeroVec) rfl RB8 zeroVec_flat ?_; clear LB8; intro s18 G18 LB8 RQ; have z19 := G18.size; replace E := grown_ext E G18 (by omega); replace NV := NV.grown G18 (by omega); replace NU := NU.grown G18 (by omega); replace Og37 := Og37.grown G18 (by omega); clear RB8; have RB8 := RQ; clear RQ hRl))
      refine bodyPost_ret (results_lay2 rfl rfl rfl (ldV LB8)) rfl ?_
      exact ⟨zeroVec, by rw [HS.out (k + 1) (by rw [HAk.out, HUk.out]; rfl) (by omega)]; rfl, zeroVec_flat, fun h => absurd h (by rw [HS.out (k + 1) (by rw [HAk.out, HUk.out]; rfl) (by omega)]; decide), E⟩
    · have k0 : 0 < mx := by omega
      have k0' : 0 < my := by omega
      obtain ⟨ax, u1, rfl, -, hu1, D0⟩ := SX.is.at1 (k := 0) k0
      rw [i64s_get' (by rw [HLX.out]; exact k0)] at hu1
      cases hu1
      obtain ⟨ay, u2, rfl, -, hu2, D0'⟩ := SY.is.at1 (k := 0) k0'
      rw [i64s_get' (by rw [HLY.out]; exact k0')] at hu2
      cases hu2
      rw [show ax.add 0 = ax by unfold Addr.add; split <;> simp_all] at D0
      rw [show ay.add 0 = ay by unfold Addr.add; split <;> simp_all] at D0'
      have PXk : Hid (pkI X k = X.getD k 0) := by show _ = _; rw [PX.out k]; unfold ixN; rw [if_neg (by omega)]
      have PYk : Hid (pkI Y k = Y.getD 0 0) := by show _ = _; rw [PY.out k]; unfold ixN; rw [if_pos (by omega)]
      have kx : k < mx := by omega
      obtain ⟨ax2, u3, e3, -, hu3, D1⟩ := SX.is.at1 (k := k) kx
      cases e3
      rw [i64s_get' (by rw [HLX.out]; exact kx)] at hu3
      cases hu3
      have CO := fun w => co k w hlt
      have HFk := Lib.hid (HFN.out k)
      have HAk := Lib.hid (HA.out k)
      have HFK := Lib.hid (fillL_set FN (.int .i64 0) hlt)
      have HUk := Lib.hid hup
      rw [PXk.out, PYk.out] at CO HFk HAk hz
      clear co hup cin csq PXk PYk ca cb
      generalize whV f (X.getD k 0) (Y.getD 0 0) = rb at *
      generalize whO f (X.getD k 0) (Y.getD 0 0) = ob at *
      generalize X.getD 0 0 = p0 at *
      generalize Y.getD 0 0 = q0 at *
      generalize X.getD k 0 = p1 at *
      subst hz
      go_wp2_with fail
      go_region_held3 (fun w' => w'.cell? ax = some (.int .i64 p0) ∧ w'.cell? ay = some (.int .i64 q0)) ((first | exact ⟨D0, D0'⟩ | go_keep)) (fail)
      have hq20 : wr.heap.size ≤ wr.drew.heap.size := Nat.le_refl _
      have z21 := (Ext.refl wr).drew.size
      replace E := E.trans (Ext.refl wr).drew
      replace NV := NV.ext (Ext.refl wr).drew
      replace NU := NU.ext (Ext.refl wr).drew
      replace LB8 := LB8.ext (Ext.refl wr).drew
      replace RB8 := RB8.ext (Ext.refl wr).drew
      replace SX := SX.ext (Ext.refl wr).drew
      replace SY := SY.ext (Ext.refl wr).drew
      replace Og37 := Og37.ext (Ext.refl wr).drew
      replace HG := HG.ext (Ext.refl wr).drew
      try (replace D1 : wr.drew.cell? (ax.add k) = some (.int .i64 p1) := D1)
      try (replace D1' : wr.drew.cell? (ay.add k) = some (.int .i64 q1) := D1')
      generalize wr.drew = wd20 at *
      go_wp2_with fail
      refine (CO _).mono ?_
      rintro e w69 ⟨rfl, x'⟩
      have z22 := x'.size
      replace E := E.trans x'
      replace NV := NV.ext x'
      replace NU := NU.ext x'
      replace LB8 := LB8.ext x'
      replace RB8 := RB8.ext x'
      replace SX := SX.ext x'
      replace SY := SY.ext x'
      replace Og37 := Og37.ext x'
      replace HG := HG.ext x'
      clear x'
      have TG23 : True := trivial
      go_wp2_with (clear TG23; have hRl := Og37.lt; refine storesr_i64 rfl rfl (g := g37) (k := k) (n := N) (by rfl) rfl (by rfl) Og37 hlt ?_; clear Og37; intro s23 G23 Og37; have z24 := G23.size; replace E := grown_ext E G23 (by omega); replace NV := NV.grown G23 (by omega); replace NU := NU.grown G23 (by omega); replace LB8 := LB8.grown G23 (by omega); replace RB8 := RB8.grown G23 (by omega); replace SX := SX.grown G23 (by first | omega | (dsimp only [New]; omega)); replace SY := SY.grown G23 (by first | omega | (dsimp only [New]; omega)); replace HG := HG.grown G23 (by omega); clear hRl G23)
      exact ⟨⟨k + 1, by omega, by go_num, by rw [HAk.out, HUk.out]; rfl, HG, by rw [← HFK.out, ← HFk.out]; exact Og37⟩, by simp [intOf]; omega⟩
    · have k0 : 0 < mx := by omega
      have k0' : 0 < my := by omega
      obtain ⟨ax, u1, rfl, -, hu1, D0⟩ := SX.is.at1 (k := 0) k0
      rw [i64s_get' (by rw [HLX.out]; exact k0)] at hu1
      cases hu1
      obtain ⟨ay, u2, rfl, -, hu2, D0'⟩ := SY.is.at1 (k := 0) k0'
      rw [i64s_get' (by rw [HLY.out]; exact k0')] at hu2
      cases hu2
      rw [show ax.add 0 = ax by unfold Addr.add; split <;> simp_all] at D0
      rw [show ay.add 0 = ay by unfold Addr.add; split <;> simp_all] at D0'
      have PXk : Hid (pkI X k = X.getD k 0) := by show _ = _; rw [PX.out k]; unfold ixN; rw [if_neg (by omega)]
      have PYk : Hid (pkI Y k = Y.getD 0 0) := by show _ = _; rw [PY.out k]; unfold ixN; rw [if_pos (by omega)]
      have kx : k < mx := by omega
      obtain ⟨ax2, u3, e3, -, hu3, D1⟩ := SX.is.at1 (k := k) kx
      cases e3
      rw [i64s_get' (by rw [HLX.out]; exact kx)] at hu3
      cases hu3
      have CO := fun w => co k w hlt
      have HFk := Lib.hid (HFN.out k)
      have HAk := Lib.hid (HA.out k)
      have HFK := Lib.hid (fillL_set FN (.int .i64 0) hlt)
      have HUk := Lib.hid hup
      rw [PXk.out, PYk.out] at CO HFk HAk hz
      clear co hup cin csq PXk PYk ca cb
      generalize whV f (X.getD k 0) (Y.getD 0 0) = rb at *
      generalize whO f (X.getD k 0) (Y.getD 0 0) = ob at *
      generalize X.getD 0 0 = p0 at *
      generalize Y.getD 0 0 = q0 at *
      generalize X.getD k 0 = p1 at *
      subst hz
      clear HG SX SY
      go_wp2_with fail
      go_region_held3 (fun w' => w'.cell? ax = some (.int .i64 p0) ∧ w'.cell? ay = some (.int .i64 q0)) ((first | exact ⟨D0, D0'⟩ | go_keep)) (fail)
      have hq25 : wr.heap.size ≤ wr.drew.heap.size := Nat.le_refl _
      have z26 := (Ext.refl wr).drew.size
      replace E := E.trans (Ext.refl wr).drew
      replace NV := NV.ext (Ext.refl wr).drew
      replace NU := NU.ext (Ext.refl wr).drew
      replace LB8 := LB8.ext (Ext.refl wr).drew
      replace RB8 := RB8.ext (Ext.refl wr).drew
      replace Og37 := Og37.ext (Ext.refl wr).drew
      try (replace D1 : wr.drew.cell? (ax.add k) = some (.int .i64 p1) := D1)
      try (replace D1' : wr.drew.cell? (ay.add k) = some (.int .i64 q1) := D1')
      generalize wr.drew = wd25 at *
      go_wp2_with fail
      refine (CO _).mono ?_
      rintro e w69 ⟨rfl, x'⟩
      have z27 := x'.size
      replace E := E.trans x'
      replace NV := NV.ext x'
      replace NU := NU.ext x'
      replace LB8 := LB8.ext x'
      replace RB8 := RB8.ext x'
      replace Og37 := Og37.ext x'
      clear x'
      have TG28 : True := trivial
      have TG30 : True := trivial
      go_wp2_with (first | (clear TG28; have hRl := Og37.lt; refine storesr_i64 rfl rfl (g := g37) (k := k) (n := N) (by rfl) rfl (by rfl) Og37 hlt ?_; clear Og37; intro s28 G28 Og37; have z29 := G28.size; replace E := grown_ext E G28 (by omega); replace NV := NV.grown G28 (by omega); replace NU := NU.grown G28 (by omega); replace LB8 := LB8.grown G28 (by omega); replace RB8 := RB8.grown G28 (by omega); clear hRl G28) | (clear TG30; have hRl := (RB8).lt (Nat.zero_lt_succ _); refine storesV (B := B8) rfl rfl rfl (v := zeroVec) rfl RB8 zeroVec_flat ?_; clear LB8; intro s30 G30 LB8 RQ; have z31 := G30.size; replace E := grown_ext E G30 (by omega); replace NV := NV.grown G30 (by omega); replace NU := NU.grown G30 (by omega); replace Og37 := Og37.grown G30 (by omega); clear RB8; have RB8 := RQ; clear RQ hRl))
      refine bodyPost_ret (results_lay2 rfl rfl rfl (ldV LB8)) rfl ?_
      exact ⟨zeroVec, by rw [HS.out (k + 1) (by rw [HAk.out, HUk.out]; rfl) (by omega)]; rfl, zeroVec_flat, fun h => absurd h (by rw [HS.out (k + 1) (by rw [HAk.out, HUk.out]; rfl) (by omega)]; decide), E⟩
    · have k0 : 0 < mx := by omega
      have k0' : 0 < my := by omega
      obtain ⟨ax, u1, rfl, -, hu1, D0⟩ := SX.is.at1 (k := 0) k0
      rw [i64s_get' (by rw [HLX.out]; exact k0)] at hu1
      cases hu1
      obtain ⟨ay, u2, rfl, -, hu2, D0'⟩ := SY.is.at1 (k := 0) k0'
      rw [i64s_get' (by rw [HLY.out]; exact k0')] at hu2
      cases hu2
      rw [show ax.add 0 = ax by unfold Addr.add; split <;> simp_all] at D0
      rw [show ay.add 0 = ay by unfold Addr.add; split <;> simp_all] at D0'
      have PXk : Hid (pkI X k = X.getD 0 0) := by show _ = _; rw [PX.out k]; unfold ixN; rw [if_pos (by omega)]
      have PYk : Hid (pkI Y k = Y.getD k 0) := by show _ = _; rw [PY.out k]; unfold ixN; rw [if_neg (by omega)]
      have ky : k < my := by omega
      obtain ⟨ay2, u4, e4, -, hu4, D1'⟩ := SY.is.at1 (k := k) ky
      cases e4
      rw [i64s_get' (by rw [HLY.out]; exact ky)] at hu4
      cases hu4
      have CO := fun w => co k w hlt
      have HFk := Lib.hid (HFN.out k)
      have HAk := Lib.hid (HA.out k)
      have HFK := Lib.hid (fillL_set FN (.int .i64 0) hlt)
      have HUk := Lib.hid hup
      rw [PXk.out, PYk.out] at CO HFk HAk hz
      clear co hup cin csq PXk PYk ca cb
      generalize whV f (X.getD 0 0) (Y.getD k 0) = rb at *
      generalize whO f (X.getD 0 0) (Y.getD k 0) = ob at *
      generalize X.getD 0 0 = p0 at *
      generalize Y.getD 0 0 = q0 at *
      generalize Y.getD k 0 = q1 at *
      subst hz
      go_wp2_with fail
      go_region_held3 (fun w' => w'.cell? ax = some (.int .i64 p0) ∧ w'.cell? ay = some (.int .i64 q0)) ((first | exact ⟨D0, D0'⟩ | go_keep)) (fail)
      have hq32 : wr.heap.size ≤ wr.drew.heap.size := Nat.le_refl _
      have z33 := (Ext.refl wr).drew.size
      replace E := E.trans (Ext.refl wr).drew
      replace NV := NV.ext (Ext.refl wr).drew
      replace NU := NU.ext (Ext.refl wr).drew
      replace LB8 := LB8.ext (Ext.refl wr).drew
      replace RB8 := RB8.ext (Ext.refl wr).drew
      replace SX := SX.ext (Ext.refl wr).drew
      replace SY := SY.ext (Ext.refl wr).drew
      replace Og37 := Og37.ext (Ext.refl wr).drew
      replace HG := HG.ext (Ext.refl wr).drew
      try (replace D1 : wr.drew.cell? (ax.add k) = some (.int .i64 p1) := D1)
      try (replace D1' : wr.drew.cell? (ay.add k) = some (.int .i64 q1) := D1')
      generalize wr.drew = wd32 at *
      go_wp2_with fail
      refine (CO _).mono ?_
      rintro e w69 ⟨rfl, x'⟩
      have z34 := x'.size
      replace E := E.trans x'
      replace NV := NV.ext x'
      replace NU := NU.ext x'
      replace LB8 := LB8.ext x'
      replace RB8 := RB8.ext x'
      replace SX := SX.ext x'
      replace SY := SY.ext x'
      replace Og37 := Og37.ext x'
      replace HG := HG.ext x'
      clear x'
      have TG35 : True := trivial
      go_wp2_with (clear TG35; have hRl := Og37.lt; refine storesr_i64 rfl rfl (g := g37) (k := k) (n := N) (by rfl) rfl (by rfl) Og37 hlt ?_; clear Og37; intro s35 G35 Og37; have z36 := G35.size; replace E := grown_ext E G35 (by omega); replace NV := NV.grown G35 (by omega); replace NU := NU.grown G35 (by omega); replace LB8 := LB8.grown G35 (by omega); replace RB8 := RB8.grown G35 (by omega); replace SX := SX.grown G35 (by first | omega | (dsimp only [New]; omega)); replace SY := SY.grown G35 (by first | omega | (dsimp only [New]; omega)); replace HG := HG.grown G35 (by omega); clear hRl G35)
      exact ⟨⟨k + 1, by omega, by go_num, by rw [HAk.out, HUk.out]; rfl, HG, by rw [← HFK.out, ← HFk.out]; exact Og37⟩, by simp [intOf]; omega⟩
    · have k0 : 0 < mx := by omega
      have k0' : 0 < my := by omega
      obtain ⟨ax, u1, rfl, -, hu1, D0⟩ := SX.is.at1 (k := 0) k0
      rw [i64s_get' (by rw [HLX.out]; exact k0)] at hu1
      cases hu1
      obtain ⟨ay, u2, rfl, -, hu2, D0'⟩ := SY.is.at1 (k := 0) k0'
      rw [i64s_get' (by rw [HLY.out]; exact k0')] at hu2
      cases hu2
      rw [show ax.add 0 = ax by unfold Addr.add; split <;> simp_all] at D0
      rw [show ay.add 0 = ay by unfold Addr.add; split <;> simp_all] at D0'
      have PXk : Hid (pkI X k = X.getD 0 0) := by show _ = _; rw [PX.out k]; unfold ixN; rw [if_pos (by omega)]
      have PYk : Hid (pkI Y k = Y.getD k 0) := by show _ = _; rw [PY.out k]; unfold ixN; rw [if_neg (by omega)]
      have ky : k < my := by omega
      obtain ⟨ay2, u4, e4, -, hu4, D1'⟩ := SY.is.at1 (k := k) ky
      cases e4
      rw [i64s_get' (by rw [HLY.out]; exact ky)] at hu4
      cases hu4
      have CO := fun w => co k w hlt
      have HFk := Lib.hid (HFN.out k)
      have HAk := Lib.hid (HA.out k)
      have HFK := Lib.hid (fillL_set FN (.int .i64 0) hlt)
      have HUk := Lib.hid hup
      rw [PXk.out, PYk.out] at CO HFk HAk hz
      clear co hup cin csq PXk PYk ca cb
      generalize whV f (X.getD 0 0) (Y.getD k 0) = rb at *
      generalize whO f (X.getD 0 0) (Y.getD k 0) = ob at *
      generalize X.getD 0 0 = p0 at *
      generalize Y.getD 0 0 = q0 at *
      generalize Y.getD k 0 = q1 at *
      subst hz
      clear HG SX SY
      go_wp2_with fail
      go_region_held3 (fun w' => w'.cell? ax = some (.int .i64 p0) ∧ w'.cell? ay = some (.int .i64 q0)) ((first | exact ⟨D0, D0'⟩ | go_keep)) (fail)
      have hq37 : wr.heap.size ≤ wr.drew.heap.size := Nat.le_refl _
      have z38 := (Ext.refl wr).drew.size
      replace E := E.trans (Ext.refl wr).drew
      replace NV := NV.ext (Ext.refl wr).drew
      replace NU := NU.ext (Ext.refl wr).drew
      replace LB8 := LB8.ext (Ext.refl wr).drew
      replace RB8 := RB8.ext (Ext.refl wr).drew
      replace Og37 := Og37.ext (Ext.refl wr).drew
      try (replace D1 : wr.drew.cell? (ax.add k) = some (.int .i64 p1) := D1)
      try (replace D1' : wr.drew.cell? (ay.add k) = some (.int .i64 q1) := D1')
      generalize wr.drew = wd37 at *
      go_wp2_with fail
      refine (CO _).mono ?_
      rintro e w69 ⟨rfl, x'⟩
      have z39 := x'.size
      replace E := E.trans x'
      replace NV := NV.ext x'
      replace NU := NU.ext x'
      replace LB8 := LB8.ext x'
      replace RB8 := RB8.ext x'
      replace Og37 := Og37.ext x'
      clear x'
      have TG40 : True := trivial
      have TG42 : True := trivial
      go_wp2_with (first | (clear TG40; have hRl := Og37.lt; refine storesr_i64 rfl rfl (g := g37) (k := k) (n := N) (by rfl) rfl (by rfl) Og37 hlt ?_; clear Og37; intro s40 G40 Og37; have z41 := G40.size; replace E := grown_ext E G40 (by omega); replace NV := NV.grown G40 (by omega); replace NU := NU.grown G40 (by omega); replace LB8 := LB8.grown G40 (by omega); replace RB8 := RB8.grown G40 (by omega); clear hRl G40) | (clear TG42; have hRl := (RB8).lt (Nat.zero_lt_succ _); refine storesV (B := B8) rfl rfl rfl (v := zeroVec) rfl RB8 zeroVec_flat ?_; clear LB8; intro s42 G42 LB8 RQ; have z43 := G42.size; replace E := grown_ext E G42 (by omega); replace NV := NV.grown G42 (by omega); replace NU := NU.grown G42 (by omega); replace Og37 := Og37.grown G42 (by omega); clear RB8; have RB8 := RQ; clear RQ hRl))
      refine bodyPost_ret (results_lay2 rfl rfl rfl (ldV LB8)) rfl ?_
      exact ⟨zeroVec, by rw [HS.out (k + 1) (by rw [HAk.out, HUk.out]; rfl) (by omega)]; rfl, zeroVec_flat, fun h => absurd h (by rw [HS.out (k + 1) (by rw [HAk.out, HUk.out]; rfl) (by omega)]; decide), E⟩
    · have k0 : 0 < mx := by omega
      have k0' : 0 < my := by omega
      obtain ⟨ax, u1, rfl, -, hu1, D0⟩ := SX.is.at1 (k := 0) k0
      rw [i64s_get' (by rw [HLX.out]; exact k0)] at hu1
      cases hu1
      obtain ⟨ay, u2, rfl, -, hu2, D0'⟩ := SY.is.at1 (k := 0) k0'
      rw [i64s_get' (by rw [HLY.out]; exact k0')] at hu2
      cases hu2
      rw [show ax.add 0 = ax by unfold Addr.add; split <;> simp_all] at D0
      rw [show ay.add 0 = ay by unfold Addr.add; split <;> simp_all] at D0'
      have PXk : Hid (pkI X k = X.getD 0 0) := by show _ = _; rw [PX.out k]; unfold ixN; rw [if_pos (by omega)]
      have PYk : Hid (pkI Y k = Y.getD 0 0) := by show _ = _; rw [PY.out k]; unfold ixN; rw [if_pos (by omega)]
      have CO := fun w => co k w hlt
      have HFk := Lib.hid (HFN.out k)
      have HAk := Lib.hid (HA.out k)
      have HFK := Lib.hid (fillL_set FN (.int .i64 0) hlt)
      have HUk := Lib.hid hup
      rw [PXk.out, PYk.out] at CO HFk HAk hz
      clear co hup cin csq PXk PYk ca cb
      generalize whV f (X.getD 0 0) (Y.getD 0 0) = rb at *
      generalize whO f (X.getD 0 0) (Y.getD 0 0) = ob at *
      generalize X.getD 0 0 = p0 at *
      generalize Y.getD 0 0 = q0 at *
      subst hz
      go_wp2_with fail
      go_region_held3 (fun w' => w'.cell? ax = some (.int .i64 p0) ∧ w'.cell? ay = some (.int .i64 q0)) ((first | exact ⟨D0, D0'⟩ | go_keep)) (fail)
      have hq44 : wr.heap.size ≤ wr.drew.heap.size := Nat.le_refl _
      have z45 := (Ext.refl wr).drew.size
      replace E := E.trans (Ext.refl wr).drew
      replace NV := NV.ext (Ext.refl wr).drew
      replace NU := NU.ext (Ext.refl wr).drew
      replace LB8 := LB8.ext (Ext.refl wr).drew
      replace RB8 := RB8.ext (Ext.refl wr).drew
      replace SX := SX.ext (Ext.refl wr).drew
      replace SY := SY.ext (Ext.refl wr).drew
      replace Og37 := Og37.ext (Ext.refl wr).drew
      replace HG := HG.ext (Ext.refl wr).drew
      try (replace D1 : wr.drew.cell? (ax.add k) = some (.int .i64 p1) := D1)
      try (replace D1' : wr.drew.cell? (ay.add k) = some (.int .i64 q1) := D1')
      generalize wr.drew = wd44 at *
      go_wp2_with fail
      refine (CO _).mono ?_
      rintro e w69 ⟨rfl, x'⟩
      have z46 := x'.size
      replace E := E.trans x'
      replace NV := NV.ext x'
      replace NU := NU.ext x'
      replace LB8 := LB8.ext x'
      replace RB8 := RB8.ext x'
      replace SX := SX.ext x'
      replace SY := SY.ext x'
      replace Og37 := Og37.ext x'
      replace HG := HG.ext x'
      clear x'
      have TG47 : True := trivial
      go_wp2_with (clear TG47; have hRl := Og37.lt; refine storesr_i64 rfl rfl (g := g37) (k := k) (n := N) (by rfl) rfl (by rfl) Og37 hlt ?_; clear Og37; intro s47 G47 Og37; have z48 := G47.size; replace E := grown_ext E G47 (by omega); replace NV := NV.grown G47 (by omega); replace NU := NU.grown G47 (by omega); replace LB8 := LB8.grown G47 (by omega); replace RB8 := RB8.grown G47 (by omega); replace SX := SX.grown G47 (by first | omega | (dsimp only [New]; omega)); replace SY := SY.grown G47 (by first | omega | (dsimp only [New]; omega)); replace HG := HG.grown G47 (by omega); clear hRl G47)
      exact ⟨⟨k + 1, by omega, by go_num, by rw [HAk.out, HUk.out]; rfl, HG, by rw [← HFK.out, ← HFk.out]; exact Og37⟩, by simp [intOf]; omega⟩
    · have k0 : 0 < mx := by omega
      have k0' : 0 < my := by omega
      obtain ⟨ax, u1, rfl, -, hu1, D0⟩ := SX.is.at1 (k := 0) k0
      rw [i64s_get' (by rw [HLX.out]; exact k0)] at hu1
      cases hu1
      obtain ⟨ay, u2, rfl, -, hu2, D0'⟩ := SY.is.at1 (k := 0) k0'
      rw [i64s_get' (by rw [HLY.out]; exact k0')] at hu2
      cases hu2
      rw [show ax.add 0 = ax by unfold Addr.add; split <;> simp_all] at D0
      rw [show ay.add 0 = ay by unfold Addr.add; split <;> simp_all] at D0'
      have PXk : Hid (pkI X k = X.getD 0 0) := by show _ = _; rw [PX.out k]; unfold ixN; rw [if_pos (by omega)]
      have PYk : Hid (pkI Y k = Y.getD 0 0) := by show _ = _; rw [PY.out k]; unfold ixN; rw [if_pos (by omega)]
      have CO := fun w => co k w hlt
      have HFk := Lib.hid (HFN.out k)
      have HAk := Lib.hid (HA.out k)
      have HFK := Lib.hid (fillL_set FN (.int .i64 0) hlt)
      have HUk := Lib.hid hup
      rw [PXk.out, PYk.out] at CO HFk HAk hz
      clear co hup cin csq PXk PYk ca cb
      generalize whV f (X.getD 0 0) (Y.getD 0 0) = rb at *
      generalize whO f (X.getD 0 0) (Y.getD 0 0) = ob at *
      generalize X.getD 0 0 = p0 at *
      generalize Y.getD 0 0 = q0 at *
      subst hz
      clear HG SX SY
      go_wp2_with fail
      go_region_held3 (fun w' => w'.cell? ax = some (.int .i64 p0) ∧ w'.cell? ay = some (.int .i64 q0)) ((first | exact ⟨D0, D0'⟩ | go_keep)) (fail)
      have hq49 : wr.heap.size ≤ wr.drew.heap.size := Nat.le_refl _
      have z50 := (Ext.refl wr).drew.size
      replace E := E.trans (Ext.refl wr).drew
      replace NV := NV.ext (Ext.refl wr).drew
      replace NU := NU.ext (Ext.refl wr).drew
      replace LB8 := LB8.ext (Ext.refl wr).drew
      replace RB8 := RB8.ext (Ext.refl wr).drew
      replace Og37 := Og37.ext (Ext.refl wr).drew
      try (replace D1 : wr.drew.cell? (ax.add k) = some (.int .i64 p1) := D1)
      try (replace D1' : wr.drew.cell? (ay.add k) = some (.int .i64 q1) := D1')
      generalize wr.drew = wd49 at *
      go_wp2_with fail
      refine (CO _).mono ?_
      rintro e w69 ⟨rfl, x'⟩
      have z51 := x'.size
      replace E := E.trans x'
      replace NV := NV.ext x'
      replace NU := NU.ext x'
      replace LB8 := LB8.ext x'
      replace RB8 := RB8.ext x'
      replace Og37 := Og37.ext x'
      clear x'
      have TG52 : True := trivial
      have TG54 : True := trivial
      go_wp2_with (first | (clear TG52; have hRl := Og37.lt; refine storesr_i64 rfl rfl (g := g37) (k := k) (n := N) (by rfl) rfl (by rfl) Og37 hlt ?_; clear Og37; intro s52 G52 Og37; have z53 := G52.size; replace E := grown_ext E G52 (by omega); replace NV := NV.grown G52 (by omega); replace NU := NU.grown G52 (by omega); replace LB8 := LB8.grown G52 (by omega); replace RB8 := RB8.grown G52 (by omega); clear hRl G52) | (clear TG54; have hRl := (RB8).lt (Nat.zero_lt_succ _); refine storesV (B := B8) rfl rfl rfl (v := zeroVec) rfl RB8 zeroVec_flat ?_; clear LB8; intro s54 G54 LB8 RQ; have z55 := G54.size; replace E := grown_ext E G54 (by omega); replace NV := NV.grown G54 (by omega); replace NU := NU.grown G54 (by omega); replace Og37 := Og37.grown G54 (by omega); clear RB8; have RB8 := RQ; clear RQ hRl))
      refine bodyPost_ret (results_lay2 rfl rfl rfl (ldV LB8)) rfl ?_
      exact ⟨zeroVec, by rw [HS.out (k + 1) (by rw [HAk.out, HUk.out]; rfl) (by omega)]; rfl, zeroVec_flat, fun h => absurd h (by rw [HS.out (k + 1) (by rw [HAk.out, HUk.out]; rfl) (by omega)]; decide), E⟩
    · have hkN : k = N := by omega
      rw [hkN] at Og37 hup
      have HUN := Lib.hid hup
      have cin' := cin hup
      clear HG hup cin SX SY
      go_wp2_with fail
      refine (cin' g37 _ Og37).mono ?_
      rintro e w79 ⟨p, rfl, hq, x'⟩
      clear Og37
      have NP := hq.now
      have Fp := NP.is.flat
      clear hq
      have z56 := x'.size
      replace E := E.trans x'
      replace NV := NV.ext x'
      replace NU := NU.ext x'
      replace LB8 := LB8.ext x'
      replace RB8 := RB8.ext x'
      clear x'
      have TB18 : True := trivial
      have TG58 : True := trivial
      go_wp2_with (first | (clear TB18; refine allocsV rfl rfl ?_; intro B18 w18 bB18 cB18 XB18 LB18 RB18; have z57 := XB18.size; replace E := E.trans XB18; replace NV := NV.ext XB18; replace NU := NU.ext XB18; replace LB8 := LB8.ext XB18; replace RB8 := RB8.ext XB18; replace NP := NP.ext XB18) | (clear TG58; have hRl := (RB18).lt (Nat.zero_lt_succ _); refine storesV (B := B18) rfl rfl rfl (v := p) rfl RB18 Fp ?_; clear LB18; intro s58 G58 LB18 RQ; have z59 := G58.size; replace E := grown_ext E G58 (by omega); replace NV := NV.grown G58 (by omega); replace NU := NU.grown G58 (by omega); replace LB8 := LB8.grown G58 (by omega); replace RB8 := RB8.grown G58 (by omega); replace NP := NP.grown G58 (by first | omega | (dsimp only [New]; omega)); clear RB18; have RB18 := RQ; clear RQ hRl; clear RB18) | (refine loadsV (B := B18) (by rfl) rfl rfl LB18 ?_))
      clear LB18
      refine (csq p _ NP.is).mono ?_
      rintro e w86 ⟨q, rfl, hq, x'⟩
      have NQ := (hq _ NP).now
      have Fq := NQ.is.flat
      clear hq
      have z60 := x'.size
      replace E := E.trans x'
      replace NV := NV.ext x'
      replace NU := NU.ext x'
      replace LB8 := LB8.ext x'
      replace RB8 := RB8.ext x'
      replace NP := NP.ext x'
      clear x'
      have TG61 : True := trivial
      go_wp2_with (clear TG61; have hRl := (RB8).lt (Nat.zero_lt_succ _); refine storesV (B := B8) rfl rfl rfl (v := q) rfl RB8 Fq ?_; clear LB8; intro s61 G61 LB8 RQ; have z62 := G61.size; replace E := grown_ext E G61 (by omega); replace NV := NV.grown G61 (by omega); replace NU := NU.grown G61 (by omega); replace NP := NP.grown G61 (by first | omega | (dsimp only [New]; omega)); replace NQ := NQ.grown G61 (by first | omega | (dsimp only [New]; omega)); clear RB8; have RB8 := RQ; clear RQ hRl; clear RB8)
      refine bodyPost_ret (results_lay2 rfl rfl rfl (ldV LB8)) rfl ?_
      exact ⟨q, by rw [HUN.out]; rfl, Fq, fun _ => NQ.mono (fun i hi h => by dsimp only [New] at *; omega), E⟩
end Go.Proofs.Ytidnikndjhfgaaa
