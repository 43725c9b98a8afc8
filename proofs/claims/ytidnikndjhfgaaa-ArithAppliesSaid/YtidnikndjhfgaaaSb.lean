/- arith.floats. -/
import Derived.Test.YtidnikndjhfgaaaSa
import Derived.Test.YtidnikndjhfgaaaSl
namespace Go.Proofs.Ytidnikndjhfgaaa
open Go.ChangeShapes Go.WideShapes Go.RowKit Bv Fl
theorem dvN_tidy' {a b : Nat} (ha : fin a) (hb : fin b) : tidy (dvN a b) := by
  unfold dvN
  split
  · split
    · exact ⟨by decide, by decide, fun h => absurd h (by decide)⟩
    · exact ⟨by decide, by decide, fun _ => rfl⟩
  · exact dn_tidy _ (div_some ha hb (by omega)).2.2
theorem fdiv_one_ok {o : Nat} (hf : fin o) (hz : ¬ rung o = 0) : nn (fdiv 4607182418800017408 o) ∧ fdiv 4607182418800017408 o < 18446744073709551616 :=
  (div_some fin_one hf (fun h => hz h.2)).2
theorem powL_ok (f : Nat) : ∀ (k o x : Nat), oneSide o x → nn (powL f k o x) ∧ powL f k o x < 18446744073709551616 := by
  induction f with
  | zero =>
    intro k o x h
    rcases h with ⟨h, _⟩ | ⟨h, _⟩
    · exact ⟨h.1, h.2.2⟩
    · exact ⟨h.fin.nn, h.2⟩
  | succ f ih =>
    intro k o x h
    unfold powL
    by_cases k0 : k = 0
    · rw [if_pos k0]
      rcases h with ⟨h, _⟩ | ⟨h, _⟩
      · exact ⟨h.1, h.2.2⟩
      · exact ⟨h.fin.nn, h.2⟩
    · rw [if_neg k0]
      refine ih _ _ _ ?_
      by_cases a : k % 2 = 1
      · rw [if_pos a]
        by_cases b : 1 < k
        · rw [if_pos b]; exact h.mul.2.1.square.2
        · rw [if_neg b]; exact h.mul.2.1
      · rw [if_neg a]
        by_cases b : 1 < k
        · rw [if_pos b]; exact h.square.2
        · rw [if_neg b]; exact h
theorem powN_ok (k a : Nat) (ha : nn a) (hl : a < 18446744073709551616) : nn (powN k a) ∧ powN k a < 18446744073709551616 :=
  powL_ok k k _ _ (oneSide_one ha hl)
theorem zero_tidy' : tidy 0 := ⟨by decide, by decide, fun _ => rfl⟩
theorem pwN_tidy' (a b : Nat) (ha : nn a) (hl : a < 18446744073709551616) : tidy (pwN a b) := by
  unfold pwN
  by_cases hb : whole b
  · rw [if_pos hb]
    unfold powE
    split
    · exact zero_tidy'
    · split
      · exact dn_tidy _ (powN_ok _ _ ha hl).2
      · split
        · exact zero_tidy'
        · rename_i h
          have hf : fin (powN (trn b).natAbs a) := Decidable.byContradiction fun h' => h (Or.inl h')
          exact dn_tidy _ (fdiv_one_ok hf (fun h' => h (Or.inr h'))).2
  · rw [if_neg hb]; exact zero_tidy'
theorem restI_le {a b : Int} (ha : -9007199254740992 ≤ a ∧ a ≤ 9007199254740992) (hb : -9007199254740992 ≤ b ∧ b ≤ 9007199254740992) : -9007199254740992 ≤ restI a b ∧ restI a b ≤ 9007199254740992 := by
  unfold restI
  by_cases h0 : a = 0
  · rw [if_pos h0]; exact hb
  · rw [if_neg h0]
    have h1 : (b.tmod a).natAbs < a.natAbs := by
      rw [Int.natAbs_tmod]
      exact Nat.mod_lt _ (by omega)
    split
    · rename_i h2
      omega
    · omega
theorem rsN_fi {a b : Nat} (ha : whole a) (hb : whole b) : tidy (fi (restI (trn a) (trn b))) := by
  have h1 := trn_le ha.1
  have h2 := trn_le hb.1
  have : -9007199254740992 ≤ restI (trn a) (trn b) ∧ restI (trn a) (trn b) ≤ 9007199254740992 := restI_le (by omega) (by omega)
  exact fi_tidy this.1 this.2
theorem rsN_tidy (a b : Nat) : tidy (rsN a b) := by
  unfold rsN
  split
  · rename_i h
    exact rsN_fi h.1 h.2
  · exact zero_tidy'
theorem valA_tidy (f : Int) {a b : Nat} (ha : tidy a) (hb : tidy b) : tidy (valA f a b) := by
  unfold valA
  split
  · exact dn_tidy _ (add_some ha.1 hb.1).2.2
  split
  · exact dn_tidy _ (sub_some ha.1 hb.1).2.2
  split
  · exact dn_tidy _ (mul_some ha.1 hb.1).2.2
  split
  · exact dvN_tidy' ha.1 hb.1
  split
  · unfold fmax; split <;> assumption
  split
  · unfold fmin; split <;> assumption
  split
  · exact rsN_tidy a b
  split
  · exact pwN_tidy' a b ha.1.nn ha.2.1
  · exact zero_tidy'
def pkN (x : List Nat) (k : Nat) : Nat := x.getD (ixN x.length k) 0
theorem ixN_lt {n N k : Nat} (h : n = N ∨ n = 1) (hk : k < N) : ixN n k < n := by unfold ixN; split <;> omega
/-- what comes of the lists; the first error of the first k -/
def resL (f : Int) (x y : List Nat) (N : Nat) : List Nat := (List.range N).map fun k => valA f (pkN x k) (pkN y k)
def errF (f : Int) (x y : List Nat) : Nat → Int
  | 0 => 0
  | k + 1 => if errF f x y k ≠ 0 then errF f x y k else errA f (pkN x k) (pkN y k)
theorem errF_zero {f : Int} {x y : List Nat} {k : Nat} (h : errF f x y k = 0) : ∀ j, j < k → errA f (pkN x j) (pkN y j) = 0 := by
  induction k with
  | zero => intro j hj; omega
  | succ k ih =>
    unfold errF at h
    split at h
    · exact absurd h (by assumption)
    · intro j hj
      by_cases e : j = k
      · subst e; exact h
      · exact ih (by rename_i h2; exact Decidable.not_not.1 h2) j (by omega)
theorem errF_of {f : Int} {x y : List Nat} {k : Nat} (h : ∀ j, j < k → errA f (pkN x j) (pkN y j) = 0) : errF f x y k = 0 := by
  induction k with
  | zero => rfl
  | succ k ih => unfold errF; rw [if_neg (by rw [ih fun j hj => h j (by omega)]; decide)]; exact h k (by omega)
theorem errF_stay {f : Int} {x y : List Nat} {k n : Nat} (h : errF f x y k ≠ 0) (hk : k ≤ n) : errF f x y n = errF f x y k := by
  induction hk with
  | refl => rfl
  | step _ ih => show (if _ then _ else _) = _; rw [if_pos (by rw [ih]; exact h), ih]
theorem resL_length (f : Int) (x y : List Nat) (N : Nat) : (resL f x y N).length = N := by simp [resL]
theorem resL_tidy (f : Int) {x y : List Nat} {N : Nat} (hx : ∀ i ∈ x, tidy i) (hy : ∀ i ∈ y, tidy i) (lx : x.length = N ∨ x.length = 1) (ly : y.length = N ∨ y.length = 1) : ∀ i ∈ resL f x y N, tidy i := by
  intro i hi
  simp only [resL, List.mem_map, List.mem_range] at hi
  obtain ⟨k, hk, rfl⟩ := hi
  exact valA_tidy f (hx _ (getD_memN (ixN_lt lx hk))) (hy _ (getD_memN (ixN_lt ly hk)))
theorem resL_row (f : Int) (x y : List Nat) (N : Nat) : f64s (resL f x y N) = fillL (fun k => .float .f64 (valA f (pkN x k) (pkN y k))) (.float .f64 0) N N := by
  rw [fillL_full]; simp [f64s, resL]
set_option maxHeartbeats 2000000
set_option maxRecDepth 100000
def FloatsP (L : List Nat) (er : Int) (w : World) (e : Ending) (w' : World) : Prop := ∃ p, e = .returned (.tuple #[p, .int .i64 er]) ∧ (er ≠ 0 → p = zeroVec) ∧ (er = 0 → NumS w' p (leastL L) L (New w.heap.size)) ∧ Ext w w'
theorem floats_r (f : Int) (v u : Value) (K J : Nat) (x y : List Nat) (N : Nat) (hN2 : N ≤ 1048576) (hx : x.length = N ∨ x.length = 1) (hy : y.length = N ∨ y.length = 1) (w : World) (hv : IsNum w v K x) (hu : IsNum w u J y) : Calls Try.prog 70 #[.int .i64 f, .int .i64 (N : Int), v, u] w (FloatsP (resL f x y N) (errF f x y N) w) := by
  have hF := hv.flat
  have hG := hu.flat
  have NV := NumS.all hv
  have NU := NumS.all hu
  have ca : ∀ k w, IsNum w v K x → Calls Try.prog 95 #[v, .int .i64 (k : Nat)] w fun e w' => e = .returned (.int .i64 (ixN x.length k : Int)) ∧ Ext w w' := fun k w h => by
    obtain ⟨d, hd, _, _, _, hl⟩ := h
    have := at_r v d k w hd
    rwa [show d.len = x.length by rw [← hl, VD.nums_length]] at this
  have cb : ∀ k w, IsNum w u J y → Calls Try.prog 95 #[u, .int .i64 (k : Nat)] w fun e w' => e = .returned (.int .i64 (ixN y.length k : Int)) ∧ Ext w w' := fun k w h => by
    obtain ⟨d, hd, _, _, _, hl⟩ := h
    have := at_r u d k w hd
    rwa [show d.len = y.length by rw [← hl, VD.nums_length]] at this
  have cn : ∀ k w, k < N → IsNum w v K x → Calls Try.prog 51 #[v, .int .i64 (ixN x.length k : Nat)] w fun e w' => e = .returned (.float .f64 (pkN x k)) ∧ Ext w w' := fun k w hk h => nnum_in v K x _ w h (ixN_lt hx hk)
  have cm : ∀ k w, k < N → IsNum w u J y → Calls Try.prog 51 #[u, .int .i64 (ixN y.length k : Nat)] w fun e w' => e = .returned (.float .f64 (pkN y k)) ∧ Ext w w' := fun k w hk h => nnum_in u J y _ w h (ixN_lt hy hk)
  have tx := hv.tidy
  have ty := hu.tidy
  have co : ∀ k w, k < N → Calls Try.prog 33 #[.int .i64 f, .float .f64 (pkN x k), .float .f64 (pkN y k)] w fun e w' => e = .returned (.tuple #[.float .f64 (valA f (pkN x k) (pkN y k)), .int .i64 (errA f (pkN x k) (pkN y k))]) ∧ Ext w w' := fun k w hk => (ao_any f _ _ (tx _ (getD_memN (ixN_lt hx hk))) (ty _ (getD_memN (ixN_lt hy hk))) w).mono fun e w2 h => ⟨h.1, h.2 ▸ Ext.refl _⟩
  have tr := resL_tidy f tx ty hx hy
  have lr := resL_length f x y N
  have cnu : ∀ g w, RowO 56 w g N (fillL (fun k => .float .f64 (valA f (pkN x k) (pkN y k))) (.float .f64 0) N N) → Calls Try.prog 45 #[.slice (some ⟨g, 0, none⟩) N N] w (NewNum (leastL (resL f x y N)) (resL f x y N) w) := fun g w h => by
    have h2 := h.sl
    rw [← resL_row] at h2
    have := numbers_yes (some ⟨g, 0, none⟩) (resL f x y N) N lr.symm (fun i hi => (tr i hi).2.1) (List.all_eq_true.2 fun i hi => decide_eq_true (tr i hi).1) N w hN2 h2
    rwa [dnL_tidy_eq tr] at this
  have HE : Hid (∀ k, errF f x y (k + 1) = if errF f x y k ≠ 0 then errF f x y k else errA f (pkN x k) (pkN y k)) := fun k => rfl
  have HS : Hid (∀ k, errF f x y k ≠ 0 → k ≤ N → errF f x y N = errF f x y k) := fun k h hk => errF_stay h hk
  have H0 : Hid (errF f x y 0 = 0) := rfl
  clear hv hu hx hy tx ty tr lr
  generalize resL f x y N = RL at *
  obtain ⟨EF, hEF⟩ : ∃ EF : Nat → Int, errF f x y = EF := ⟨_, rfl⟩
  rw [hEF] at HE HS H0 ⊢
  clear hEF
  obtain ⟨FN, hFN⟩ : ∃ FN : Nat → Value, (fun k => Value.float .f64 (valA f (pkN x k) (pkN y k))) = FN := ⟨_, rfl⟩
  have HFN := Lib.hid fun k => congrFun hFN k
  rw [hFN] at cnu
  clear hFN
  unfold FloatsP
  have E := Ext.refl w
  go_enter Try.func70, Try.ntmps70
  have TB6 : True := trivial
  have TB7 : True := trivial
  have TB8 : True := trivial
  have TM17 : True := trivial
  go_wp2_with (first | (clear TB6; refine boxsV (v := v) rfl rfl rfl hF ?_; intro B6 w6 bB6 cB6 XB6 LB6 RB6; have z1 := XB6.size; replace E := E.trans XB6; replace NV := NV.ext XB6; replace NU := NU.ext XB6; clear RB6) | (clear TB7; refine boxsV (v := u) rfl rfl rfl hG ?_; intro B7 w7 bB7 cB7 XB7 LB7 RB7; have z2 := XB7.size; replace E := E.trans XB7; replace NV := NV.ext XB7; replace NU := NU.ext XB7; replace LB6 := LB6.ext XB7; clear RB7) | (clear TB8; refine allocsV rfl rfl ?_; intro B8 w8 bB8 cB8 XB8 LB8 RB8; have z3 := XB8.size; replace E := E.trans XB8; replace NV := NV.ext XB8; replace NU := NU.ext XB8; replace LB6 := LB6.ext XB8; replace LB7 := LB7.ext XB8) | (clear TM17; refine maker_f64 rfl rfl (n := N) rfl hN2 ?_; intro g17 w17 bg17 cg17 X17 Og17; have z4 := X17.size; replace E := E.trans X17; replace NV := NV.ext X17; replace NU := NU.ext X17; replace LB6 := LB6.ext X17; replace LB7 := LB7.ext X17; replace LB8 := LB8.ext X17; replace RB8 := RB8.ext X17; clear X17))
  go_loopw [20] (fun i wr => ∃ k : Nat, k ≤ N ∧ i = .int .i64 k ∧ EF k = 0 ∧ Grw w17 g17 wr ∧ RowO 56 wr g17 N (fillL FN (.float .f64 0) N k)) (fun i _ => N - (intOf i).toNat)
  case atStart => exact ⟨0, Nat.zero_le _, rfl, H0.out, Grw.refl _ _, by rw [fillL_zero]; exact Og17⟩
  case round =>
    obtain ⟨k, hk, rfl, hup, HG, O2⟩ := hrel
    clear Og17
    have Og17 := O2
    clear O2
    have z5 := HG.out.size
    replace E := grown_ext E HG.out (by omega)
    replace NV := NV.grown HG.out (by omega)
    replace NU := NU.grown HG.out (by omega)
    replace LB6 := LB6.grown HG.out (by omega)
    replace LB7 := LB7.grown HG.out (by omega)
    replace LB8 := LB8.grown HG.out (by omega)
    replace RB8 := RB8.grown HG.out (by omega)
    rcases (by by_cases h1 : k < N; (by_cases h2 : errA f (pkN x k) (pkN y k) = 0; exact .inl ⟨h1, h2⟩; exact .inr (.inl ⟨h1, h2⟩)); exact .inr (.inr h1) : (k < N ∧ errA f (pkN x k) (pkN y k) = 0) ∨ (k < N ∧ ¬ errA f (pkN x k) (pkN y k) = 0) ∨ ¬ k < N) with ⟨hlt, hz⟩ | ⟨hlt, hz⟩ | hlt
    · have ca' := fun w => ca k w
      have cb' := fun w => cb k w
      have cn' := fun w => cn k w hlt
      have cm' := fun w => cm k w hlt
      have co' := fun w => co k w hlt
      have HFk := Lib.hid (HFN.out k)
      have HEk := Lib.hid (HE.out k)
      have HFK := Lib.hid (fillL_set FN (.float .f64 0) hlt)
      have HUk := Lib.hid hup
      clear ca cb cn cm co hup cnu
      generalize pkN x k = xk at *
      generalize pkN y k = yk at *
      generalize errA f xk yk = ek at *
      generalize valA f xk yk = rb at *
      generalize ixN x.length k = ik at *
      generalize ixN y.length k = jk at *
      have e39 : (ek != 0) = false := by simpa using hz
      go_wp2_with fail
      try simp only [Act.put, List.setIfInBounds_toArray, List.set_cons_zero, List.set_cons_succ]
      have hq6 : wr.heap.size ≤ wr.drew.heap.size := Nat.le_refl _
      have z7 := (Ext.refl wr).drew.size
      replace E := E.trans (Ext.refl wr).drew
      replace NV := NV.ext (Ext.refl wr).drew
      replace NU := NU.ext (Ext.refl wr).drew
      replace LB6 := LB6.ext (Ext.refl wr).drew
      replace LB7 := LB7.ext (Ext.refl wr).drew
      replace LB8 := LB8.ext (Ext.refl wr).drew
      replace RB8 := RB8.ext (Ext.refl wr).drew
      replace Og17 := Og17.ext (Ext.refl wr).drew
      replace HG := HG.ext (Ext.refl wr).drew
      refine wp_region_held_drew (S := (fun w' => Lay 8 w' B6 v ∧ Lay 8 w' B7 u)) (by kernel_rfl) ⟨LB6, LB7⟩ (fun hHeld => ?_)
      refine wpAnyH_take (i := 0) (oi := { dst := some 24, op := Go.Op.move (Go.Operand.tmp 0), type := 3, pos := "arith.go:83", after := #[], guard := none }) (v := ?v8) rfl (by kernel_rfl) (by kernel_rfl) (by kernel_rfl) (fun _ _ _ h => h) (Or.inl ⟨by rfl, ?hy8⟩) hHeld ?rest8
      case hy8 => (intro w hSw; (try dsimp only at hSw); go_simp; (first | done | with_reducible rfl))
      try simp only [Act.put, List.setIfInBounds_toArray, List.set_cons_zero, List.set_cons_succ]
      refine wpAnyH_take (i := 1) (oi := { dst := some 25, op := Go.Op.load 41 (Go.Operand.tmp 6), type := 41, pos := "arith.go:83", after := #[], guard := none }) (v := v) rfl (by kernel_rfl) (by kernel_rfl) (by kernel_rfl) (fun _ _ _ h => h) (yieldV (by rfl) rfl rfl fun w' hx => hx.1) hHeld ?_
      try simp only [Act.put, List.setIfInBounds_toArray, List.set_cons_zero, List.set_cons_succ]
      refine wpAnyH_take (i := 2) (oi := { dst := some 26, op := Go.Op.load 41 (Go.Operand.tmp 6), type := 41, pos := "arith.go:83", after := #[], guard := none }) (v := v) rfl (by kernel_rfl) (by kernel_rfl) (by kernel_rfl) (fun _ _ _ h => h) (yieldV (by rfl) rfl rfl fun w' hx => hx.1) hHeld ?_
      try simp only [Act.put, List.setIfInBounds_toArray, List.set_cons_zero, List.set_cons_succ]
      refine wpAnyH_take (i := 3) (oi := { dst := some 27, op := Go.Op.move (Go.Operand.tmp 11), type := 3, pos := "arith.go:83", after := #[], guard := none }) (v := ?v11) rfl (by kernel_rfl) (by kernel_rfl) (by kernel_rfl) (fun _ _ _ h => h) (Or.inl ⟨by rfl, ?hy11⟩) hHeld ?rest11
      case hy11 => (intro w hSw; (try dsimp only at hSw); go_simp; (first | done | with_reducible rfl))
      try simp only [Act.put, List.setIfInBounds_toArray, List.set_cons_zero, List.set_cons_succ]
      refine wpAnyH_take (i := 6) (oi := { dst := some 30, op := Go.Op.load 41 (Go.Operand.tmp 7), type := 41, pos := "arith.go:83", after := #[], guard := none }) (v := u) rfl (by kernel_rfl) (by kernel_rfl) (by kernel_rfl) (fun _ _ _ h => h) (yieldV (by rfl) rfl rfl fun w' hx => hx.2) hHeld ?_
      try simp only [Act.put, List.setIfInBounds_toArray, List.set_cons_zero, List.set_cons_succ]
      refine wpAnyH_take (i := 7) (oi := { dst := some 31, op := Go.Op.load 41 (Go.Operand.tmp 7), type := 41, pos := "arith.go:83", after := #[], guard := none }) (v := u) rfl (by kernel_rfl) (by kernel_rfl) (by kernel_rfl) (fun _ _ _ h => h) (yieldV (by rfl) rfl rfl fun w' hx => hx.2) hHeld ?_
      try simp only [Act.put, List.setIfInBounds_toArray, List.set_cons_zero, List.set_cons_succ]
      refine wpAnyH_take (i := 8) (oi := { dst := some 32, op := Go.Op.move (Go.Operand.tmp 11), type := 3, pos := "arith.go:83", after := #[], guard := none }) (v := ?v14) rfl (by kernel_rfl) (by kernel_rfl) (by kernel_rfl) (fun _ _ _ h => h) (Or.inl ⟨by rfl, ?hy14⟩) hHeld ?rest14
      case hy14 => (intro w hSw; (try dsimp only at hSw); go_simp; (first | done | with_reducible rfl))
      try simp only [Act.put, List.setIfInBounds_toArray, List.set_cons_zero, List.set_cons_succ]
      refine wpAnyH_ready (rs := [4]) (by kernel_rfl) (by simp) ?_
      refine AllReadyH.cons (o := { dst := some 28, op := Go.Op.call { callee := Go.Callee.value (Go.Operand.func 95), args := #[Go.Operand.tmp 26, Go.Operand.tmp 27], argTypes := #[41, 3] }, type := 3, pos := "arith.go:83", after := #[{ on := 2, ground := Go.Ground.data }, { on := 3, ground := Go.Ground.data }], guard := none }) rfl (fun K hK => ?_) (AllReadyH.nil)
      go_simp
      refine (ca' _ NV.is).mono ?_
      rintro e w28 ⟨rfl, x'⟩
      have z15 := x'.size
      replace E := E.trans x'
      replace NV := NV.ext x'
      replace NU := NU.ext x'
      replace LB6 := LB6.ext x'
      replace LB7 := LB7.ext x'
      replace LB8 := LB8.ext x'
      replace RB8 := RB8.ext x'
      replace Og17 := Og17.ext x'
      replace HG := HG.ext x'
      clear x'
      clear hHeld
      have hHeld := And.intro LB6 (LB7)
      refine hK.out _ _ hHeld (fun _ => ?_)
      clear hK K
      try simp only [Act.put, List.setIfInBounds_toArray, List.set_cons_zero, List.set_cons_succ]
      refine wpAnyH_ready (rs := [5]) (by kernel_rfl) (by simp) ?_
      refine AllReadyH.cons (o := { dst := some 29, op := Go.Op.call { callee := Go.Callee.value (Go.Operand.func 51), args := #[Go.Operand.tmp 25, Go.Operand.tmp 28], argTypes := #[41, 3] }, type := 56, pos := "arith.go:83", after := #[{ on := 1, ground := Go.Ground.data }, { on := 4, ground := Go.Ground.data }, { on := 4, ground := Go.Ground.chain }], guard := none }) rfl (fun K hK => ?_) (AllReadyH.nil)
      go_simp
      refine (cn' _ NV.is).mono ?_
      rintro e w29 ⟨rfl, x'⟩
      have z16 := x'.size
      replace E := E.trans x'
      replace NV := NV.ext x'
      replace NU := NU.ext x'
      replace LB6 := LB6.ext x'
      replace LB7 := LB7.ext x'
      replace LB8 := LB8.ext x'
      replace RB8 := RB8.ext x'
      replace Og17 := Og17.ext x'
      replace HG := HG.ext x'
      clear x'
      clear hHeld
      have hHeld := And.intro LB6 (LB7)
      refine hK.out _ _ hHeld (fun _ => ?_)
      clear hK K
      try simp only [Act.put, List.setIfInBounds_toArray, List.set_cons_zero, List.set_cons_succ]
      refine wpAnyH_ready (rs := [9]) (by kernel_rfl) (by simp) ?_
      refine AllReadyH.cons (o := { dst := some 33, op := Go.Op.call { callee := Go.Callee.value (Go.Operand.func 95), args := #[Go.Operand.tmp 31, Go.Operand.tmp 32], argTypes := #[41, 3] }, type := 3, pos := "arith.go:83", after := #[{ on := 7, ground := Go.Ground.data }, { on := 8, ground := Go.Ground.data }, { on := 5, ground := Go.Ground.chain }], guard := none }) rfl (fun K hK => ?_) (AllReadyH.nil)
      go_simp
      refine (cb' _ NU.is).mono ?_
      rintro e w33 ⟨rfl, x'⟩
      have z17 := x'.size
      replace E := E.trans x'
      replace NV := NV.ext x'
      replace NU := NU.ext x'
      replace LB6 := LB6.ext x'
      replace LB7 := LB7.ext x'
      replace LB8 := LB8.ext x'
      replace RB8 := RB8.ext x'
      replace Og17 := Og17.ext x'
      replace HG := HG.ext x'
      clear x'
      clear hHeld
      have hHeld := And.intro LB6 (LB7)
      refine hK.out _ _ hHeld (fun _ => ?_)
      clear hK K
      try simp only [Act.put, List.setIfInBounds_toArray, List.set_cons_zero, List.set_cons_succ]
      refine wpAnyH_ready (rs := [10]) (by kernel_rfl) (by simp) ?_
      refine AllReadyH.cons (o := { dst := some 34, op := Go.Op.call { callee := Go.Callee.value (Go.Operand.func 51), args := #[Go.Operand.tmp 30, Go.Operand.tmp 33], argTypes := #[41, 3] }, type := 56, pos := "arith.go:83", after := #[{ on := 6, ground := Go.Ground.data }, { on := 9, ground := Go.Ground.data }, { on := 9, ground := Go.Ground.chain }], guard := none }) rfl (fun K hK => ?_) (AllReadyH.nil)
      go_simp
      refine (cm' _ NU.is).mono ?_
      rintro e w34 ⟨rfl, x'⟩
      have z18 := x'.size
      replace E := E.trans x'
      replace NV := NV.ext x'
      replace NU := NU.ext x'
      replace LB6 := LB6.ext x'
      replace LB7 := LB7.ext x'
      replace LB8 := LB8.ext x'
      replace RB8 := RB8.ext x'
      replace Og17 := Og17.ext x'
      replace HG := HG.ext x'
      clear x'
      clear hHeld
      have hHeld := And.intro LB6 (LB7)
      refine hK.out _ _ hHeld (fun _ => ?_)
      clear hK K
      try simp only [Act.put, List.setIfInBounds_toArray, List.set_cons_zero, List.set_cons_succ]
      refine wpAnyH_ready (rs := [11]) (by kernel_rfl) (by simp) ?_
      refine AllReadyH.cons (o := { dst := some 35, op := Go.Op.call { callee := Go.Callee.value (Go.Operand.func 33), args := #[Go.Operand.tmp 24, Go.Operand.tmp 29, Go.Operand.tmp 34], argTypes := #[3, 56, 56] }, type := 70, pos := "arith.go:83", after := #[{ on := 0, ground := Go.Ground.data }, { on := 5, ground := Go.Ground.data }, { on := 10, ground := Go.Ground.data }, { on := 10, ground := Go.Ground.chain }], guard := none }) rfl (fun K hK => ?_) (AllReadyH.nil)
      go_simp
      refine (co' _).mono ?_
      rintro e w35 ⟨rfl, x'⟩
      have z19 := x'.size
      replace E := E.trans x'
      replace NV := NV.ext x'
      replace NU := NU.ext x'
      replace LB6 := LB6.ext x'
      replace LB7 := LB7.ext x'
      replace LB8 := LB8.ext x'
      replace RB8 := RB8.ext x'
      replace Og17 := Og17.ext x'
      replace HG := HG.ext x'
      clear x'
      clear hHeld
      have hHeld := And.intro LB6 (LB7)
      refine hK.out _ _ hHeld (fun _ => ?_)
      clear hK K
      try simp only [Act.put, List.setIfInBounds_toArray, List.set_cons_zero, List.set_cons_succ]
      refine wpAnyH_take (i := 12) (oi := { dst := some 23, op := Go.Op.move (Go.Operand.tmp 35), type := 70, pos := "arith.go:83", after := #[{ on := 11, ground := Go.Ground.data }], guard := none }) (v := ?v20) rfl (by kernel_rfl) (by kernel_rfl) (by kernel_rfl) (fun _ _ _ h => h) (Or.inl ⟨by rfl, ?hy20⟩) hHeld ?rest20
      case hy20 => (intro w hSw; (try dsimp only at hSw); go_simp; (first | done | with_reducible rfl))
      try simp only [Act.put, List.setIfInBounds_toArray, List.set_cons_zero, List.set_cons_succ]
      refine wpAnyH_take (i := 13) (oi := { dst := some 36, op := Go.Op.extract (Go.Operand.tmp 23) 0, type := 56, pos := "arith.go:83", after := #[{ on := 12, ground := Go.Ground.data }], guard := none }) (v := ?v21) rfl (by kernel_rfl) (by kernel_rfl) (by kernel_rfl) (fun _ _ _ h => h) (Or.inl ⟨by rfl, ?hy21⟩) hHeld ?rest21
      case hy21 => (intro w hSw; (try dsimp only at hSw); go_simp; (first | done | with_reducible rfl))
      try simp only [Act.put, List.setIfInBounds_toArray, List.set_cons_zero, List.set_cons_succ]
      refine wpAnyH_take (i := 14) (oi := { dst := some 37, op := Go.Op.extract (Go.Operand.tmp 23) 1, type := 69, pos := "arith.go:83", after := #[{ on := 12, ground := Go.Ground.data }, { on := 15, ground := Go.Ground.gcOnly Go.Departure.lateStores }], guard := none }) (v := ?v22) rfl (by kernel_rfl) (by kernel_rfl) (by kernel_rfl) (fun _ _ _ h => h) (Or.inl ⟨by rfl, ?hy22⟩) hHeld ?rest22
      case hy22 => (intro w hSw; (try dsimp only at hSw); go_simp; (first | done | with_reducible rfl))
      try simp only [Act.put, List.setIfInBounds_toArray, List.set_cons_zero, List.set_cons_succ]
      refine wpAnyH_take (i := 15) (oi := { dst := some 12, op := Go.Op.assign (Go.Operand.tmp 36), type := 56, pos := "arith.go:83", after := #[{ on := 13, ground := Go.Ground.data }, { on := 11, ground := Go.Ground.chain }, { on := 0, ground := Go.Ground.phase }, { on := 1, ground := Go.Ground.phase }, { on := 2, ground := Go.Ground.phase }, { on := 3, ground := Go.Ground.phase }, { on := 4, ground := Go.Ground.phase }, { on := 5, ground := Go.Ground.phase }, { on := 6, ground := Go.Ground.phase }, { on := 7, ground := Go.Ground.phase }, { on := 8, ground := Go.Ground.phase }, { on := 9, ground := Go.Ground.phase }, { on := 10, ground := Go.Ground.phase }, { on := 11, ground := Go.Ground.phase }, { on := 12, ground := Go.Ground.phase }, { on := 13, ground := Go.Ground.phase }, { on := 14, ground := Go.Ground.textOnly Go.Departure.lateStores }], guard := none }) (v := ?v23) rfl (by kernel_rfl) (by kernel_rfl) (by kernel_rfl) (fun _ _ _ h => h) (Or.inl ⟨by rfl, ?hy23⟩) hHeld ?rest23
      case hy23 => (intro w hSw; (try dsimp only at hSw); go_simp; (first | done | with_reducible rfl))
      try simp only [Act.put, List.setIfInBounds_toArray, List.set_cons_zero, List.set_cons_succ]
      refine wpAnyH_take (i := 16) (oi := { dst := some 13, op := Go.Op.assign (Go.Operand.tmp 37), type := 69, pos := "arith.go:83", after := #[{ on := 14, ground := Go.Ground.data }, { on := 15, ground := Go.Ground.chain }, { on := 0, ground := Go.Ground.phase }, { on := 1, ground := Go.Ground.phase }, { on := 2, ground := Go.Ground.phase }, { on := 3, ground := Go.Ground.phase }, { on := 4, ground := Go.Ground.phase }, { on := 5, ground := Go.Ground.phase }, { on := 6, ground := Go.Ground.phase }, { on := 7, ground := Go.Ground.phase }, { on := 8, ground := Go.Ground.phase }, { on := 9, ground := Go.Ground.phase }, { on := 10, ground := Go.Ground.phase }, { on := 11, ground := Go.Ground.phase }, { on := 12, ground := Go.Ground.phase }, { on := 13, ground := Go.Ground.phase }, { on := 14, ground := Go.Ground.phase }, { on := 15, ground := Go.Ground.phase }], guard := none }) (v := ?v24) rfl (by kernel_rfl) (by kernel_rfl) (by kernel_rfl) (fun _ _ _ h => h) (Or.inl ⟨by rfl, ?hy24⟩) hHeld ?rest24
      case hy24 => (intro w hSw; (try dsimp only at hSw); go_simp; (first | done | with_reducible rfl))
      try simp only [Act.put, List.setIfInBounds_toArray, List.set_cons_zero, List.set_cons_succ]
      refine wpAnyH_done (by kernel_rfl) ?_ _
      have TG25 : True := trivial
      go_wp2_with (clear TG25; have hRl := Og17.lt; refine storesr_f64 rfl rfl (g := g17) (k := k) (n := N) (by rfl) rfl (by rfl) Og17 hlt ?_; clear Og17; intro s25 G25 Og17; have z26 := G25.size; replace E := grown_ext E G25 (by omega); replace NV := NV.grown G25 (by omega); replace NU := NU.grown G25 (by omega); replace LB6 := LB6.grown G25 (by omega); replace LB7 := LB7.grown G25 (by omega); replace LB8 := LB8.grown G25 (by omega); replace RB8 := RB8.grown G25 (by omega); replace HG := HG.grown G25 (by omega); clear hRl G25)
      exact ⟨⟨k + 1, by omega, by go_num, by rw [HEk.out, if_neg (by rw [HUk.out]; decide)]; exact hz, HG, by rw [← HFK.out, ← HFk.out]; exact Og17⟩, by simp [intOf]; omega⟩
    · have ca' := fun w => ca k w
      have cb' := fun w => cb k w
      have cn' := fun w => cn k w hlt
      have cm' := fun w => cm k w hlt
      have co' := fun w => co k w hlt
      have HFk := Lib.hid (HFN.out k)
      have HEk := Lib.hid (HE.out k)
      have HFK := Lib.hid (fillL_set FN (.float .f64 0) hlt)
      have HUk := Lib.hid hup
      clear ca cb cn cm co hup cnu
      generalize pkN x k = xk at *
      generalize pkN y k = yk at *
      generalize errA f xk yk = ek at *
      generalize valA f xk yk = rb at *
      generalize ixN x.length k = ik at *
      generalize ixN y.length k = jk at *
      have e39 : (ek != 0) = true := by simpa using hz
      clear HG
      go_wp2_with fail
      try simp only [Act.put, List.setIfInBounds_toArray, List.set_cons_zero, List.set_cons_succ]
      have hq27 : wr.heap.size ≤ wr.drew.heap.size := Nat.le_refl _
      have z28 := (Ext.refl wr).drew.size
      replace E := E.trans (Ext.refl wr).drew
      replace NV := NV.ext (Ext.refl wr).drew
      replace NU := NU.ext (Ext.refl wr).drew
      replace LB6 := LB6.ext (Ext.refl wr).drew
      replace LB7 := LB7.ext (Ext.refl wr).drew
      replace LB8 := LB8.ext (Ext.refl wr).drew
      replace RB8 := RB8.ext (Ext.refl wr).drew
      replace Og17 := Og17.ext (Ext.refl wr).drew
      refine wp_region_held_drew (S := (fun w' => Lay 8 w' B6 v ∧ Lay 8 w' B7 u)) (by kernel_rfl) ⟨LB6, LB7⟩ (fun hHeld => ?_)
      refine wpAnyH_take (i := 0) (oi := { dst := some 24, op := Go.Op.move (Go.Operand.tmp 0), type := 3, pos := "arith.go:83", after := #[], guard := none }) (v := ?v29) rfl (by kernel_rfl) (by kernel_rfl) (by kernel_rfl) (fun _ _ _ h => h) (Or.inl ⟨by rfl, ?hy29⟩) hHeld ?rest29
      case hy29 => (intro w hSw; (try dsimp only at hSw); go_simp; (first | done | with_reducible rfl))
      try simp only [Act.put, List.setIfInBounds_toArray, List.set_cons_zero, List.set_cons_succ]
      refine wpAnyH_take (i := 1) (oi := { dst := some 25, op := Go.Op.load 41 (Go.Operand.tmp 6), type := 41, pos := "arith.go:83", after := #[], guard := none }) (v := v) rfl (by kernel_rfl) (by kernel_rfl) (by kernel_rfl) (fun _ _ _ h => h) (yieldV (by rfl) rfl rfl fun w' hx => hx.1) hHeld ?_
      try simp only [Act.put, List.setIfInBounds_toArray, List.set_cons_zero, List.set_cons_succ]
      refine wpAnyH_take (i := 2) (oi := { dst := some 26, op := Go.Op.load 41 (Go.Operand.tmp 6), type := 41, pos := "arith.go:83", after := #[], guard := none }) (v := v) rfl (by kernel_rfl) (by kernel_rfl) (by kernel_rfl) (fun _ _ _ h => h) (yieldV (by rfl) rfl rfl fun w' hx => hx.1) hHeld ?_
      try simp only [Act.put, List.setIfInBounds_toArray, List.set_cons_zero, List.set_cons_succ]
      refine wpAnyH_take (i := 3) (oi := { dst := some 27, op := Go.Op.move (Go.Operand.tmp 11), type := 3, pos := "arith.go:83", after := #[], guard := none }) (v := ?v32) rfl (by kernel_rfl) (by kernel_rfl) (by kernel_rfl) (fun _ _ _ h => h) (Or.inl ⟨by rfl, ?hy32⟩) hHeld ?rest32
      case hy32 => (intro w hSw; (try dsimp only at hSw); go_simp; (first | done | with_reducible rfl))
      try simp only [Act.put, List.setIfInBounds_toArray, List.set_cons_zero, List.set_cons_succ]
      refine wpAnyH_take (i := 6) (oi := { dst := some 30, op := Go.Op.load 41 (Go.Operand.tmp 7), type := 41, pos := "arith.go:83", after := #[], guard := none }) (v := u) rfl (by kernel_rfl) (by kernel_rfl) (by kernel_rfl) (fun _ _ _ h => h) (yieldV (by rfl) rfl rfl fun w' hx => hx.2) hHeld ?_
      try simp only [Act.put, List.setIfInBounds_toArray, List.set_cons_zero, List.set_cons_succ]
      refine wpAnyH_take (i := 7) (oi := { dst := some 31, op := Go.Op.load 41 (Go.Operand.tmp 7), type := 41, pos := "arith.go:83", after := #[], guard := none }) (v := u) rfl (by kernel_rfl) (by kernel_rfl) (by kernel_rfl) (fun _ _ _ h => h) (yieldV (by rfl) rfl rfl fun w' hx => hx.2) hHeld ?_
      try simp only [Act.put, List.setIfInBounds_toArray, List.set_cons_zero, List.set_cons_succ]
      refine wpAnyH_take (i := 8) (oi := { dst := some 32, op := Go.Op.move (Go.Operand.tmp 11), type := 3, pos := "arith.go:83", after := #[], guard := none }) (v := ?v35) rfl (by kernel_rfl) (by kernel_rfl) (by kernel_rfl) (fun _ _ _ h => h) (Or.inl ⟨by rfl, ?hy35⟩) hHeld ?rest35
      case hy35 => (intro w hSw; (try dsimp only at hSw); go_simp; (first | done | with_reducible rfl))
      try simp only [Act.put, List.setIfInBounds_toArray, List.set_cons_zero, List.set_cons_succ]
      refine wpAnyH_ready (rs := [4]) (by kernel_rfl) (by simp) ?_
      refine AllReadyH.cons (o := { dst := some 28, op := Go.Op.call { callee := Go.Callee.value (Go.Operand.func 95), args := #[Go.Operand.tmp 26, Go.Operand.tmp 27], argTypes := #[41, 3] }, type := 3, pos := "arith.go:83", after := #[{ on := 2, ground := Go.Ground.data }, { on := 3, ground := Go.Ground.data }], guard := none }) rfl (fun K hK => ?_) (AllReadyH.nil)
      go_simp
      refine (ca' _ NV.is).mono ?_
      rintro e w28 ⟨rfl, x'⟩
      have z36 := x'.size
      replace E := E.trans x'
      replace NV := NV.ext x'
      replace NU := NU.ext x'
      replace LB6 := LB6.ext x'
      replace LB7 := LB7.ext x'
      replace LB8 := LB8.ext x'
      replace RB8 := RB8.ext x'
      replace Og17 := Og17.ext x'
      clear x'
      clear hHeld
      have hHeld := And.intro LB6 (LB7)
      refine hK.out _ _ hHeld (fun _ => ?_)
      clear hK K
      try simp only [Act.put, List.setIfInBounds_toArray, List.set_cons_zero, List.set_cons_succ]
      refine wpAnyH_ready (rs := [5]) (by kernel_rfl) (by simp) ?_
      refine AllReadyH.cons (o := { dst := some 29, op := Go.Op.call { callee := Go.Callee.value (Go.Operand.func 51), args := #[Go.Operand.tmp 25, Go.Operand.tmp 28], argTypes := #[41, 3] }, type := 56, pos := "arith.go:83", after := #[{ on := 1, ground := Go.Ground.data }, { on := 4, ground := Go.Ground.data }, { on := 4, ground := Go.Ground.chain }], guard := none }) rfl (fun K hK => ?_) (AllReadyH.nil)
      go_simp
      refine (cn' _ NV.is).mono ?_
      rintro e w29 ⟨rfl, x'⟩
      have z37 := x'.size
      replace E := E.trans x'
      replace NV := NV.ext x'
      replace NU := NU.ext x'
      replace LB6 := LB6.ext x'
      replace LB7 := LB7.ext x'
      replace LB8 := LB8.ext x'
      replace RB8 := RB8.ext x'
      replace Og17 := Og17.ext x'
      clear x'
      clear hHeld
      have hHeld := And.intro LB6 (LB7)
      refine hK.out _ _ hHeld (fun _ => ?_)
      clear hK K
      try simp only [Act.put, List.setIfInBounds_toArray, List.set_cons_zero, List.set_cons_succ]
      refine wpAnyH_ready (rs := [9]) (by kernel_rfl) (by simp) ?_
      refine AllReadyH.cons (o := { dst := some 33, op := Go.Op.call { callee := Go.Callee.value (Go.Operand.func 95), args := #[Go.Operand.tmp 31, Go.Operand.tmp 32], argTypes := #[41, 3] }, type := 3, pos := "arith.go:83", after := #[{ on := 7, ground := Go.Ground.data }, { on := 8, ground := Go.Ground.data }, { on := 5, ground := Go.Ground.chain }], guard := none }) rfl (fun K hK => ?_) (AllReadyH.nil)
      go_simp
      refine (cb' _ NU.is).mono ?_
      rintro e w33 ⟨rfl, x'⟩
      have z38 := x'.size
      replace E := E.trans x'
      replace NV := NV.ext x'
      replace NU := NU.ext x'
      replace LB6 := LB6.ext x'
      replace LB7 := LB7.ext x'
      replace LB8 := LB8.ext x'
      replace RB8 := RB8.ext x'
      replace Og17 := Og17.ext x'
      clear x'
      clear hHeld
      have hHeld := And.intro LB6 (LB7)
      refine hK.out _ _ hHeld (fun _ => ?_)
      clear hK K
      try simp only [Act.put, List.setIfInBounds_toArray, List.set_cons_zero, List.set_cons_succ]
      refine wpAnyH_ready (rs := [10]) (by kernel_rfl) (by simp) ?_
      refine AllReadyH.cons (o := { dst := some 34, op := Go.Op.call { callee := Go.Callee.value (Go.Operand.func 51), args := #[Go.Operand.tmp 30, Go.Operand.tmp 33], argTypes := #[41, 3] }, type := 56, pos := "arith.go:83", after := #[{ on := 6, ground := Go.Ground.data }, { on := 9, ground := Go.Ground.data }, { on := 9, ground := Go.Ground.chain }], guard := none }) rfl (fun K hK => ?_) (AllReadyH.nil)
      go_simp
      refine (cm' _ NU.is).mono ?_
      rintro e w34 ⟨rfl, x'⟩
      have z39 := x'.size
      replace E := E.trans x'
      replace NV := NV.ext x'
      replace NU := NU.ext x'
      replace LB6 := LB6.ext x'
      replace LB7 := LB7.ext x'
      replace LB8 := LB8.ext x'
      replace RB8 := RB8.ext x'
      replace Og17 := Og17.ext x'
      clear x'
      clear hHeld
      have hHeld := And.intro LB6 (LB7)
      refine hK.out _ _ hHeld (fun _ => ?_)
      clear hK K
      try simp only [Act.put, List.setIfInBounds_toArray, List.set_cons_zero, List.set_cons_succ]
      refine wpAnyH_ready (rs := [11]) (by kernel_rfl) (by simp) ?_
      refine AllReadyH.cons (o := { dst := some 35, op := Go.Op.call { callee := Go.Callee.value (Go.Operand.func 33), args := #[Go.Operand.tmp 24, Go.Operand.tmp 29, Go.Operand.tmp 34], argTypes := #[3, 56, 56] }, type := 70, pos := "arith.go:83", after := #[{ on := 0, ground := Go.Ground.data }, { on := 5, ground := Go.Ground.data }, { on := 10, ground := Go.Ground.data }, { on := 10, ground := Go.Ground.chain }], guard := none }) rfl (fun K hK => ?_) (AllReadyH.nil)
      go_simp
      refine (co' _).mono ?_
      rintro e w35 ⟨rfl, x'⟩
      have z40 := x'.size
      replace E := E.trans x'
      replace NV := NV.ext x'
      replace NU := NU.ext x'
      replace LB6 := LB6.ext x'
      replace LB7 := LB7.ext x'
      replace LB8 := LB8.ext x'
      replace RB8 := RB8.ext x'
      replace Og17 := Og17.ext x'
      clear x'
      clear hHeld
      have hHeld := And.intro LB6 (LB7)
      refine hK.out _ _ hHeld (fun _ => ?_)
      clear hK K
      try simp only [Act.put, List.setIfInBounds_toArray, List.set_cons_zero, List.set_cons_succ]
      refine wpAnyH_take (i := 12) (oi := { dst := some 23, op := Go.Op.move (Go.Operand.tmp 35), type := 70, pos := "arith.go:83", after := #[{ on := 11, ground := Go.Ground.data }], guard := none }) (v := ?v41) rfl (by kernel_rfl) (by kernel_rfl) (by kernel_rfl) (fun _ _ _ h => h) (Or.inl ⟨by rfl, ?hy41⟩) hHeld ?rest41
      case hy41 => (intro w hSw; (try dsimp only at hSw); go_simp; (first | done | with_reducible rfl))
      try simp only [Act.put, List.setIfInBounds_toArray, List.set_cons_zero, List.set_cons_succ]
      refine wpAnyH_take (i := 13) (oi := { dst := some 36, op := Go.Op.extract (Go.Operand.tmp 23) 0, type := 56, pos := "arith.go:83", after := #[{ on := 12, ground := Go.Ground.data }], guard := none }) (v := ?v42) rfl (by kernel_rfl) (by kernel_rfl) (by kernel_rfl) (fun _ _ _ h => h) (Or.inl ⟨by rfl, ?hy42⟩) hHeld ?rest42
      case hy42 => (intro w hSw; (try dsimp only at hSw); go_simp; (first | done | with_reducible rfl))
      try simp only [Act.put, List.setIfInBounds_toArray, List.set_cons_zero, List.set_cons_succ]
      refine wpAnyH_take (i := 14) (oi := { dst := some 37, op := Go.Op.extract (Go.Operand.tmp 23) 1, type := 69, pos := "arith.go:83", after := #[{ on := 12, ground := Go.Ground.data }, { on := 15, ground := Go.Ground.gcOnly Go.Departure.lateStores }], guard := none }) (v := ?v43) rfl (by kernel_rfl) (by kernel_rfl) (by kernel_rfl) (fun _ _ _ h => h) (Or.inl ⟨by rfl, ?hy43⟩) hHeld ?rest43
      case hy43 => (intro w hSw; (try dsimp only at hSw); go_simp; (first | done | with_reducible rfl))
      try simp only [Act.put, List.setIfInBounds_toArray, List.set_cons_zero, List.set_cons_succ]
      refine wpAnyH_take (i := 15) (oi := { dst := some 12, op := Go.Op.assign (Go.Operand.tmp 36), type := 56, pos := "arith.go:83", after := #[{ on := 13, ground := Go.Ground.data }, { on := 11, ground := Go.Ground.chain }, { on := 0, ground := Go.Ground.phase }, { on := 1, ground := Go.Ground.phase }, { on := 2, ground := Go.Ground.phase }, { on := 3, ground := Go.Ground.phase }, { on := 4, ground := Go.Ground.phase }, { on := 5, ground := Go.Ground.phase }, { on := 6, ground := Go.Ground.phase }, { on := 7, ground := Go.Ground.phase }, { on := 8, ground := Go.Ground.phase }, { on := 9, ground := Go.Ground.phase }, { on := 10, ground := Go.Ground.phase }, { on := 11, ground := Go.Ground.phase }, { on := 12, ground := Go.Ground.phase }, { on := 13, ground := Go.Ground.phase }, { on := 14, ground := Go.Ground.textOnly Go.Departure.lateStores }], guard := none }) (v := ?v44) rfl (by kernel_rfl) (by kernel_rfl) (by kernel_rfl) (fun _ _ _ h => h) (Or.inl ⟨by rfl, ?hy44⟩) hHeld ?rest44
      case hy44 => (intro w hSw; (try dsimp only at hSw); go_simp; (first | done | with_reducible rfl))
      try simp only [Act.put, List.setIfInBounds_toArray, List.set_cons_zero, List.set_cons_succ]
      refine wpAnyH_take (i := 16) (oi := { dst := some 13, op := Go.Op.assign (Go.Operand.tmp 37), type := 69, pos := "arith.go:83", after := #[{ on := 14, ground := Go.Ground.data }, { on := 15, ground := Go.Ground.chain }, { on := 0, ground := Go.Ground.phase }, { on := 1, ground := Go.Ground.phase }, { on := 2, ground := Go.Ground.phase }, { on := 3, ground := Go.Ground.phase }, { on := 4, ground := Go.Ground.phase }, { on := 5, ground := Go.Ground.phase }, { on := 6, ground := Go.Ground.phase }, { on := 7, ground := Go.Ground.phase }, { on := 8, ground := Go.Ground.phase }, { on := 9, ground := Go.Ground.phase }, { on := 10, ground := Go.Ground.phase }, { on := 11, ground := Go.Ground.phase }, { on := 12, ground := Go.Ground.phase }, { on := 13, ground := Go.Ground.phase }, { on := 14, ground := Go.Ground.phase }, { on := 15, ground := Go.Ground.phase }], guard := none }) (v := ?v45) rfl (by kernel_rfl) (by kernel_rfl) (by kernel_rfl) (fun _ _ _ h => h) (Or.inl ⟨by rfl, ?hy45⟩) hHeld ?rest45
      case hy45 => (intro w hSw; (try dsimp only at hSw); go_simp; (first | done | with_reducible rfl))
      try simp only [Act.put, List.setIfInBounds_toArray, List.set_cons_zero, List.set_cons_succ]
      refine wpAnyH_done (by kernel_rfl) ?_ _
      have TG46 : True := trivial
      go_wp2_with (clear TG46; have hRl := (RB8).lt (Nat.zero_lt_succ _); refine storesV (B := B8) rfl rfl rfl (v := zeroVec) rfl RB8 zeroVec_flat ?_; clear LB8; intro s46 G46 LB8 RQ; have z47 := G46.size; replace E := grown_ext E G46 (by omega); replace NV := NV.grown G46 (by omega); replace NU := NU.grown G46 (by omega); replace LB6 := LB6.grown G46 (by omega); replace LB7 := LB7.grown G46 (by omega); replace Og17 := Og17.grown G46 (by omega); clear RB8; have RB8 := RQ; clear RQ hRl)
      refine bodyPost_ret (results_lay2 rfl rfl rfl (ldV LB8)) rfl ?_
      refine ⟨zeroVec, by rw [HS.out (k + 1) (by rw [HEk.out, if_neg (by rw [HUk.out]; decide)]; exact hz) (by omega), HEk.out, if_neg (by rw [HUk.out]; decide)]; rfl, fun _ => rfl, fun h => absurd h ?_, E⟩
      rw [HS.out (k + 1) (by rw [HEk.out, if_neg (by rw [HUk.out]; decide)]; exact hz) (by omega), HEk.out, if_neg (by rw [HUk.out]; decide)]
      exact hz
    · have hkN : k = N := by omega
      rw [hkN] at Og17 hup
      have HUN := Lib.hid hup
      clear HG hup
      go_wp2_with fail
      clear LB6 LB7
      refine (cnu g17 _ Og17).mono ?_
      rintro e w49 ⟨p, rfl, hq, x'⟩
      clear Og17
      have NP := hq.now
      have Fp := NP.is.flat
      clear hq
      have z48 := x'.size
      replace E := E.trans x'
      replace NV := NV.ext x'
      replace NU := NU.ext x'
      replace LB8 := LB8.ext x'
      replace RB8 := RB8.ext x'
      clear x'
      have TB14 : True := trivial
      have TG50 : True := trivial
      have TG52 : True := trivial
      go_wp2_with (first | (clear TB14; refine allocsV rfl rfl ?_; intro B14 w14 bB14 cB14 XB14 LB14 RB14; have z49 := XB14.size; replace E := E.trans XB14; replace NV := NV.ext XB14; replace NU := NU.ext XB14; replace LB8 := LB8.ext XB14; replace RB8 := RB8.ext XB14; replace NP := NP.ext XB14) | (clear TG50; have hRl := (RB14).lt (Nat.zero_lt_succ _); refine storesV (B := B14) rfl rfl rfl (v := p) rfl RB14 Fp ?_; clear LB14; intro s50 G50 LB14 RQ; have z51 := G50.size; replace E := grown_ext E G50 (by omega); replace NV := NV.grown G50 (by omega); replace NU := NU.grown G50 (by omega); replace LB8 := LB8.grown G50 (by omega); replace RB8 := RB8.grown G50 (by omega); replace NP := NP.grown G50 (by first | omega | (dsimp only [New]; omega)); clear RB14; have RB14 := RQ; clear RQ hRl; clear RB14) | (refine loadsV (B := B14) (by rfl) rfl rfl LB14 ?_) | (clear TG52; have hRl := (RB8).lt (Nat.zero_lt_succ _); refine storesV (B := B8) rfl rfl rfl (v := p) rfl RB8 Fp ?_; clear LB8; intro s52 G52 LB8 RQ; have z53 := G52.size; replace E := grown_ext E G52 (by omega); replace NV := NV.grown G52 (by omega); replace NU := NU.grown G52 (by omega); replace NP := NP.grown G52 (by first | omega | (dsimp only [New]; omega)); replace LB14 := LB14.grown G52 (by omega); clear RB8; have RB8 := RQ; clear RQ hRl; clear RB8))
      refine bodyPost_ret (results_lay2 rfl rfl rfl (ldV LB8)) rfl ?_
      exact ⟨p, by rw [HUN.out]; rfl, fun h => absurd HUN.out h, fun _ => NP.mono (fun i hi h => by dsimp only [New] at *; omega), E⟩
end Go.Proofs.Ytidnikndjhfgaaa
