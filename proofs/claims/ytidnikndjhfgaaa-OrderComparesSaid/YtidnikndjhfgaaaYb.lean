/- rebusref06.Product, shape.Product. -/
import Derived.Test.YtidnikndjhfgaaaYa
namespace Go.Proofs.Ytidnikndjhfgaaa
open Go.ChangeShapes Go.WideShapes Go.RowKit Bv Fl
set_option maxHeartbeats 2000000
set_option maxRecDepth 100000
theorem i64s_getY {l : List Int} {k : Nat} (h : k < l.length) : (i64s l)[k]? = some (.int .i64 (l.getD k 0)) := i64s_get h
/-- a zero, one below 0, among the first; their product, one of 0 for 1, up to a limit -/
def zF (s : List Int) : Nat → Bool
  | 0 => false
  | k + 1 => zF s k || decide (s.getD k 0 = 0)
def nF (s : List Int) : Nat → Bool
  | 0 => false
  | k + 1 => nF s k || decide (s.getD k 0 < 0)
def pF (s : List Int) : Nat → Option Nat
  | 0 => some 1
  | k + 1 => match pF s k with
    | none => none
    | some n => if n * max 1 (s.getD k 0).toNat ≤ 1048576 then some (n * max 1 (s.getD k 0).toNat) else none
def prE (s : List Int) : Int := if 8 < s.length then 26 else if nF s s.length then 24 else if (pF s s.length).isNone then 26 else 0
def prV (s : List Int) : Nat := if prE s = 0 then (if zF s s.length then 0 else (pF s s.length).getD 0) else 0
theorem pF_rng {s : List Int} {k n : Nat} (h : pF s k = some n) : 1 ≤ n ∧ n ≤ 1048576 := by
  induction k generalizing n with
  | zero => cases h; omega
  | succ k ih =>
    unfold pF at h
    cases hp : pF s k with
    | none => rw [hp] at h; cases h
    | some m =>
      rw [hp] at h
      simp only at h
      have h1 := ih hp
      split at h
      · cases h
        rename_i h2
        exact ⟨Nat.mul_pos h1.1 (by omega), h2⟩
      · cases h
theorem pF_stay {s : List Int} {k n : Nat} (h : pF s k = none) (hk : k ≤ n) : pF s n = none := by
  induction hk with
  | refl => exact h
  | step _ ih => unfold pF; rw [ih]
theorem nF_stay {s : List Int} {k n : Nat} (h : nF s k = true) (hk : k ≤ n) : nF s n = true := by
  induction hk with
  | refl => exact h
  | step _ ih => unfold nF; rw [ih]; rfl
theorem pr_long {s : List Int} (h : 8 < s.length) : prE s = 26 ∧ prV s = 0 := by
  have : prE s = 26 := if_pos h
  exact ⟨this, if_neg (by rw [this]; decide)⟩
theorem pr_neg {s : List Int} (h : ¬ 8 < s.length) (hn : nF s s.length = true) : prE s = 24 ∧ prV s = 0 := by
  have : prE s = 24 := by unfold prE; rw [if_neg h, if_pos hn]
  exact ⟨this, if_neg (by rw [this]; decide)⟩
theorem pr_none {s : List Int} (h : ¬ 8 < s.length) (hn : nF s s.length = false) (hp : pF s s.length = none) : prE s = 26 ∧ prV s = 0 := by
  have : prE s = 26 := by unfold prE; rw [if_neg h, if_neg (by rw [hn]; decide), hp]; rfl
  exact ⟨this, if_neg (by rw [this]; decide)⟩
theorem pr_some {s : List Int} (h : ¬ 8 < s.length) (hn : nF s s.length = false) {n : Nat} (hp : pF s s.length = some n) : prE s = 0 ∧ prV s = if zF s s.length then 0 else n := by
  have : prE s = 0 := by unfold prE; rw [if_neg h, if_neg (by rw [hn]; decide), hp]; rfl
  refine ⟨this, ?_⟩
  unfold prV
  rw [if_pos this, hp]
  rfl
theorem prV_le (s : List Int) : prV s ≤ 1048576 := by
  unfold prV
  split
  · split
    · omega
    · cases hp : pF s s.length with
      | none => simp
      | some n => exact (pF_rng hp).2
  · omega
theorem split_a (A : Prop) (x : Int) (b : Bool) : (A ∧ x < 0) ∨ (A ∧ x = 0 ∧ b = false) ∨ (A ∧ 0 < x ∧ b = false) ∨ (A ∧ 0 ≤ x ∧ b = true) ∨ ¬A := by
  by_cases a : A
  · by_cases h : x < 0
    · exact .inl ⟨a, h⟩
    · cases b
      · by_cases h2 : x = 0
        · exact .inr (.inl ⟨a, h2, rfl⟩)
        · exact .inr (.inr (.inl ⟨a, by omega, rfl⟩))
      · exact .inr (.inr (.inr (.inl ⟨a, by omega, rfl⟩)))
  · exact .inr (.inr (.inr (.inr a)))
theorem split_b (A : Prop) (q n : Nat) : (A ∧ 1048576 < q) ∨ (A ∧ q ≤ 1048576 ∧ 0 < q ∧ 1048576 < n * q) ∨ (A ∧ q ≤ 1048576 ∧ 0 < q ∧ n * q ≤ 1048576) ∨ (A ∧ q = 0) ∨ ¬A := by
  by_cases a : A
  · by_cases h : 1048576 < q
    · exact .inl ⟨a, h⟩
    · by_cases h2 : q = 0
      · exact .inr (.inr (.inr (.inl ⟨a, h2⟩)))
      · by_cases h3 : n * q ≤ 1048576
        · exact .inr (.inr (.inl ⟨a, by omega, by omega, h3⟩))
        · exact .inr (.inl ⟨a, by omega, by omega, by omega⟩)
  · exact .inr (.inr (.inr (.inr a)))
theorem split_c (A : Prop) (q Q : Nat) : (A ∧ Q < q) ∨ (A ∧ q = 0) ∨ (A ∧ q = 1 ∧ 1 ≤ Q) ∨ (A ∧ 1 < q ∧ q ≤ Q) ∨ ¬A := by
  by_cases a : A
  · by_cases h : Q < q
    · exact .inl ⟨a, h⟩
    · by_cases h2 : q = 0
      · exact .inr (.inl ⟨a, h2⟩)
      · by_cases h3 : q = 1
        · exact .inr (.inr (.inl ⟨a, h3, by omega⟩))
        · exact .inr (.inr (.inr (.inl ⟨a, by omega, by omega⟩)))
  · exact .inr (.inr (.inr (.inr a)))
theorem pF_next {s : List Int} {k n q : Nat} (hp : pF s k = some n) (hq : s.getD k 0 = (q : Int)) : pF s (k + 1) = if n * max 1 q ≤ 1048576 then some (n * max 1 q) else none := by
  show (match pF s k with
    | none => none
    | some n => if n * max 1 (s.getD k 0).toNat ≤ 1048576 then some (n * max 1 (s.getD k 0).toNat) else none) = _
  rw [hp, hq, Int.toNat_natCast]
section
variable (A : Option Addr) (s : List Int) (n : Nat) (hn : n = s.length) (c : Nat) (w : World) (hs : Sl w 1 A n (i64s s))
include hn hs
omit hs in
theorem rprod_long (h8 : 8 < n) : Calls Try.prog 77 #[.slice A n c, .int .i64 1048576] w fun e w' => e = .returned (.tuple #[.int .i64 (prV s : Int), .int .i64 (prE s)]) ∧ Ext w w' := by
  rw [(pr_long (hn ▸ h8)).1, (pr_long (hn ▸ h8)).2]
  have E := Ext.refl w
  go_enter Try.func77, Try.ntmps77
  go_wp2_with fail
  go_ret2
  exact ⟨rfl, E⟩
theorem rprod_true (h8 : ¬ 8 < n) (hz : zF s n = true) : Calls Try.prog 77 #[.slice A n c, .int .i64 1048576] w fun e w' => e = .returned (.tuple #[.int .i64 (prV s : Int), .int .i64 (prE s)]) ∧ Ext w w' := by
  have HN := Lib.hid hn
  have HS := Lib.hid hs
  have HZ0 : Hid (zF s 0 = false) := rfl
  have HZ1 : Hid (∀ k, zF s (k + 1) = (zF s k || decide (s.getD k 0 = 0))) := fun k => rfl
  have HN0 : Hid (nF s 0 = false) := rfl
  have HN1 : Hid (∀ k, nF s (k + 1) = (nF s k || decide (s.getD k 0 < 0))) := fun k => rfl
  have HNS : Hid (∀ k, nF s k = true → k ≤ n → nF s n = true) := fun k h hk => nF_stay h hk
  have HNI : Hid (nF s n = false → ∀ k, k < n → ∃ q : Nat, s.getD k 0 = (q : Int)) := fun h k hk => by
    have : ¬ s.getD k 0 < 0 := fun hlt => by
      have := nF_stay (s := s) (k := k + 1) (n := n) (by show (_ || _) = true; rw [decide_eq_true hlt]; simp) (by omega)
      rw [h] at this
      cases this
    exact ⟨(s.getD k 0).toNat, by omega⟩
  have HP0 : Hid (pF s 0 = some 1) := rfl
  have HPN : Hid (∀ (k n q : Nat), pF s k = some n → s.getD k 0 = (q : Int) → pF s (k + 1) = if n * max 1 q ≤ 1048576 then some (n * max 1 q) else none) := fun k n q h1 h2 => pF_next h1 h2
  have HPS : Hid (∀ k, pF s k = none → k ≤ n → pF s n = none) := fun k h hk => pF_stay h hk
  have HPR : Hid (∀ k m, pF s k = some m → 1 ≤ m ∧ m ≤ 1048576) := fun k m h => pF_rng h
  have HR1 : Hid (nF s n = true → prE s = 24 ∧ prV s = 0) := fun h => by rw [hn] at h h8; exact pr_neg h8 h
  have HR2 : Hid (nF s n = false → pF s n = none → prE s = 26 ∧ prV s = 0) := fun h1 h2 => by rw [hn] at h1 h2 h8; exact pr_none h8 h1 h2
  have HR3 : Hid (nF s n = false → ∀ m, pF s n = some m → prE s = 0 ∧ prV s = if zF s n then 0 else m) := fun h1 m h2 => by rw [hn] at h1 h2 h8 ⊢; exact pr_some h8 h1 h2
  clear hn hs
  obtain ⟨ZF, hZF⟩ : ∃ ZF : Nat → Bool, zF s = ZF := ⟨_, rfl⟩
  obtain ⟨NF, hNF⟩ : ∃ NF : Nat → Bool, nF s = NF := ⟨_, rfl⟩
  obtain ⟨PF, hPF⟩ : ∃ PF : Nat → Option Nat, pF s = PF := ⟨_, rfl⟩
  rw [hZF] at HZ0 HZ1 HR3 hz
  rw [hNF] at HN0 HN1 HNS HNI HR1 HR2 HR3
  rw [hPF] at HP0 HPN HPS HPR HR2 HR3
  clear hZF hNF hPF
  have HZ := Lib.hid hz
  clear hz
  generalize prE s = er at *
  generalize prV s = vl at *
  have E := Ext.refl w
  go_enter Try.func77, Try.ntmps77
  go_wp2_with fail
  go_loopw [7, 8] (fun z i wr => ∃ k : Nat, k ≤ n ∧ z = .bool (ZF k) ∧ i = .int .i64 k ∧ NF k = false ∧ Ext w wr) (fun _ i _ => n - (intOf i).toNat)
  case atStart => exact ⟨0, Nat.zero_le _, by rw [HZ0.out], rfl, HN0.out, Ext.refl _⟩
  case round =>
    obtain ⟨k, hk, rfl, rfl, hnf, HX⟩ := hrel
    have HU := Lib.hid hnf
    clear hnf
    have hzk := HZ1.out k
    have hnk := HN1.out k
    rw [HU.out, Bool.false_or] at hnk
    have z1 := HX.size
    replace E := E.trans HX
    rcases split_a (k < n) (s.getD k 0) (ZF k) with ⟨hlt, h1⟩ | ⟨hlt, h1, h2⟩ | ⟨hlt, h1, h2⟩ | ⟨hlt, h1, h2⟩ | hlt
    · obtain ⟨ad, u1, ea, -, hu1, D0⟩ := (HS.out.ext E).at1 hlt
      subst ea
      rw [i64s_getY (by rw [← HN.out]; exact hlt)] at hu1
      cases hu1
      rw [decide_eq_true h1] at hnk
      have HK := Lib.hid hnk
      clear hzk hnk
      generalize ZF k = zk at *
      generalize s.getD k 0 = x at *
      go_wp2_with fail
      go_ret2
      exact ⟨by rw [(HR1.out (HNS.out (k + 1) HK.out (by omega))).1, (HR1.out (HNS.out (k + 1) HK.out (by omega))).2]; rfl, E⟩
    · obtain ⟨ad, u1, ea, -, hu1, D0⟩ := (HS.out.ext E).at1 hlt
      subst ea
      rw [i64s_getY (by rw [← HN.out]; exact hlt)] at hu1
      cases hu1
      rw [h2, Bool.false_or, decide_eq_true h1] at hzk
      rw [decide_eq_false (by omega)] at hnk
      rw [h2]
      rw [h1] at D0
      have HK := Lib.hid hnk
      have HK2 := Lib.hid hzk
      clear hzk hnk h1 h2
      go_wp2_with fail
      exact ⟨⟨k + 1, by omega, by rw [HK2.out], by go_num, HK.out, HX⟩, by simp [intOf]; omega⟩
    · obtain ⟨ad, u1, ea, -, hu1, D0⟩ := (HS.out.ext E).at1 hlt
      subst ea
      rw [i64s_getY (by rw [← HN.out]; exact hlt)] at hu1
      cases hu1
      rw [h2, Bool.false_or, decide_eq_false (by omega)] at hzk
      rw [decide_eq_false (by omega)] at hnk
      rw [h2]
      have e30 : (s.getD k 0 == 0) = false := by simpa using (show ¬ s.getD k 0 = 0 by omega)
      have HK := Lib.hid hnk
      have HK2 := Lib.hid hzk
      clear hzk hnk h2
      generalize s.getD k 0 = x at *
      go_wp2_with fail
      exact ⟨⟨k + 1, by omega, by rw [HK2.out], by go_num, HK.out, HX⟩, by simp [intOf]; omega⟩
    · obtain ⟨ad, u1, ea, -, hu1, D0⟩ := (HS.out.ext E).at1 hlt
      subst ea
      rw [i64s_getY (by rw [← HN.out]; exact hlt)] at hu1
      cases hu1
      rw [h2, Bool.true_or] at hzk
      rw [decide_eq_false (by omega)] at hnk
      rw [h2]
      have HK := Lib.hid hnk
      have HK2 := Lib.hid hzk
      clear hzk hnk h2
      generalize s.getD k 0 = x at *
      go_wp2_with fail
      exact ⟨⟨k + 1, by omega, by rw [HK2.out], by go_num, HK.out, HX⟩, by simp [intOf]; omega⟩
    · have hkn : k = n := by omega
      rw [hkn] at HU ⊢
      rw [HZ.out]
      have HNEG := HU
      clear hkn hzk hnk HU HX
      go_wp2_with fail
      generalize wr = wq2 at *
      go_loopw [6, 9] (fun x i wr => ∃ (m k : Nat), k ≤ n ∧ x = .int .i64 m ∧ i = .int .i64 k ∧ PF k = some m ∧ Ext wq2 wr) (fun _ i _ => n - (intOf i).toNat)
      case atStart => exact ⟨1, 0, Nat.zero_le _, rfl, rfl, HP0.out, Ext.refl _⟩
      case round =>
        obtain ⟨m, k, hk, rfl, rfl, hpf, HX⟩ := hrel
        have HU := Lib.hid hpf
        obtain ⟨hm1, hm2⟩ := HPR.out k m hpf
        have HQ := fun hlt => HNI.out HNEG.out k hlt
        clear hpf
        have z3 := HX.size
        replace E := E.trans HX
        have hq0 : ∃ q : Nat, k < n → s.getD k 0 = (q : Int) := by
          by_cases hlt : k < n
          · obtain ⟨q, hq⟩ := HQ hlt; exact ⟨q, fun _ => hq⟩
          · exact ⟨0, fun h => absurd h hlt⟩
        obtain ⟨q, hq0⟩ := hq0
        clear HQ
        rcases split_b (k < n) q m with ⟨hlt, hq1⟩ | ⟨hlt, hq1, hq2, hq3⟩ | ⟨hlt, hq1, hq2, hq3⟩ | ⟨hlt, hq1⟩ | hlt
        · obtain ⟨ad, u1, ea, -, hu1, D0⟩ := (HS.out.ext E).at1 hlt
          subst ea
          rw [i64s_getY (by rw [← HN.out]; exact hlt)] at hu1
          cases hu1
          have hq := hq0 hlt
          have HPk := HPN.out k m q HU.out hq
          rw [hq] at D0
          clear hq0 hq
          rw [if_neg (by have : 1 * q ≤ m * max 1 q := Nat.mul_le_mul hm1 (by omega); omega)] at HPk
          have HK := Lib.hid HPk
          clear HPk
          go_wp2_with fail
          go_ret2
          exact ⟨by rw [(HR2.out HNEG.out (HPS.out (k + 1) HK.out (by omega))).1, (HR2.out HNEG.out (HPS.out (k + 1) HK.out (by omega))).2]; rfl, E⟩
        · obtain ⟨ad, u1, ea, -, hu1, D0⟩ := (HS.out.ext E).at1 hlt
          subst ea
          rw [i64s_getY (by rw [← HN.out]; exact hlt)] at hu1
          cases hu1
          have hq := hq0 hlt
          have HPk := HPN.out k m q HU.out hq
          rw [hq] at D0
          clear hq0 hq
          have hP : (m : Int) * (q : Int) = ((m * q : Nat) : Int) := (Int.natCast_mul m q).symm
          have hPb : m * q ≤ 1099511627776 := Nat.le_trans (Nat.mul_le_mul hm2 hq1) (by decide)
          rw [show max 1 q = q by omega, if_neg (by omega)] at HPk
          have HK := Lib.hid HPk
          clear HPk
          generalize m * q = P at *
          go_wp2_with fail
          go_ret2
          exact ⟨by rw [(HR2.out HNEG.out (HPS.out (k + 1) HK.out (by omega))).1, (HR2.out HNEG.out (HPS.out (k + 1) HK.out (by omega))).2]; rfl, E⟩
        · obtain ⟨ad, u1, ea, -, hu1, D0⟩ := (HS.out.ext E).at1 hlt
          subst ea
          rw [i64s_getY (by rw [← HN.out]; exact hlt)] at hu1
          cases hu1
          have hq := hq0 hlt
          have HPk := HPN.out k m q HU.out hq
          rw [hq] at D0
          clear hq0 hq
          have hP : (m : Int) * (q : Int) = ((m * q : Nat) : Int) := (Int.natCast_mul m q).symm
          have hPb : m * q ≤ 1099511627776 := Nat.le_trans (Nat.mul_le_mul hm2 hq1) (by decide)
          rw [show max 1 q = q by omega, if_pos (by omega)] at HPk
          have HK := Lib.hid HPk
          clear HPk
          generalize m * q = P at *
          go_wp2_with fail
          exact ⟨⟨P, k + 1, by omega, by first | rfl | go_num, by go_num, HK.out, HX⟩, by simp [intOf]; omega⟩
        · obtain ⟨ad, u1, ea, -, hu1, D0⟩ := (HS.out.ext E).at1 hlt
          subst ea
          rw [i64s_getY (by rw [← HN.out]; exact hlt)] at hu1
          cases hu1
          have hq := hq0 hlt
          have HPk := HPN.out k m q HU.out hq
          rw [hq] at D0
          clear hq0 hq
          subst hq1
          rw [show max 1 0 = 1 by rfl, Nat.mul_one, if_pos hm2] at HPk
          have HK := Lib.hid HPk
          clear HPk
          go_wp2_with fail
          exact ⟨⟨m, k + 1, by omega, by first | rfl | go_num, by go_num, HK.out, HX⟩, by simp [intOf]; omega⟩
        · have hkn : k = n := by omega
          rw [hkn] at HU
          have hR := HR3.out HNEG.out m HU.out
          rw [HZ.out] at hR
          have HR := Lib.hid hR
          clear hkn hR HX hq0
          go_wp2_with fail
          go_ret2
          exact ⟨by rw [HR.out.1, HR.out.2]; rfl, E⟩
theorem rprod_false (h8 : ¬ 8 < n) (hz : zF s n = false) : Calls Try.prog 77 #[.slice A n c, .int .i64 1048576] w fun e w' => e = .returned (.tuple #[.int .i64 (prV s : Int), .int .i64 (prE s)]) ∧ Ext w w' := by
  have HN := Lib.hid hn
  have HS := Lib.hid hs
  have HZ0 : Hid (zF s 0 = false) := rfl
  have HZ1 : Hid (∀ k, zF s (k + 1) = (zF s k || decide (s.getD k 0 = 0))) := fun k => rfl
  have HN0 : Hid (nF s 0 = false) := rfl
  have HN1 : Hid (∀ k, nF s (k + 1) = (nF s k || decide (s.getD k 0 < 0))) := fun k => rfl
  have HNS : Hid (∀ k, nF s k = true → k ≤ n → nF s n = true) := fun k h hk => nF_stay h hk
  have HNI : Hid (nF s n = false → ∀ k, k < n → ∃ q : Nat, s.getD k 0 = (q : Int)) := fun h k hk => by
    have : ¬ s.getD k 0 < 0 := fun hlt => by
      have := nF_stay (s := s) (k := k + 1) (n := n) (by show (_ || _) = true; rw [decide_eq_true hlt]; simp) (by omega)
      rw [h] at this
      cases this
    exact ⟨(s.getD k 0).toNat, by omega⟩
  have HP0 : Hid (pF s 0 = some 1) := rfl
  have HPN : Hid (∀ (k n q : Nat), pF s k = some n → s.getD k 0 = (q : Int) → pF s (k + 1) = if n * max 1 q ≤ 1048576 then some (n * max 1 q) else none) := fun k n q h1 h2 => pF_next h1 h2
  have HPS : Hid (∀ k, pF s k = none → k ≤ n → pF s n = none) := fun k h hk => pF_stay h hk
  have HPR : Hid (∀ k m, pF s k = some m → 1 ≤ m ∧ m ≤ 1048576) := fun k m h => pF_rng h
  have HR1 : Hid (nF s n = true → prE s = 24 ∧ prV s = 0) := fun h => by rw [hn] at h h8; exact pr_neg h8 h
  have HR2 : Hid (nF s n = false → pF s n = none → prE s = 26 ∧ prV s = 0) := fun h1 h2 => by rw [hn] at h1 h2 h8; exact pr_none h8 h1 h2
  have HR3 : Hid (nF s n = false → ∀ m, pF s n = some m → prE s = 0 ∧ prV s = if zF s n then 0 else m) := fun h1 m h2 => by rw [hn] at h1 h2 h8 ⊢; exact pr_some h8 h1 h2
  clear hn hs
  obtain ⟨ZF, hZF⟩ : ∃ ZF : Nat → Bool, zF s = ZF := ⟨_, rfl⟩
  obtain ⟨NF, hNF⟩ : ∃ NF : Nat → Bool, nF s = NF := ⟨_, rfl⟩
  obtain ⟨PF, hPF⟩ : ∃ PF : Nat → Option Nat, pF s = PF := ⟨_, rfl⟩
  rw [hZF] at HZ0 HZ1 HR3 hz
  rw [hNF] at HN0 HN1 HNS HNI HR1 HR2 HR3
  rw [hPF] at HP0 HPN HPS HPR HR2 HR3
  clear hZF hNF hPF
  have HZ := Lib.hid hz
  clear hz
  generalize prE s = er at *
  generalize prV s = vl at *
  have E := Ext.refl w
  go_enter Try.func77, Try.ntmps77
  go_wp2_with fail
  go_loopw [7, 8] (fun z i wr => ∃ k : Nat, k ≤ n ∧ z = .bool (ZF k) ∧ i = .int .i64 k ∧ NF k = false ∧ Ext w wr) (fun _ i _ => n - (intOf i).toNat)
  case atStart => exact ⟨0, Nat.zero_le _, by rw [HZ0.out], rfl, HN0.out, Ext.refl _⟩
  case round =>
    obtain ⟨k, hk, rfl, rfl, hnf, HX⟩ := hrel
    have HU := Lib.hid hnf
    clear hnf
    have hzk := HZ1.out k
    have hnk := HN1.out k
    rw [HU.out, Bool.false_or] at hnk
    have z1 := HX.size
    replace E := E.trans HX
    rcases split_a (k < n) (s.getD k 0) (ZF k) with ⟨hlt, h1⟩ | ⟨hlt, h1, h2⟩ | ⟨hlt, h1, h2⟩ | ⟨hlt, h1, h2⟩ | hlt
    · obtain ⟨ad, u1, ea, -, hu1, D0⟩ := (HS.out.ext E).at1 hlt
      subst ea
      rw [i64s_getY (by rw [← HN.out]; exact hlt)] at hu1
      cases hu1
      rw [decide_eq_true h1] at hnk
      have HK := Lib.hid hnk
      clear hzk hnk
      generalize ZF k = zk at *
      generalize s.getD k 0 = x at *
      go_wp2_with fail
      go_ret2
      exact ⟨by rw [(HR1.out (HNS.out (k + 1) HK.out (by omega))).1, (HR1.out (HNS.out (k + 1) HK.out (by omega))).2]; rfl, E⟩
    · obtain ⟨ad, u1, ea, -, hu1, D0⟩ := (HS.out.ext E).at1 hlt
      subst ea
      rw [i64s_getY (by rw [← HN.out]; exact hlt)] at hu1
      cases hu1
      rw [h2, Bool.false_or, decide_eq_true h1] at hzk
      rw [decide_eq_false (by omega)] at hnk
      rw [h2]
      rw [h1] at D0
      have HK := Lib.hid hnk
      have HK2 := Lib.hid hzk
      clear hzk hnk h1 h2
      go_wp2_with fail
      exact ⟨⟨k + 1, by omega, by rw [HK2.out], by go_num, HK.out, HX⟩, by simp [intOf]; omega⟩
    · obtain ⟨ad, u1, ea, -, hu1, D0⟩ := (HS.out.ext E).at1 hlt
      subst ea
      rw [i64s_getY (by rw [← HN.out]; exact hlt)] at hu1
      cases hu1
      rw [h2, Bool.false_or, decide_eq_false (by omega)] at hzk
      rw [decide_eq_false (by omega)] at hnk
      rw [h2]
      have e30 : (s.getD k 0 == 0) = false := by simpa using (show ¬ s.getD k 0 = 0 by omega)
      have HK := Lib.hid hnk
      have HK2 := Lib.hid hzk
      clear hzk hnk h2
      generalize s.getD k 0 = x at *
      go_wp2_with fail
      exact ⟨⟨k + 1, by omega, by rw [HK2.out], by go_num, HK.out, HX⟩, by simp [intOf]; omega⟩
    · obtain ⟨ad, u1, ea, -, hu1, D0⟩ := (HS.out.ext E).at1 hlt
      subst ea
      rw [i64s_getY (by rw [← HN.out]; exact hlt)] at hu1
      cases hu1
      rw [h2, Bool.true_or] at hzk
      rw [decide_eq_false (by omega)] at hnk
      rw [h2]
      have HK := Lib.hid hnk
      have HK2 := Lib.hid hzk
      clear hzk hnk h2
      generalize s.getD k 0 = x at *
      go_wp2_with fail
      exact ⟨⟨k + 1, by omega, by rw [HK2.out], by go_num, HK.out, HX⟩, by simp [intOf]; omega⟩
    · have hkn : k = n := by omega
      rw [hkn] at HU ⊢
      rw [HZ.out]
      have HNEG := HU
      clear hkn hzk hnk HU HX
      go_wp2_with fail
      generalize wr = wq2 at *
      go_loopw [6, 9] (fun x i wr => ∃ (m k : Nat), k ≤ n ∧ x = .int .i64 m ∧ i = .int .i64 k ∧ PF k = some m ∧ Ext wq2 wr) (fun _ i _ => n - (intOf i).toNat)
      case atStart => exact ⟨1, 0, Nat.zero_le _, rfl, rfl, HP0.out, Ext.refl _⟩
      case round =>
        obtain ⟨m, k, hk, rfl, rfl, hpf, HX⟩ := hrel
        have HU := Lib.hid hpf
        obtain ⟨hm1, hm2⟩ := HPR.out k m hpf
        have HQ := fun hlt => HNI.out HNEG.out k hlt
        clear hpf
        have z3 := HX.size
        replace E := E.trans HX
        have hq0 : ∃ q : Nat, k < n → s.getD k 0 = (q : Int) := by
          by_cases hlt : k < n
          · obtain ⟨q, hq⟩ := HQ hlt; exact ⟨q, fun _ => hq⟩
          · exact ⟨0, fun h => absurd h hlt⟩
        obtain ⟨q, hq0⟩ := hq0
        clear HQ
        rcases split_b (k < n) q m with ⟨hlt, hq1⟩ | ⟨hlt, hq1, hq2, hq3⟩ | ⟨hlt, hq1, hq2, hq3⟩ | ⟨hlt, hq1⟩ | hlt
        · obtain ⟨ad, u1, ea, -, hu1, D0⟩ := (HS.out.ext E).at1 hlt
          subst ea
          rw [i64s_getY (by rw [← HN.out]; exact hlt)] at hu1
          cases hu1
          have hq := hq0 hlt
          have HPk := HPN.out k m q HU.out hq
          rw [hq] at D0
          clear hq0 hq
          rw [if_neg (by have : 1 * q ≤ m * max 1 q := Nat.mul_le_mul hm1 (by omega); omega)] at HPk
          have HK := Lib.hid HPk
          clear HPk
          go_wp2_with fail
          go_ret2
          exact ⟨by rw [(HR2.out HNEG.out (HPS.out (k + 1) HK.out (by omega))).1, (HR2.out HNEG.out (HPS.out (k + 1) HK.out (by omega))).2]; rfl, E⟩
        · obtain ⟨ad, u1, ea, -, hu1, D0⟩ := (HS.out.ext E).at1 hlt
          subst ea
          rw [i64s_getY (by rw [← HN.out]; exact hlt)] at hu1
          cases hu1
          have hq := hq0 hlt
          have HPk := HPN.out k m q HU.out hq
          rw [hq] at D0
          clear hq0 hq
          have hP : (m : Int) * (q : Int) = ((m * q : Nat) : Int) := (Int.natCast_mul m q).symm
          have hPb : m * q ≤ 1099511627776 := Nat.le_trans (Nat.mul_le_mul hm2 hq1) (by decide)
          rw [show max 1 q = q by omega, if_neg (by omega)] at HPk
          have HK := Lib.hid HPk
          clear HPk
          generalize m * q = P at *
          go_wp2_with fail
          go_ret2
          exact ⟨by rw [(HR2.out HNEG.out (HPS.out (k + 1) HK.out (by omega))).1, (HR2.out HNEG.out (HPS.out (k + 1) HK.out (by omega))).2]; rfl, E⟩
        · obtain ⟨ad, u1, ea, -, hu1, D0⟩ := (HS.out.ext E).at1 hlt
          subst ea
          rw [i64s_getY (by rw [← HN.out]; exact hlt)] at hu1
          cases hu1
          have hq := hq0 hlt
          have HPk := HPN.out k m q HU.out hq
          rw [hq] at D0
          clear hq0 hq
          have hP : (m : Int) * (q : Int) = ((m * q : Nat) : Int) := (Int.natCast_mul m q).symm
          have hPb : m * q ≤ 1099511627776 := Nat.le_trans (Nat.mul_le_mul hm2 hq1) (by decide)
          rw [show max 1 q = q by omega, if_pos (by omega)] at HPk
          have HK := Lib.hid HPk
          clear HPk
          generalize m * q = P at *
          go_wp2_with fail
          exact ⟨⟨P, k + 1, by omega, by first | rfl | go_num, by go_num, HK.out, HX⟩, by simp [intOf]; omega⟩
        · obtain ⟨ad, u1, ea, -, hu1, D0⟩ := (HS.out.ext E).at1 hlt
          subst ea
          rw [i64s_getY (by rw [← HN.out]; exact hlt)] at hu1
          cases hu1
          have hq := hq0 hlt
          have HPk := HPN.out k m q HU.out hq
          rw [hq] at D0
          clear hq0 hq
          subst hq1
          rw [show max 1 0 = 1 by rfl, Nat.mul_one, if_pos hm2] at HPk
          have HK := Lib.hid HPk
          clear HPk
          go_wp2_with fail
          exact ⟨⟨m, k + 1, by omega, by first | rfl | go_num, by go_num, HK.out, HX⟩, by simp [intOf]; omega⟩
        · have hkn : k = n := by omega
          rw [hkn] at HU
          have hR := HR3.out HNEG.out m HU.out
          rw [HZ.out] at hR
          have HR := Lib.hid hR
          clear hkn hR HX hq0
          go_wp2_with fail
          go_ret2
          exact ⟨by rw [HR.out.1, HR.out.2]; rfl, E⟩
theorem rprod_any : Calls Try.prog 77 #[.slice A n c, .int .i64 1048576] w fun e w' => e = .returned (.tuple #[.int .i64 (prV s : Int), .int .i64 (prE s)]) ∧ Ext w w' := by
  by_cases h8 : 8 < n
  · exact rprod_long A s n hn c w h8
  · cases hz : zF s n
    · exact rprod_false A s n hn c w hs h8 hz
    · exact rprod_true A s n hn c w hs h8 hz
end
end Go.Proofs.Ytidnikndjhfgaaa
