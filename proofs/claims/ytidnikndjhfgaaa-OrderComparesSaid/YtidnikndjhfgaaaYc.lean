/- slices.Index, slices.Contains of 0, shape.Product. -/
import Derived.Test.YtidnikndjhfgaaaYb
namespace Go.Proofs.Ytidnikndjhfgaaa
open Go.ChangeShapes Go.WideShapes Go.RowKit Bv Fl
set_option maxHeartbeats 2000000
set_option maxRecDepth 100000
theorem zF_stay {s : List Int} {k n : Nat} (h : zF s k = true) (hk : k ≤ n) : zF s n = true := by
  induction hk with
  | refl => exact h
  | step _ ih => unfold zF; rw [ih]; rfl
section
variable (A : Option Addr) (s : List Int) (n : Nat) (hn : n = s.length) (c : Nat) (w : World) (hs : Sl w 1 A n (i64s s))
include hn hs
theorem index0_any (hN2 : n ≤ 1048576) : Calls Try.prog 118 #[.slice A n c, .int .i64 0] w fun e w' => (∃ r : Int, e = .returned (.int .i64 r) ∧ decide (0 ≤ r) = zF s n) ∧ Ext w w' := by
  have HN := Lib.hid hn
  have HS := Lib.hid hs
  have HZ0 : Hid (zF s 0 = false) := rfl
  have HZ1 : Hid (∀ k, zF s (k + 1) = (zF s k || decide (s.getD k 0 = 0))) := fun k => rfl
  have HZS : Hid (∀ k, zF s k = true → k ≤ n → zF s n = true) := fun k h hk => zF_stay h hk
  clear hn hs
  obtain ⟨ZF, hZF⟩ : ∃ ZF : Nat → Bool, zF s = ZF := ⟨_, rfl⟩
  rw [hZF] at HZ0 HZ1 HZS ⊢
  clear hZF
  have E := Ext.refl w
  go_enter Try.func118, Try.ntmps118
  go_wp2_with fail
  go_loopw [8] (fun i wr => ∃ k : Nat, k ≤ n ∧ i = .int .i64 k ∧ ZF k = false ∧ Ext w wr) (fun i _ => n - (intOf i).toNat)
  case atStart => exact ⟨0, Nat.zero_le _, rfl, HZ0.out, Ext.refl _⟩
  case round =>
    obtain ⟨k, hk, rfl, hzf, HX⟩ := hrel
    have HU := Lib.hid hzf
    clear hzf
    have hzk := HZ1.out k
    rw [HU.out, Bool.false_or] at hzk
    have z1 := HX.size
    replace E := E.trans HX
    have hsp : k < n ∧ s.getD k 0 = 0 ∨ k < n ∧ ¬ s.getD k 0 = 0 ∨ ¬ k < n := by omega
    rcases hsp with ⟨hlt, h1⟩ | ⟨hlt, h1⟩ | hlt
    · obtain ⟨ad, u1, ea, -, hu1, D0⟩ := (HS.out.ext E).at1 hlt
      subst ea
      rw [i64s_getY (by rw [← HN.out]; exact hlt)] at hu1
      cases hu1
      rw [decide_eq_true h1] at hzk
      rw [h1] at D0
      have HK := Lib.hid hzk
      clear hzk h1
      go_wp2_with fail
      go_ret
      exact ⟨⟨_, rfl, by rw [HZS.out (k + 1) HK.out (by omega)]; exact decide_eq_true (by omega)⟩, E⟩
    · obtain ⟨ad, u1, ea, -, hu1, D0⟩ := (HS.out.ext E).at1 hlt
      subst ea
      rw [i64s_getY (by rw [← HN.out]; exact hlt)] at hu1
      cases hu1
      rw [decide_eq_false h1] at hzk
      have e16 : ((0 : Int) == s.getD k 0) = false := by simpa using (fun h : (0 : Int) = s.getD k 0 => h1 h.symm)
      have HK := Lib.hid hzk
      clear hzk h1
      generalize s.getD k 0 = x at *
      go_wp2_with fail
      exact ⟨⟨k + 1, by omega, by go_num, HK.out, HX⟩, by simp [intOf]; omega⟩
    · have hkn : k = n := by omega
      rw [hkn] at HU
      clear hkn hzk
      go_wp2_with fail
      go_ret
      exact ⟨⟨_, rfl, by rw [HU.out]; rfl⟩, E⟩
theorem contains0_any (hN2 : n ≤ 1048576) : Calls Try.prog 110 #[.slice A n c, .int .i64 0] w fun e w' => e = .returned (.bool (zF s n)) ∧ Ext w w' := by
  have ci := fun w' (h : Ext w w') => index0_any A s n hn c w' (hs.ext h) hN2
  clear hn hs
  generalize zF s n = z at *
  have E := Ext.refl w
  go_enter Try.func110, Try.ntmps110
  go_wp2_with fail
  refine (ci _ E).mono ?_
  rintro e w7 ⟨⟨r, rfl, hr⟩, x⟩
  have z1 := x.size
  replace E := E.trans x
  clear x
  go_wp2_with fail
  go_ret
  exact ⟨by rw [← hr]; rfl, E⟩
omit hs hn in
theorem within_any (m : Nat) (hm : m ≤ 1048576) : Calls Try.prog 111 #[.int .i64 (m : Int), .int .i64 1048576] w fun e w' => e = .returned (.tuple #[.int .i64 (m : Int), .int .i64 0]) ∧ Ext w w' := by
  have E := Ext.refl w
  go_enter Try.func111, Try.ntmps111
  go_wp2_with fail
  go_ret2
  exact ⟨rfl, E⟩
omit hs in
theorem sprod_long (h8 : 8 < n) : Calls Try.prog 98 #[.slice A n c, .int .i64 1048576] w fun e w' => e = .returned (.tuple #[.int .i64 (prV s : Int), .int .i64 (prE s)]) ∧ Ext w w' := by
  rw [(pr_long (hn ▸ h8)).1, (pr_long (hn ▸ h8)).2]
  have E := Ext.refl w
  go_enter Try.func98, Try.ntmps98
  go_wp2_with fail
  go_ret2
  exact ⟨rfl, E⟩
theorem sprod_true (h8 : ¬ 8 < n) (hz : zF s n = true) : Calls Try.prog 98 #[.slice A n c, .int .i64 1048576] w fun e w' => e = .returned (.tuple #[.int .i64 (prV s : Int), .int .i64 (prE s)]) ∧ Ext w w' := by
  have cz := fun w' (h : Ext w w') => contains0_any A s n hn c w' (hs.ext h) (by omega)
  rw [hz] at cz
  have cw := fun w' => within_any w' 0 (by omega)
  have HN := Lib.hid hn
  have HS := Lib.hid hs
  have HZ0 : Hid (zF s 0 = false) := rfl
  have HZ1 : Hid (∀ k, zF s (k + 1) = (zF s k || decide (s.getD k 0 = 0))) := fun k => rfl
  have HN0 : Hid (nF s 0 = false) := rfl
  have HN1 : Hid (∀ k, nF s (k + 1) = (nF s k || decide (s.getD k 0 < 0))) := fun k => rfl
  have HNS : Hid (∀ k, nF s k = true → k ≤ n → nF s n = true) := fun k h hk => nF_stay h hk
  have HNI : Hid (nF s n = false → ∀ k, k < n → ∃ q : Nat, s.getD k 0 = (q : Int)) := fun h k hk => by
    have : ¬ s.getD k 0 < 0 := fun hlt => by
      have := nF_stay (s := s) (k := k + 1) (n := n) (by show (_ || _) = true; rw [decide_eq_true hlt]; simp) (by omega)
      rw [h] at this
      cases this
    exact ⟨(s.getD k 0).toNat, by omega⟩
  have HP0 : Hid (pF s 0 = some 1) := rfl
  have HPN : Hid (∀ (k n q : Nat), pF s k = some n → s.getD k 0 = (q : Int) → pF s (k + 1) = if n * max 1 q ≤ 1048576 then some (n * max 1 q) else none) := fun k n q h1 h2 => pF_next h1 h2
  have HPS : Hid (∀ k, pF s k = none → k ≤ n → pF s n = none) := fun k h hk => pF_stay h hk
  have HPR : Hid (∀ k m, pF s k = some m → 1 ≤ m ∧ m ≤ 1048576) := fun k m h => pF_rng h
  have HR1 : Hid (nF s n = true → prE s = 24 ∧ prV s = 0) := fun h => by rw [hn] at h h8; exact pr_neg h8 h
  have HR2 : Hid (nF s n = false → pF s n = none → prE s = 26 ∧ prV s = 0) := fun h1 h2 => by rw [hn] at h1 h2 h8; exact pr_none h8 h1 h2
  have HR3 : Hid (nF s n = false → ∀ m, pF s n = some m → prE s = 0 ∧ prV s = if zF s n then 0 else m) := fun h1 m h2 => by rw [hn] at h1 h2 h8 ⊢; exact pr_some h8 h1 h2
  clear hn hs
  obtain ⟨ZF, hZF⟩ : ∃ ZF : Nat → Bool, zF s = ZF := ⟨_, rfl⟩
  obtain ⟨NF, hNF⟩ : ∃ NF : Nat → Bool, nF s = NF := ⟨_, rfl⟩
  obtain ⟨PF, hPF⟩ : ∃ PF : Nat → Option Nat, pF s = PF := ⟨_, rfl⟩
  rw [hZF] at HZ0 HZ1 HR3 hz
  rw [hNF] at HN0 HN1 HNS HNI HR1 HR2 HR3
  rw [hPF] at HP0 HPN HPS HPR HR2 HR3
  clear hZF hNF hPF
  have HZ := Lib.hid hz
  clear hz
  generalize prE s = er at *
  generalize prV s = vl at *
  have E := Ext.refl w
  go_enter Try.func98, Try.ntmps98
  go_wp2_with fail
  go_loopw [16] (fun i wr => ∃ k : Nat, k ≤ n ∧ i = .int .i64 k ∧ NF k = false ∧ Ext w wr) (fun i _ => n - (intOf i).toNat)
  case atStart => exact ⟨0, Nat.zero_le _, rfl, HN0.out, Ext.refl _⟩
  case round =>
    obtain ⟨k, hk, rfl, hnf, HX⟩ := hrel
    have HU := Lib.hid hnf
    clear hnf
    have hnk := HN1.out k
    rw [HU.out, Bool.false_or] at hnk
    have z1 := HX.size
    replace E := E.trans HX
    have hsp : k < n ∧ s.getD k 0 < 0 ∨ k < n ∧ ¬ s.getD k 0 < 0 ∨ ¬ k < n := by omega
    rcases hsp with ⟨hlt, h1⟩ | ⟨hlt, h1⟩ | hlt
    · obtain ⟨ad, u1, ea, -, hu1, D0⟩ := (HS.out.ext E).at1 hlt
      subst ea
      rw [i64s_getY (by rw [← HN.out]; exact hlt)] at hu1
      cases hu1
      rw [decide_eq_true h1] at hnk
      have HK := Lib.hid hnk
      clear hnk
      generalize s.getD k 0 = x at *
      go_wp2_with fail
      go_ret2
      exact ⟨by rw [(HR1.out (HNS.out (k + 1) HK.out (by omega))).1, (HR1.out (HNS.out (k + 1) HK.out (by omega))).2]; rfl, E⟩
    · obtain ⟨ad, u1, ea, -, hu1, D0⟩ := (HS.out.ext E).at1 hlt
      subst ea
      rw [i64s_getY (by rw [← HN.out]; exact hlt)] at hu1
      cases hu1
      rw [decide_eq_false h1] at hnk
      have HK := Lib.hid hnk
      clear hnk
      generalize s.getD k 0 = x at *
      go_wp2_with fail
      exact ⟨⟨k + 1, by omega, by go_num, HK.out, HX⟩, by simp [intOf]; omega⟩
    · have hkn : k = n := by omega
      rw [hkn] at HU
      have HNEG := HU
      clear hkn hnk HU HX
      go_wp2_with fail
      generalize wr = wq2 at *
      go_loopw [8, 25] (fun x i wr => ∃ (m k : Nat), k ≤ n ∧ x = .int .i64 m ∧ i = .int .i64 k ∧ PF k = some m ∧ Ext wq2 wr) (fun _ i _ => n - (intOf i).toNat)
      case atStart => exact ⟨1, 0, Nat.zero_le _, rfl, rfl, HP0.out, Ext.refl _⟩
      case round =>
        obtain ⟨m, k, hk, rfl, rfl, hpf, HX⟩ := hrel
        have HU := Lib.hid hpf
        obtain ⟨hm1, hm2⟩ := HPR.out k m hpf
        have HQ := fun hlt => HNI.out HNEG.out k hlt
        clear hpf
        have eQ : (1048576 : Int) / (m : Int) = ((1048576 / m : Nat) : Int) := rfl
        have hQd : ∀ q, 1048576 / m < q ↔ 1048576 < q * m := fun q => Nat.div_lt_iff_lt_mul (by omega)
        have hm0 : ((m : Int) == 0) = false := by simp; omega
        have z3 := HX.size
        replace E := E.trans HX
        have hq0 : ∃ q : Nat, k < n → s.getD k 0 = (q : Int) := by
          by_cases hlt : k < n
          · obtain ⟨q, hq⟩ := HQ hlt; exact ⟨q, fun _ => hq⟩
          · exact ⟨0, fun h => absurd h hlt⟩
        obtain ⟨q, hq0⟩ := hq0
        clear HQ
        generalize 1048576 / m = Q at *
        rcases split_c (k < n) q Q with ⟨hlt, hq1⟩ | ⟨hlt, hq1⟩ | ⟨hlt, hq1, hq2⟩ | ⟨hlt, hq1, hq2⟩ | hlt
        · obtain ⟨ad, u1, ea, -, hu1, D0⟩ := (HS.out.ext E).at1 hlt
          subst ea
          rw [i64s_getY (by rw [← HN.out]; exact hlt)] at hu1
          cases hu1
          have hq := hq0 hlt
          have HPk := HPN.out k m q HU.out hq
          rw [hq] at D0
          clear hq0 hq
          rw [if_neg (by have h := (hQd q).1 hq1; rw [Nat.mul_comm] at h; rw [show max 1 q = q by omega]; omega)] at HPk
          have HK := Lib.hid HPk
          clear HPk hQd
          go_wp2_with fail
          go_ret2
          exact ⟨by rw [(HR2.out HNEG.out (HPS.out (k + 1) HK.out (by omega))).1, (HR2.out HNEG.out (HPS.out (k + 1) HK.out (by omega))).2]; rfl, E⟩
        · obtain ⟨ad, u1, ea, -, hu1, D0⟩ := (HS.out.ext E).at1 hlt
          subst ea
          rw [i64s_getY (by rw [← HN.out]; exact hlt)] at hu1
          cases hu1
          have hq := hq0 hlt
          have HPk := HPN.out k m q HU.out hq
          rw [hq] at D0
          clear hq0 hq
          subst hq1
          rw [show max 1 0 = 1 by rfl, Nat.mul_one, if_pos hm2] at HPk
          have HK := Lib.hid HPk
          clear HPk hQd
          go_wp2_with fail
          exact ⟨⟨m, k + 1, by omega, by first | rfl | go_num, by go_num, HK.out, HX⟩, by simp [intOf]; omega⟩
        · obtain ⟨ad, u1, ea, -, hu1, D0⟩ := (HS.out.ext E).at1 hlt
          subst ea
          rw [i64s_getY (by rw [← HN.out]; exact hlt)] at hu1
          cases hu1
          have hq := hq0 hlt
          have HPk := HPN.out k m q HU.out hq
          rw [hq] at D0
          clear hq0 hq
          subst hq1
          rw [show max 1 1 = 1 by rfl, Nat.mul_one, if_pos hm2] at HPk
          have HK := Lib.hid HPk
          clear HPk hQd
          go_wp2_with fail
          exact ⟨⟨m, k + 1, by omega, by first | rfl | go_num, by go_num, HK.out, HX⟩, by simp [intOf]; omega⟩
        · obtain ⟨ad, u1, ea, -, hu1, D0⟩ := (HS.out.ext E).at1 hlt
          subst ea
          rw [i64s_getY (by rw [← HN.out]; exact hlt)] at hu1
          cases hu1
          have hq := hq0 hlt
          have HPk := HPN.out k m q HU.out hq
          rw [hq] at D0
          clear hq0 hq
          have hmq : m * q ≤ 1048576 := by rw [Nat.mul_comm]; exact Nat.not_lt.1 fun h => absurd ((hQd q).2 h) (by omega)
          have hP : (m : Int) * (q : Int) = ((m * q : Nat) : Int) := (Int.natCast_mul m q).symm
          rw [show max 1 q = q by omega, if_pos hmq] at HPk
          have HK := Lib.hid HPk
          clear HPk hQd
          generalize m * q = P at *
          go_wp2_with fail
          exact ⟨⟨P, k + 1, by omega, by first | rfl | go_num, by go_num, HK.out, HX⟩, by simp [intOf]; omega⟩
        · have hkn : k = n := by omega
          rw [hkn] at HU
          have hR := HR3.out HNEG.out m HU.out
          rw [HZ.out] at hR
          have HR := Lib.hid hR
          clear hkn hR HX hq0 hQd eQ hm0
          go_wp2_with fail
          refine (cz _ E).mono ?_
          rintro e w39 ⟨rfl, x⟩
          have z4 := x.size
          replace E := E.trans x
          clear x
          go_wp2_with fail
          refine (cw _).mono ?_
          rintro e w42 ⟨rfl, x⟩
          have z5 := x.size
          replace E := E.trans x
          clear x
          go_wp2_with fail
          go_ret2
          exact ⟨by rw [HR.out.1, HR.out.2]; rfl, E⟩
theorem sprod_false (h8 : ¬ 8 < n) (hz : zF s n = false) : Calls Try.prog 98 #[.slice A n c, .int .i64 1048576] w fun e w' => e = .returned (.tuple #[.int .i64 (prV s : Int), .int .i64 (prE s)]) ∧ Ext w w' := by
  have cz := fun w' (h : Ext w w') => contains0_any A s n hn c w' (hs.ext h) (by omega)
  rw [hz] at cz
  have cw := fun m w' hm => within_any w' m hm
  have HN := Lib.hid hn
  have HS := Lib.hid hs
  have HZ0 : Hid (zF s 0 = false) := rfl
  have HZ1 : Hid (∀ k, zF s (k + 1) = (zF s k || decide (s.getD k 0 = 0))) := fun k => rfl
  have HN0 : Hid (nF s 0 = false) := rfl
  have HN1 : Hid (∀ k, nF s (k + 1) = (nF s k || decide (s.getD k 0 < 0))) := fun k => rfl
  have HNS : Hid (∀ k, nF s k = true → k ≤ n → nF s n = true) := fun k h hk => nF_stay h hk
  have HNI : Hid (nF s n = false → ∀ k, k < n → ∃ q : Nat, s.getD k 0 = (q : Int)) := fun h k hk => by
    have : ¬ s.getD k 0 < 0 := fun hlt => by
      have := nF_stay (s := s) (k := k + 1) (n := n) (by show (_ || _) = true; rw [decide_eq_true hlt]; simp) (by omega)
      rw [h] at this
      cases this
    exact ⟨(s.getD k 0).toNat, by omega⟩
  have HP0 : Hid (pF s 0 = some 1) := rfl
  have HPN : Hid (∀ (k n q : Nat), pF s k = some n → s.getD k 0 = (q : Int) → pF s (k + 1) = if n * max 1 q ≤ 1048576 then some (n * max 1 q) else none) := fun k n q h1 h2 => pF_next h1 h2
  have HPS : Hid (∀ k, pF s k = none → k ≤ n → pF s n = none) := fun k h hk => pF_stay h hk
  have HPR : Hid (∀ k m, pF s k = some m → 1 ≤ m ∧ m ≤ 1048576) := fun k m h => pF_rng h
  have HR1 : Hid (nF s n = true → prE s = 24 ∧ prV s = 0) := fun h => by rw [hn] at h h8; exact pr_neg h8 h
  have HR2 : Hid (nF s n = false → pF s n = none → prE s = 26 ∧ prV s = 0) := fun h1 h2 => by rw [hn] at h1 h2 h8; exact pr_none h8 h1 h2
  have HR3 : Hid (nF s n = false → ∀ m, pF s n = some m → prE s = 0 ∧ prV s = if zF s n then 0 else m) := fun h1 m h2 => by rw [hn] at h1 h2 h8 ⊢; exact pr_some h8 h1 h2
  clear hn hs
  obtain ⟨ZF, hZF⟩ : ∃ ZF : Nat → Bool, zF s = ZF := ⟨_, rfl⟩
  obtain ⟨NF, hNF⟩ : ∃ NF : Nat → Bool, nF s = NF := ⟨_, rfl⟩
  obtain ⟨PF, hPF⟩ : ∃ PF : Nat → Option Nat, pF s = PF := ⟨_, rfl⟩
  rw [hZF] at HZ0 HZ1 HR3 hz
  rw [hNF] at HN0 HN1 HNS HNI HR1 HR2 HR3
  rw [hPF] at HP0 HPN HPS HPR HR2 HR3
  clear hZF hNF hPF
  have HZ := Lib.hid hz
  clear hz
  generalize prE s = er at *
  generalize prV s = vl at *
  have E := Ext.refl w
  go_enter Try.func98, Try.ntmps98
  go_wp2_with fail
  go_loopw [16] (fun i wr => ∃ k : Nat, k ≤ n ∧ i = .int .i64 k ∧ NF k = false ∧ Ext w wr) (fun i _ => n - (intOf i).toNat)
  case atStart => exact ⟨0, Nat.zero_le _, rfl, HN0.out, Ext.refl _⟩
  case round =>
    obtain ⟨k, hk, rfl, hnf, HX⟩ := hrel
    have HU := Lib.hid hnf
    clear hnf
    have hnk := HN1.out k
    rw [HU.out, Bool.false_or] at hnk
    have z1 := HX.size
    replace E := E.trans HX
    have hsp : k < n ∧ s.getD k 0 < 0 ∨ k < n ∧ ¬ s.getD k 0 < 0 ∨ ¬ k < n := by omega
    rcases hsp with ⟨hlt, h1⟩ | ⟨hlt, h1⟩ | hlt
    · obtain ⟨ad, u1, ea, -, hu1, D0⟩ := (HS.out.ext E).at1 hlt
      subst ea
      rw [i64s_getY (by rw [← HN.out]; exact hlt)] at hu1
      cases hu1
      rw [decide_eq_true h1] at hnk
      have HK := Lib.hid hnk
      clear hnk
      generalize s.getD k 0 = x at *
      go_wp2_with fail
      go_ret2
      exact ⟨by rw [(HR1.out (HNS.out (k + 1) HK.out (by omega))).1, (HR1.out (HNS.out (k + 1) HK.out (by omega))).2]; rfl, E⟩
    · obtain ⟨ad, u1, ea, -, hu1, D0⟩ := (HS.out.ext E).at1 hlt
      subst ea
      rw [i64s_getY (by rw [← HN.out]; exact hlt)] at hu1
      cases hu1
      rw [decide_eq_false h1] at hnk
      have HK := Lib.hid hnk
      clear hnk
      generalize s.getD k 0 = x at *
      go_wp2_with fail
      exact ⟨⟨k + 1, by omega, by go_num, HK.out, HX⟩, by simp [intOf]; omega⟩
    · have hkn : k = n := by omega
      rw [hkn] at HU
      have HNEG := HU
      clear hkn hnk HU HX
      go_wp2_with fail
      generalize wr = wq2 at *
      go_loopw [8, 25] (fun x i wr => ∃ (m k : Nat), k ≤ n ∧ x = .int .i64 m ∧ i = .int .i64 k ∧ PF k = some m ∧ Ext wq2 wr) (fun _ i _ => n - (intOf i).toNat)
      case atStart => exact ⟨1, 0, Nat.zero_le _, rfl, rfl, HP0.out, Ext.refl _⟩
      case round =>
        obtain ⟨m, k, hk, rfl, rfl, hpf, HX⟩ := hrel
        have HU := Lib.hid hpf
        obtain ⟨hm1, hm2⟩ := HPR.out k m hpf
        have HQ := fun hlt => HNI.out HNEG.out k hlt
        clear hpf
        have eQ : (1048576 : Int) / (m : Int) = ((1048576 / m : Nat) : Int) := rfl
        have hQd : ∀ q, 1048576 / m < q ↔ 1048576 < q * m := fun q => Nat.div_lt_iff_lt_mul (by omega)
        have hm0 : ((m : Int) == 0) = false := by simp; omega
        have z3 := HX.size
        replace E := E.trans HX
        have hq0 : ∃ q : Nat, k < n → s.getD k 0 = (q : Int) := by
          by_cases hlt : k < n
          · obtain ⟨q, hq⟩ := HQ hlt; exact ⟨q, fun _ => hq⟩
          · exact ⟨0, fun h => absurd h hlt⟩
        obtain ⟨q, hq0⟩ := hq0
        clear HQ
        generalize 1048576 / m = Q at *
        rcases split_c (k < n) q Q with ⟨hlt, hq1⟩ | ⟨hlt, hq1⟩ | ⟨hlt, hq1, hq2⟩ | ⟨hlt, hq1, hq2⟩ | hlt
        · obtain ⟨ad, u1, ea, -, hu1, D0⟩ := (HS.out.ext E).at1 hlt
          subst ea
          rw [i64s_getY (by rw [← HN.out]; exact hlt)] at hu1
          cases hu1
          have hq := hq0 hlt
          have HPk := HPN.out k m q HU.out hq
          rw [hq] at D0
          clear hq0 hq
          rw [if_neg (by have h := (hQd q).1 hq1; rw [Nat.mul_comm] at h; rw [show max 1 q = q by omega]; omega)] at HPk
          have HK := Lib.hid HPk
          clear HPk hQd
          go_wp2_with fail
          go_ret2
          exact ⟨by rw [(HR2.out HNEG.out (HPS.out (k + 1) HK.out (by omega))).1, (HR2.out HNEG.out (HPS.out (k + 1) HK.out (by omega))).2]; rfl, E⟩
        · obtain ⟨ad, u1, ea, -, hu1, D0⟩ := (HS.out.ext E).at1 hlt
          subst ea
          rw [i64s_getY (by rw [← HN.out]; exact hlt)] at hu1
          cases hu1
          have hq := hq0 hlt
          have HPk := HPN.out k m q HU.out hq
          rw [hq] at D0
          clear hq0 hq
          subst hq1
          rw [show max 1 0 = 1 by rfl, Nat.mul_one, if_pos hm2] at HPk
          have HK := Lib.hid HPk
          clear HPk hQd
          go_wp2_with fail
          exact ⟨⟨m, k + 1, by omega, by first | rfl | go_num, by go_num, HK.out, HX⟩, by simp [intOf]; omega⟩
        · obtain ⟨ad, u1, ea, -, hu1, D0⟩ := (HS.out.ext E).at1 hlt
          subst ea
          rw [i64s_getY (by rw [← HN.out]; exact hlt)] at hu1
          cases hu1
          have hq := hq0 hlt
          have HPk := HPN.out k m q HU.out hq
          rw [hq] at D0
          clear hq0 hq
          subst hq1
          rw [show max 1 1 = 1 by rfl, Nat.mul_one, if_pos hm2] at HPk
          have HK := Lib.hid HPk
          clear HPk hQd
          go_wp2_with fail
          exact ⟨⟨m, k + 1, by omega, by first | rfl | go_num, by go_num, HK.out, HX⟩, by simp [intOf]; omega⟩
        · obtain ⟨ad, u1, ea, -, hu1, D0⟩ := (HS.out.ext E).at1 hlt
          subst ea
          rw [i64s_getY (by rw [← HN.out]; exact hlt)] at hu1
          cases hu1
          have hq := hq0 hlt
          have HPk := HPN.out k m q HU.out hq
          rw [hq] at D0
          clear hq0 hq
          have hmq : m * q ≤ 1048576 := by rw [Nat.mul_comm]; exact Nat.not_lt.1 fun h => absurd ((hQd q).2 h) (by omega)
          have hP : (m : Int) * (q : Int) = ((m * q : Nat) : Int) := (Int.natCast_mul m q).symm
          rw [show max 1 q = q by omega, if_pos hmq] at HPk
          have HK := Lib.hid HPk
          clear HPk hQd
          generalize m * q = P at *
          go_wp2_with fail
          exact ⟨⟨P, k + 1, by omega, by first | rfl | go_num, by go_num, HK.out, HX⟩, by simp [intOf]; omega⟩
        · have hkn : k = n := by omega
          rw [hkn] at HU
          have hR := HR3.out HNEG.out m HU.out
          rw [HZ.out] at hR
          have HR := Lib.hid hR
          clear hkn hR HX hq0 hQd eQ hm0
          go_wp2_with fail
          refine (cz _ E).mono ?_
          rintro e w39 ⟨rfl, x⟩
          have z4 := x.size
          replace E := E.trans x
          clear x
          go_wp2_with fail
          refine (cw m _ hm2).mono ?_
          rintro e w42 ⟨rfl, x⟩
          have z5 := x.size
          replace E := E.trans x
          clear x
          go_wp2_with fail
          go_ret2
          exact ⟨by rw [HR.out.1, HR.out.2]; rfl, E⟩
theorem sprod_any : Calls Try.prog 98 #[.slice A n c, .int .i64 1048576] w fun e w' => e = .returned (.tuple #[.int .i64 (prV s : Int), .int .i64 (prE s)]) ∧ Ext w w' := by
  by_cases h8 : 8 < n
  · exact sprod_long A s n hn c w h8
  · cases hz : zF s n
    · exact sprod_false A s n hn c w hs h8 hz
    · exact sprod_true A s n hn c w hs h8 hz
end
end Go.Proofs.Ytidnikndjhfgaaa
