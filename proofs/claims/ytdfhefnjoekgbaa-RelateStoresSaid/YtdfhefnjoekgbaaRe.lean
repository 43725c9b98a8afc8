/- rebusref12.Truths, rebusref12.Apply. -/
import Derived.Test.YtdfhefnjoekgbaaRd
import Derived.Test.YtdfhefnjoekgbaaQl
namespace Go.Proofs.Ytdfhefnjoekgbaa
open Go.ChangeShapes Go.WideShapes Go.RowKit Bv Fl
/-- the first k are truths -/
def upT (l : List Nat) (k : Nat) : Prop := ∀ j, j < k → l.getD j 0 = 0 ∨ l.getD j 0 = 4607182418800017408
theorem upT_step {l : List Nat} {k : Nat} (h : upT l k) (g : l.getD k 0 = 0 ∨ l.getD k 0 = 4607182418800017408) : upT l (k + 1) := by
  intro j hj
  by_cases e : j = k
  · subst e; exact g
  · exact h j (by omega)
theorem ne_one {b : Nat} (h : tidy b) : (FloatKind.f64.format.order b 4607182418800017408 != some .eq) = !decide (b = 4607182418800017408) := by
  show (!(FloatKind.f64.format.order b 4607182418800017408 == some .eq)) = _
  rw [eq_one h]
theorem ne_zero' {b : Nat} (h : tidy b) : (FloatKind.f64.format.order b 0 != some .eq) = !decide (b = 0) := by
  show (!(FloatKind.f64.format.order b 0 == some .eq)) = _
  rw [eq_zero' h]
theorem bools_toB (l : List Nat) : bools (toB l) = pre (fun k => .bool (decide (l.getD k 0 = 4607182418800017408))) l.length := by
  apply List.ext_getElem?
  intro j
  by_cases h : j < l.length
  · rw [bools_get (by rw [toB_length]; exact h), toB_get h]
    simp [pre, h]
  · simp [bools, toB, pre, h]
theorem appB_row (f : Int) (x y : List Bool) (N : Nat) : bools (appB f x y N) = pre (fun i => .bool (oneL f (pkB x i) (pkB y i))) N := by
  simp [bools, appB, tabL, pre]
set_option maxHeartbeats 1000000
set_option maxRecDepth 100000
def RTruths (b : Bool) (l : List Nat) (n : Nat) (w : World) (e : Ending) (w' : World) : Prop :=
  ∃ A m c, e = .returned (.tuple #[.slice A m c, .bool b]) ∧ Sl w' 1 A m (bools (if b then toB l else [])) ∧ (b = true → m = n) ∧ (b = false → m = 0) ∧ Ext w w'
theorem rtruths_any (A : Option Addr) (l : List Nat) (n : Nat) (hn : n = l.length) (ht : ∀ x ∈ l, tidy x) (c : Nat) (w : World) (hl : n ≤ 1048576) (hs : Sl w 1 A n (f64s l)) : Calls Try.prog 38 #[.slice A n c] w (RTruths (decide (leastL l ≤ 1)) l n w) := by
  obtain ⟨i0, hi0, hz0, hz1, hz2⟩ := info_parts infoB
  have hfull := bools_toB l
  rw [← hn] at hfull
  have HS := Lib.hid hs
  have HN := Lib.hid hn
  have HT := Lib.hid ht
  have HF : Hid (bools (toB l) = pre (fun k => .bool (decide (l.getD k 0 = 4607182418800017408))) n) := hfull
  clear hs hn hfull ht
  obtain ⟨b, hb⟩ : ∃ b, decide (leastL l ≤ 1) = b := ⟨_, rfl⟩
  rw [hb]
  have HB := Lib.hid hb
  clear hb
  go_enter Try.func38, Try.ntmps38
  go_wp2_with fail
  go_loopw [4, 5] (fun o i wr => ∃ k : Nat, k ≤ n ∧ i = .int .i64 k ∧ upT l k ∧ wr.ownsRow w.heap.size 4 1 o k (pre (fun k => .bool (decide (l.getD k 0 = 4607182418800017408))) k) ∧ Ext w wr) (fun _ i _ => n - (intOf i).toNat)
  case atStart => exact ⟨0, Nat.zero_le _, rfl, fun j hj => absurd hj (by omega), ⟨rfl, Or.inl ⟨rfl, rfl⟩⟩, Ext.refl w⟩
  case round =>
    obtain ⟨k, hk, rfl, hup, hown, hx⟩ := hrel
    have HU := Lib.hid hup
    have HX := Lib.hid hx
    clear hup
    by_cases hlt : k < n
    · obtain ⟨a, u, rfl, hab, hu, hcell⟩ := HS.out.at1 hlt
      rw [f64s_get (by rw [← HN.out]; exact hlt)] at hu
      cases hu
      have L0 : wr.cell? (a.add k) = some (.float .f64 (l.getD k 0)) := (Below.cell hx (by rw [addr_block]; exact hab)).trans hcell
      have hti : tidy (l.getD k 0) := HT.out _ (getD_memN (by rw [← HN.out]; exact hlt))
      have t0 := ne_zero' hti
      have t1 := ne_one hti
      have t2 := eq_one hti
      clear hcell hx hti
      by_cases hg : l.getD k 0 = 0 ∨ l.getD k 0 = 4607182418800017408
      · have hup := Lib.hid (upT_step HU.out hg)
        have HO := Lib.hid hown
        have HP : Hid (pre (fun k => Value.bool (decide (l.getD k 0 = 4607182418800017408))) k ++ [.bool (decide (l.getD k 0 = 4607182418800017408))] = pre (fun k => Value.bool (decide (l.getD k 0 = 4607182418800017408))) (k + 1)) := pre_step _ k
        clear hown HU
        have HW : Hid (∀ o, (wr.alloc o).ownsRow w.heap.size 4 1 u4 k (pre (fun k => .bool (decide (l.getD k 0 = 4607182418800017408))) k)) := fun o => own_ext HO.out ((Ext.refl _).alloc _)
        have hbase : ∀ o, w.heap.size ≤ (wr.alloc o).heap.size := fun o => by have := HX.out.size; simp; omega
        have hlim : k + 1 ≤ 1099511627776 := by omega
        generalize hxv : l.getD k 0 = x at *
        clear hxv
        rcases hg with rfl | rfl
        · rw [show decide ((0 : Nat) = 4607182418800017408) = false from rfl] at *
          rw [show (!decide ((0 : Nat) = 0)) = false from rfl] at t0
          have HR : Hid (Sl (wr.alloc (.cells #[.bool false] 4)) 1 (some ⟨wr.heap.size, 0, none⟩) 1 [.bool false]) := Sl.built wr #[.bool false] 4
          have h1 : ∀ u ∈ [Value.bool false], u.oneCell' = true := by intro u hu; simp at hu; subst hu; rfl
          go_wp2_with (at_builtin; refine wpList_append_sl _ rfl _ _ 62 rfl w.heap.size 4 i0 (.bool false) 1 1 Try.underlying62 hi0 hz0 hz1 hz2 rfl (by omega) _ k _ rfl (HW.out _) (some ⟨wr.heap.size, 0, none⟩) 1 1 [.bool false] rfl HR.out h1 hlim (by omega) (hbase _) ?_; intro v' w1 hown hbel)
          refine ⟨⟨k + 1, by omega, by go_num, hup.out, by rw [← HP.out]; exact hown, ?_⟩, by simp [intOf]; omega⟩
          exact (HX.out.alloc _).trans' hbel
        · rw [show decide ((4607182418800017408 : Nat) = 4607182418800017408) = true from rfl] at *
          rw [show (!decide ((4607182418800017408 : Nat) = 0)) = true from rfl] at t0
          rw [show (!true) = false from rfl] at t1
          have HR : Hid (Sl (wr.alloc (.cells #[.bool true] 4)) 1 (some ⟨wr.heap.size, 0, none⟩) 1 [.bool true]) := Sl.built wr #[.bool true] 4
          have h1 : ∀ u ∈ [Value.bool true], u.oneCell' = true := by intro u hu; simp at hu; subst hu; rfl
          go_wp2_with (at_builtin; refine wpList_append_sl _ rfl _ _ 62 rfl w.heap.size 4 i0 (.bool false) 1 1 Try.underlying62 hi0 hz0 hz1 hz2 rfl (by omega) _ k _ rfl (HW.out _) (some ⟨wr.heap.size, 0, none⟩) 1 1 [.bool true] rfl HR.out h1 hlim (by omega) (hbase _) ?_; intro v' w1 hown hbel)
          refine ⟨⟨k + 1, by omega, by go_num, hup.out, by rw [← HP.out]; exact hown, ?_⟩, by simp [intOf]; omega⟩
          exact (HX.out.alloc _).trans' hbel
      · have hf : decide (leastL l ≤ 1) = false := decide_eq_false fun h => hg ((leastL_le1 HT.out).1 h k (by rw [← HN.out]; exact hlt))
        rw [HB.out] at hf
        subst hf
        rw [decide_eq_false (fun h => hg (.inl h)), show (!false) = true from rfl] at t0
        rw [decide_eq_false (fun h => hg (.inr h)), show (!false) = true from rfl] at t1
        clear hg hown t2
        generalize l.getD k 0 = x at *
        go_wp2
        refine bodyPost_ret (v := .tuple #[.slice none 0 0, .bool false]) (by simp [results, Try.results38, go_sem]) rfl ⟨_, _, _, rfl, ⟨rfl, fun h => absurd h (by decide)⟩, (fun h => absurd h (by decide)), fun _ => rfl, HX.out⟩
    · have hkn : k = n := by omega
      subst hkn
      have hup := HU.out
      have hle : decide (leastL l ≤ 1) = true := decide_eq_true ((leastL_le1 HT.out).2 fun j hj => hup j (by rw [HN.out]; exact hj))
      rw [HB.out] at hle
      subst hle
      obtain ⟨A4, c4, rfl, -, -⟩ := own_form hown
      have HW := Lib.hid (Sl.own hown)
      clear hup hown hx
      go_wp2
      refine bodyPost_ret (v := .tuple #[.slice A4 k c4, .bool true]) (by simp [results, Try.results38, go_sem]) rfl ⟨_, _, _, rfl, ?_, fun _ => rfl, (fun h => absurd h (by decide)), HX.out⟩
      rw [if_pos rfl, HF.out]
      exact HW.out

theorem rtruths_yes (A : Option Addr) (l : List Nat) (n : Nat) (hn : n = l.length) (ht : ∀ x ∈ l, tidy x) (hf : leastL l ≤ 1) (c : Nat) (w : World) (hl : n ≤ 1048576) (hs : Sl w 1 A n (f64s l)) : Calls Try.prog 38 #[.slice A n c] w fun e w' => ∃ B cb, e = .returned (.tuple #[.slice B n cb, .bool true]) ∧ Sl w' 1 B n (bools (toB l)) ∧ Ext w w' := by
  refine (rtruths_any A l n hn ht c w hl hs).mono ?_
  rintro e w' ⟨B, m, cb, rfl, hS, h1, -, hx⟩
  rw [decide_eq_true hf] at hS h1 ⊢
  obtain rfl := h1 rfl
  exact ⟨B, cb, rfl, hS, hx⟩
section
variable (f : Int) (A A' : Option Addr) (m n c c' : Nat) (w : World)
theorem rapply_bad (hf : okL f = false) : Calls Try.prog 35 #[.int .i64 f, .slice A m c, .slice A' n c'] w fun e w' => e = .returned (.tuple #[.slice none 0 0, .int .i64 1]) ∧ Ext w w' := by
  have h := of_decide_eq_false hf
  clear hf
  by_cases h1 : f < 21
  · clear h
    go_enter Try.func35, Try.ntmps35
    go_wp2
    go_ret2
    exact ⟨rfl, Ext.refl _⟩
  · have h2 : 24 < f := by omega
    clear h
    go_enter Try.func35, Try.ntmps35
    go_wp2
    go_ret2
    exact ⟨rfl, Ext.refl _⟩
theorem okL_yes {f : Int} (h : okL f = true) : 21 ≤ f ∧ f ≤ 24 := of_decide_eq_true h
theorem rapply_len (hf : okL f = true) (hl : lenOk (m : Int) (n : Int) = false) : Calls Try.prog 35 #[.int .i64 f, .slice A m c, .slice A' n c'] w fun e w' => e = .returned (.tuple #[.slice none 0 0, .int .i64 23]) ∧ Ext w w' := by
  obtain ⟨h1, h2⟩ := okL_yes hf
  have cl := fun w => rlength_any (m : Int) (n : Int) w
  rw [(rlen_no hl).1] at cl
  clear hf hl
  go_enter Try.func35, Try.ntmps35
  go_wp2_with fail
  refine (cl _).mono ?_
  rintro e w1 ⟨rfl, rfl⟩
  go_wp2
  go_ret2
  exact ⟨rfl, Ext.refl _⟩
theorem rapply_zero (hf : okL f = true) (hl : lenOk (m : Int) (n : Int) = true) (h0 : lenV (m : Int) (n : Int) = 0) : Calls Try.prog 35 #[.int .i64 f, .slice A m c, .slice A' n c'] w fun e w' => e = .returned (.tuple #[.slice none 0 0, .int .i64 0]) ∧ Ext w w' := by
  obtain ⟨h1, h2⟩ := okL_yes hf
  have cl := fun w => rlength_any (m : Int) (n : Int) w
  rw [rlen_ok hl, h0] at cl
  clear hf hl h0
  go_enter Try.func35, Try.ntmps35
  go_wp2_with fail
  refine (cl _).mono ?_
  rintro e w1 ⟨rfl, rfl⟩
  go_wp2
  go_ret2
  exact ⟨rfl, Ext.refl _⟩
theorem rapply_dom (x y : List Nat) (hx : m = x.length) (hy : n = y.length) (htx : ∀ i ∈ x, tidy i) (hty : ∀ i ∈ y, tidy i) (hm : m ≤ 1048576) (hn : n ≤ 1048576) (hf : okL f = true) (hl : lenOk (m : Int) (n : Int) = true) (h0 : 0 < lenV (m : Int) (n : Int)) (hd : (decide (leastL x ≤ 1) && decide (leastL y ≤ 1)) = false) (hs : Sl w 1 A m (f64s x)) (hs' : Sl w 1 A' n (f64s y)) :
    Calls Try.prog 35 #[.int .i64 f, .slice A m c, .slice A' n c'] w fun e w' => e = .returned (.tuple #[.slice none 0 0, .int .i64 24]) ∧ Ext w w' := by
  obtain ⟨h1, h2⟩ := okL_yes hf
  have cl := fun w => rlength_any (m : Int) (n : Int) w
  rw [rlen_ok hl] at cl
  have ctx := fun w hs => rtruths_any A x m hx htx c w hm hs
  have cty := fun w hs => rtruths_any A' y n hy hty c' w hn hs
  generalize decide (leastL x ≤ 1) = bx at *
  generalize decide (leastL y ≤ 1) = by' at *
  have HS := Lib.hid hs
  have HS' := Lib.hid hs'
  clear hf hl hx hy htx hty hm hn hs hs'
  generalize lenV (m : Int) (n : Int) = N at *
  go_enter Try.func35, Try.ntmps35
  go_wp2_with fail
  refine (cl _).mono ?_
  rintro e w1 ⟨rfl, rfl⟩
  go_wp2_with fail
  refine (ctx _ HS.out).mono ?_
  rintro e w2 ⟨P, mp, kp, rfl, -, -, -, hx⟩
  have HX := Lib.hid hx
  clear hx
  go_wp2_with fail
  refine (cty _ (HS'.out.ext HX.out)).mono ?_
  rintro e w3 ⟨Q, mq, kq, rfl, -, -, -, hx⟩
  have HX2 := Lib.hid (HX.out.trans hx)
  clear hx
  cases bx
  · go_wp2
    go_ret2
    exact ⟨rfl, HX2.out⟩
  · rw [show (true && by') = by' by cases by' <;> rfl] at hd
    subst hd
    go_wp2
    go_ret2
    exact ⟨rfl, HX2.out⟩
end
theorem rapply_ok (f : Int) (A A' : Option Addr) (m n c c' : Nat) (w : World) (x y : List Nat) (N : Nat) (hx : m = x.length) (hy : n = y.length) (htx : ∀ i ∈ x, tidy i) (hty : ∀ i ∈ y, tidy i) (hm : m ≤ 1048576) (hn : n ≤ 1048576) (hf : okL f = true) (hl : lenOk (m : Int) (n : Int) = true) (h0 : 0 < N) (hN : lenV (m : Int) (n : Int) = (N : Int)) (hNm : N = m ∨ m = 1) (hNn : N = n ∨ n = 1) (hN2 : N ≤ 1048576)
    (hbx : leastL x ≤ 1) (hby : leastL y ≤ 1) (hs : Sl w 1 A m (f64s x)) (hs' : Sl w 1 A' n (f64s y)) :
    Calls Try.prog 35 #[.int .i64 f, .slice A m c, .slice A' n c'] w fun e w' => ∃ B cb, e = .returned (.tuple #[.slice B N cb, .int .i64 0]) ∧ Sl w' 1 B N (bools (appB f (toB x) (toB y) N)) ∧ Ext w w' := by
  obtain ⟨i0, hi0, hz0, hz1, hz2⟩ := info_parts infoB
  obtain ⟨h1, h2⟩ := okL_yes hf
  have cl := fun w => rlength_any (m : Int) (n : Int) w
  rw [rlen_ok hl, hN] at cl
  have ctx := fun w hs => rtruths_yes A x m hx htx hbx c w hm hs
  have cty := fun w hs => rtruths_yes A' y n hy hty hby c' w hn hs
  have hbl : (toB x).length = m := by rw [toB_length, hx]
  have hbl' : (toB y).length = n := by rw [toB_length, hy]
  have co := fun a b w => rone_any f a b w
  rw [hf, if_pos rfl] at co
  have HS := Lib.hid hs
  have HS' := Lib.hid hs'
  rw [appB_row]
  clear hf hl hx hy htx hty hN hs hs' hbx hby
  generalize toB x = px at *
  generalize toB y = py at *
  go_enter Try.func35, Try.ntmps35
  go_wp2_with fail
  refine (cl _).mono ?_
  rintro e w1 ⟨rfl, rfl⟩
  go_wp2_with fail
  refine (ctx _ HS.out).mono ?_
  rintro e w2 ⟨P, kp, rfl, hp, hx⟩
  have HX := Lib.hid hx
  clear hx
  go_wp2_with fail
  refine (cty _ (HS'.out.ext HX.out)).mono ?_
  rintro e w3 ⟨Q, kq, rfl, hq, hx⟩
  have HP := Lib.hid (hp.ext hx)
  have HQ := Lib.hid hq
  have HX2 := Lib.hid (HX.out.trans hx)
  clear hx hp hq ctx cty cl HX
  have HL := Lib.hid hbl
  have HL' := Lib.hid hbl'
  clear hbl hbl'
  go_wp2_with fail
  go_loopw [13, 14] (fun o i wr => ∃ k : Nat, k ≤ N ∧ i = .int .i64 k ∧ wr.ownsRow w3.heap.size 4 1 o k (pre (fun i => .bool (oneL f (pkB px i) (pkB py i))) k) ∧ Ext w3 wr) (fun _ i _ => N - (intOf i).toNat)
  case atStart => exact ⟨0, Nat.zero_le _, rfl, ⟨rfl, Or.inl ⟨rfl, rfl⟩⟩, Ext.refl w3⟩
  case round =>
    obtain ⟨k, hk, rfl, hown, hx⟩ := hrel
    have HX := Lib.hid hx
    by_cases hlt : k < N
    · have HO := Lib.hid hown
      have hpk : Hid (pkB px k = if 1 < m then px.getD k false else px.getD 0 false) := by show pkB px k = _; rw [pkB, HL.out]
      have hqk : Hid (pkB py k = if 1 < n then py.getD k false else py.getD 0 false) := by show pkB py k = _; rw [pkB, HL'.out]
      have HPS : Hid (pre (fun i => Value.bool (oneL f (pkB px i) (pkB py i))) k ++ [.bool (oneL f (pkB px k) (pkB py k))] = pre (fun i => Value.bool (oneL f (pkB px i) (pkB py i))) (k + 1)) := pre_step _ k
      generalize pre (fun i => Value.bool (oneL f (pkB px i) (pkB py i))) k = xs at *
      obtain ⟨a, u, rfl, hab, hu, hc0⟩ := HP.out.at1 (k := 0) (by omega)
      rw [bools_get (by rw [HL.out]; omega)] at hu
      cases hu
      obtain ⟨a', u, rfl, hab', hu, hc0'⟩ := HQ.out.at1 (k := 0) (by omega)
      rw [bools_get (by rw [HL'.out]; omega)] at hu
      cases hu
      have D0 : Hid (wr.cell? (a.add 0) = some (.bool (px.getD 0 false))) := (Below.cell hx (by rw [addr_block]; exact hab)).trans hc0
      have D0' : Hid (wr.cell? (a'.add 0) = some (.bool (py.getD 0 false))) := (Below.cell hx (by rw [addr_block]; exact hab')).trans hc0'
      have D1 : Hid (1 < m → wr.cell? (a.add k) = some (.bool (px.getD k false))) := fun h => by
        obtain ⟨a2, u, e, _, hu, hc⟩ := HP.out.at1 (k := k) (by omega)
        cases e
        rw [bools_get (by rw [HL.out]; omega)] at hu
        cases hu
        exact (Below.cell hx (by rw [addr_block]; exact hab)).trans hc
      have D1' : Hid (1 < n → wr.cell? (a'.add k) = some (.bool (py.getD k false))) := fun h => by
        obtain ⟨a2, u, e, _, hu, hc⟩ := HQ.out.at1 (k := k) (by omega)
        cases e
        rw [bools_get (by rw [HL'.out]; omega)] at hu
        cases hu
        exact (Below.cell hx (by rw [addr_block]; exact hab')).trans hc
      have b1 : 0 < m := by omega
      have b2 : 0 < n := by omega
      rw [show a.add 0 = a by unfold Addr.add; split <;> simp_all] at D0
      rw [show a'.add 0 = a' by unfold Addr.add; split <;> simp_all] at D0'
      clear hown hx hc0 hc0' hab hab' HP HQ HL HL'
      generalize px.getD 0 false = p0 at *
      generalize py.getD 0 false = q0 at *
      generalize px.getD k false = p1 at *
      generalize py.getD k false = q1 at *
      generalize pkB px k = pp at *
      generalize pkB py k = qq at *
      go_wp2_with fail
      go_region_held3 (fun w' => w'.cell? a = some (.bool p0) ∧ w'.cell? a' = some (.bool q0)) ((first | exact ⟨D0.out, D0'.out⟩ | go_keep)) (fail)
      have HD : Hid (Ext wr wr.drew) := (Ext.refl wr).drew
      replace D1 : Hid (1 < m → wr.drew.cell? (a.add k) = some (.bool p1)) := fun h => D1.out h
      replace D1' : Hid (1 < n → wr.drew.cell? (a'.add k) = some (.bool q1)) := fun h => D1'.out h
      have HW : Hid (∀ o, (wr.drew.alloc o).ownsRow w3.heap.size 4 1 u13 k xs) := fun o => own_ext HO.out (HD.out.alloc _)
      clear HO D0 D0'
      replace HX := Lib.hid (HX.out.trans HD.out)
      generalize wr.drew = wd at *
      clear HD
      have hbase : ∀ o, w3.heap.size ≤ (wd.alloc o).heap.size := fun o => by have := HX.out.size; simp; omega
      have hlim : k + 1 ≤ 1099511627776 := by omega
      have HR : Hid (∀ b, Sl (wd.alloc (.cells #[.bool b] 4)) 1 (some ⟨wd.heap.size, 0, none⟩) 1 [.bool b]) := fun b => Sl.built wd #[.bool b] 4
      have h1 : ∀ b, ∀ u ∈ [Value.bool b], u.oneCell' = true := by intro b u hu; simp at hu; subst hu; rfl
      have fin : ∀ (v' : Value) (w' : World), w'.ownsRow w3.heap.size 4 1 v' (k + 1) (xs ++ [.bool (oneL f pp qq)]) → w'.ownsRow w3.heap.size 4 1 v' (k + 1) (pre (fun i => Value.bool (oneL f (pkB px i) (pkB py i))) (k + 1)) := fun v' w' h => by rw [← HPS.out]; exact h
      have FIN := Lib.hid fin
      clear fin HPS
      have b3 : 1 < m → k < m := by omega
      have b4 : 1 < n → k < n := by omega
      clear hNm hNn
      by_cases g1 : 1 < m <;> by_cases g2 : 1 < n
      · rw [if_pos g1] at hpk
        rw [if_pos g2] at hqk
        obtain rfl := hpk.out
        obtain rfl := hqk.out
        have L1 := D1.out g1
        have B3 := b3 g1
        have L2 := D1'.out g2
        have B4 := b4 g2
        clear D1 D1' hpk hqk b3 b4
        go_wp2_with fail
        refine (co _ _ _).mono ?_
        rintro e w4 ⟨rfl, rfl⟩
        go_wp2_with (at_builtin; refine wpList_append_sl _ rfl _ _ 62 rfl w3.heap.size 4 i0 (.bool false) 1 1 Try.underlying62 hi0 hz0 hz1 hz2 rfl (by omega) _ k _ rfl (HW.out _) (some ⟨wd.heap.size, 0, none⟩) 1 1 [.bool _] rfl (HR.out _) (h1 _) hlim (by omega) (hbase _) ?_; intro v' w1 hown hbel)
        refine ⟨⟨k + 1, by omega, by go_num, FIN.out _ _ hown, ?_⟩, by simp [intOf]; omega⟩
        exact (HX.out.alloc _).trans' hbel
      · rw [if_pos g1] at hpk
        rw [if_neg g2] at hqk
        obtain rfl := hpk.out
        obtain rfl := hqk.out
        have L1 := D1.out g1
        have B3 := b3 g1
        clear D1 D1' hpk hqk b3 b4
        go_wp2_with fail
        refine (co _ _ _).mono ?_
        rintro e w4 ⟨rfl, rfl⟩
        go_wp2_with (at_builtin; refine wpList_append_sl _ rfl _ _ 62 rfl w3.heap.size 4 i0 (.bool false) 1 1 Try.underlying62 hi0 hz0 hz1 hz2 rfl (by omega) _ k _ rfl (HW.out _) (some ⟨wd.heap.size, 0, none⟩) 1 1 [.bool _] rfl (HR.out _) (h1 _) hlim (by omega) (hbase _) ?_; intro v' w1 hown hbel)
        refine ⟨⟨k + 1, by omega, by go_num, FIN.out _ _ hown, ?_⟩, by simp [intOf]; omega⟩
        exact (HX.out.alloc _).trans' hbel
      · rw [if_neg g1] at hpk
        rw [if_pos g2] at hqk
        obtain rfl := hpk.out
        obtain rfl := hqk.out
        have L2 := D1'.out g2
        have B4 := b4 g2
        clear D1 D1' hpk hqk b3 b4
        go_wp2_with fail
        refine (co _ _ _).mono ?_
        rintro e w4 ⟨rfl, rfl⟩
        go_wp2_with (at_builtin; refine wpList_append_sl _ rfl _ _ 62 rfl w3.heap.size 4 i0 (.bool false) 1 1 Try.underlying62 hi0 hz0 hz1 hz2 rfl (by omega) _ k _ rfl (HW.out _) (some ⟨wd.heap.size, 0, none⟩) 1 1 [.bool _] rfl (HR.out _) (h1 _) hlim (by omega) (hbase _) ?_; intro v' w1 hown hbel)
        refine ⟨⟨k + 1, by omega, by go_num, FIN.out _ _ hown, ?_⟩, by simp [intOf]; omega⟩
        exact (HX.out.alloc _).trans' hbel
      · rw [if_neg g1] at hpk
        rw [if_neg g2] at hqk
        obtain rfl := hpk.out
        obtain rfl := hqk.out
        clear D1 D1' hpk hqk b3 b4
        go_wp2_with fail
        refine (co _ _ _).mono ?_
        rintro e w4 ⟨rfl, rfl⟩
        go_wp2_with (at_builtin; refine wpList_append_sl _ rfl _ _ 62 rfl w3.heap.size 4 i0 (.bool false) 1 1 Try.underlying62 hi0 hz0 hz1 hz2 rfl (by omega) _ k _ rfl (HW.out _) (some ⟨wd.heap.size, 0, none⟩) 1 1 [.bool _] rfl (HR.out _) (h1 _) hlim (by omega) (hbase _) ?_; intro v' w1 hown hbel)
        refine ⟨⟨k + 1, by omega, by go_num, FIN.out _ _ hown, ?_⟩, by simp [intOf]; omega⟩
        exact (HX.out.alloc _).trans' hbel
    · have hkn : k = N := by omega
      subst hkn
      obtain ⟨A4, c4, rfl, -, -⟩ := own_form hown
      have HW := Lib.hid (Sl.own hown)
      clear hown hx
      go_wp2
      refine bodyPost_ret (v := .tuple #[.slice A4 k c4, .int .i64 0]) (by simp [results, Try.results35, go_sem]) rfl ⟨_, _, rfl, HW.out, HX2.out.trans HX.out⟩
end Go.Proofs.Ytdfhefnjoekgbaa
