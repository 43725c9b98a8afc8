/- rebusref10.Pair, rebusref10.Apply. -/
import Derived.Test.YtidnikndjhfgaaaSe
import Derived.Test.YtidnikndjhfgaaaVl
namespace Go.Proofs.Ytidnikndjhfgaaa
open Go.ChangeShapes Go.WideShapes Go.RowKit Bv Fl
set_option maxHeartbeats 2000000
set_option maxRecDepth 100000
theorem f64s_get' {l : List Nat} {k : Nat} (h : k < l.length) : (f64s l)[k]? = some (.float .f64 (l.getD k 0)) := f64s_get h
theorem pairF_any (A B : Option Addr) (m n c c' : Nat) (x y : List Nat) (hx : m = x.length) (hy : n = y.length) (N k : Nat) (lx : m = N ∨ m = 1) (ly : n = N ∨ n = 1) (hk : k < N) (w : World) (hs : Sl w 1 A m (f64s x)) (hs' : Sl w 1 B n (f64s y)) :
    Calls Try.prog 71 #[.slice A m c, .slice B n c', .int .i64 (k : Int)] w fun e w' => e = .returned (.tuple #[.float .f64 (pkN x k), .float .f64 (pkN y k)]) ∧ Ext w w' := by
  have b1 : 0 < m := by omega
  have b2 : 0 < n := by omega
  obtain ⟨a, u, rfl, -, hu, D0⟩ := hs.at1 (k := 0) b1
  rw [f64s_get' (by rw [← hx]; exact b1)] at hu
  cases hu
  obtain ⟨a', u, rfl, -, hu, D0'⟩ := hs'.at1 (k := 0) b2
  rw [f64s_get' (by rw [← hy]; exact b2)] at hu
  cases hu
  have P1 : Hid (pkN x k = x.getD (if m = 1 then 0 else k) 0) := by show pkN x k = _; unfold pkN ixN; rw [← hx]
  have P2 : Hid (pkN y k = y.getD (if n = 1 then 0 else k) 0) := by show pkN y k = _; unfold pkN ixN; rw [← hy]
  have D1 : Hid (1 < m → w.cell? (a.add k) = some (.float .f64 (x.getD k 0))) := fun h => by
    obtain ⟨a2, u, e, _, hu, hc⟩ := hs.at1 (k := k) (by omega)
    cases e
    rw [f64s_get' (by rw [← hx]; omega)] at hu
    cases hu
    exact hc
  have D1' : Hid (1 < n → w.cell? (a'.add k) = some (.float .f64 (y.getD k 0))) := fun h => by
    obtain ⟨a2, u, e, _, hu, hc⟩ := hs'.at1 (k := k) (by omega)
    cases e
    rw [f64s_get' (by rw [← hy]; omega)] at hu
    cases hu
    exact hc
  rw [show a.add 0 = a by unfold Addr.add; split <;> simp_all] at D0
  rw [show a'.add 0 = a' by unfold Addr.add; split <;> simp_all] at D0'
  have b3 : 1 < m → k < m := by omega
  have b4 : 1 < n → k < n := by omega
  clear hs hs' hx hy lx ly hk
  generalize pkN x k = xk at *
  generalize pkN y k = yk at *
  by_cases g1 : 1 < m <;> by_cases g2 : 1 < n
  · rw [if_neg (by omega)] at P1
    rw [if_neg (by omega)] at P2
    have L1 := D1.out g1
    have L2 := D1'.out g2
    have B3 := b3 g1
    have B4 := b4 g2
    obtain rfl := P1.out
    obtain rfl := P2.out
    clear P1 P2 D1 D1' b3 b4
    generalize x.getD 0 0 = p0 at *
    generalize y.getD 0 0 = q0 at *
    generalize x.getD k 0 = p1 at *
    generalize y.getD k 0 = q1 at *
    go_enter Try.func71, Try.ntmps71
    go_wp2_with fail
    go_region_held3 (fun w' => w'.cell? a = some (.float .f64 p0) ∧ w'.cell? a' = some (.float .f64 q0)) ((first | exact ⟨D0, D0'⟩ | go_keep)) (fail)
    replace L1 : w.drew.cell? (a.add k) = some (.float .f64 p1) := L1
    replace L2 : w.drew.cell? (a'.add k) = some (.float .f64 q1) := L2
    have HX := Lib.hid (Ext.refl w).drew
    generalize w.drew = wd at *
    go_wp2
    go_ret2
    exact ⟨rfl, HX.out⟩
  · rw [if_neg (by omega)] at P1
    rw [if_pos (by omega)] at P2
    have L1 := D1.out g1
    have B3 := b3 g1
    obtain rfl := P1.out
    obtain rfl := P2.out
    clear P1 P2 D1 D1' b3 b4
    generalize x.getD 0 0 = p0 at *
    generalize y.getD 0 0 = q0 at *
    generalize x.getD k 0 = p1 at *
    go_enter Try.func71, Try.ntmps71
    go_wp2_with fail
    go_region_held3 (fun w' => w'.cell? a = some (.float .f64 p0) ∧ w'.cell? a' = some (.float .f64 q0)) ((first | exact ⟨D0, D0'⟩ | go_keep)) (fail)
    replace L1 : w.drew.cell? (a.add k) = some (.float .f64 p1) := L1
    have HX := Lib.hid (Ext.refl w).drew
    generalize w.drew = wd at *
    go_wp2
    go_ret2
    exact ⟨rfl, HX.out⟩
  · rw [if_pos (by omega)] at P1
    rw [if_neg (by omega)] at P2
    have L2 := D1'.out g2
    have B4 := b4 g2
    obtain rfl := P1.out
    obtain rfl := P2.out
    clear P1 P2 D1 D1' b3 b4
    generalize x.getD 0 0 = p0 at *
    generalize y.getD 0 0 = q0 at *
    generalize y.getD k 0 = q1 at *
    go_enter Try.func71, Try.ntmps71
    go_wp2_with fail
    go_region_held3 (fun w' => w'.cell? a = some (.float .f64 p0) ∧ w'.cell? a' = some (.float .f64 q0)) ((first | exact ⟨D0, D0'⟩ | go_keep)) (fail)
    replace L2 : w.drew.cell? (a'.add k) = some (.float .f64 q1) := L2
    have HX := Lib.hid (Ext.refl w).drew
    generalize w.drew = wd at *
    go_wp2
    go_ret2
    exact ⟨rfl, HX.out⟩
  · rw [if_pos (by omega)] at P1
    rw [if_pos (by omega)] at P2
    obtain rfl := P1.out
    obtain rfl := P2.out
    clear P1 P2 D1 D1' b3 b4
    generalize x.getD 0 0 = p0 at *
    generalize y.getD 0 0 = q0 at *
    go_enter Try.func71, Try.ntmps71
    go_wp2_with fail
    go_region_held3 (fun w' => w'.cell? a = some (.float .f64 p0) ∧ w'.cell? a' = some (.float .f64 q0)) ((first | exact ⟨D0, D0'⟩ | go_keep)) (fail)
    have HX := Lib.hid (Ext.refl w).drew
    generalize w.drew = wd at *
    go_wp2
    go_ret2
    exact ⟨rfl, HX.out⟩
section
variable (f : Int) (A B : Option Addr) (m n c c' : Nat) (w : World)
theorem rapp_bad (hf : f < 1 ∨ 8 < f) : Calls Try.prog 39 #[.int .i64 f, .slice A m c, .slice B n c'] w fun e w' => e = .returned (.tuple #[.slice none 0 0, .int .i64 1]) ∧ Ext w w' := by
  by_cases h1 : f < 1
  · clear hf
    go_enter Try.func39, Try.ntmps39
    go_wp2
    go_ret2
    exact ⟨rfl, Ext.refl _⟩
  · have h2 : 8 < f := by omega
    clear hf
    go_enter Try.func39, Try.ntmps39
    go_wp2
    go_ret2
    exact ⟨rfl, Ext.refl _⟩
theorem rapp_len (hf : ¬ (f < 1 ∨ 8 < f)) (hl : lenOk (m : Int) (n : Int) = false) : Calls Try.prog 39 #[.int .i64 f, .slice A m c, .slice B n c'] w fun e w' => e = .returned (.tuple #[.slice none 0 0, .int .i64 23]) ∧ Ext w w' := by
  have h1 : 1 ≤ f := by omega
  have h2 : f ≤ 8 := by omega
  have cl := fun w => rlength_any (m : Int) (n : Int) w
  rw [(rlen_no hl).1] at cl
  clear hf hl
  go_enter Try.func39, Try.ntmps39
  go_wp2_with fail
  refine (cl _).mono ?_
  rintro e w1 ⟨rfl, rfl⟩
  go_wp2
  go_ret2
  exact ⟨rfl, Ext.refl _⟩
end
def RApp (er : Int) (L : List Nat) (N : Nat) (w : World) (e : Ending) (w' : World) : Prop := ∃ B k cb, e = .returned (.tuple #[.slice B k cb, .int .i64 er]) ∧ (er = 0 → k = N ∧ Sl w' 1 B k (f64s L)) ∧ Ext w w'
theorem rapp_go (f : Int) (A B : Option Addr) (m n c c' : Nat) (w : World) (x y : List Nat) (N : Nat) (hx : m = x.length) (hy : n = y.length) (htx : ∀ i ∈ x, tidy i) (hty : ∀ i ∈ y, tidy i) (hf : ¬ (f < 1 ∨ 8 < f)) (hl : lenOk (m : Int) (n : Int) = true) (hN : lenV (m : Int) (n : Int) = (N : Int)) (lx : m = N ∨ m = 1) (ly : n = N ∨ n = 1) (hN2 : N ≤ 1048576) (hs : Sl w 1 A m (f64s x)) (hs' : Sl w 1 B n (f64s y)) :
    Calls Try.prog 39 #[.int .i64 f, .slice A m c, .slice B n c'] w (RApp (errF f x y N) (resL f x y N) N w) := by
  obtain ⟨i0, hi0, hz0, hz1, hz2⟩ := info_parts infoF
  have h1 : 1 ≤ f := by omega
  have h2 : f ≤ 8 := by omega
  have cl := fun w => rlength_any (m : Int) (n : Int) w
  rw [rlen_ok hl, hN] at cl
  have cp := fun k w hk hs hs' => pairF_any A B m n c c' x y hx hy N k lx ly hk w hs hs'
  have lx' : x.length = N ∨ x.length = 1 := by omega
  have ly' : y.length = N ∨ y.length = 1 := by omega
  have co := fun k w (hk : k < N) => rao_any f (pkN x k) (pkN y k) (htx _ (getD_memN (ixN_lt lx' hk))) (hty _ (getD_memN (ixN_lt ly' hk))) w
  have HR : Hid (f64s (resL f x y N) = pre (fun k => .float .f64 (valA f (pkN x k) (pkN y k))) N) := by show _ = _; simp [f64s, resL, pre]
  have HE : Hid (∀ k, errF f x y (k + 1) = if errF f x y k ≠ 0 then errF f x y k else errA f (pkN x k) (pkN y k)) := fun k => rfl
  have HST : Hid (∀ k, errF f x y k ≠ 0 → k ≤ N → errF f x y N = errF f x y k) := fun k h hk => errF_stay h hk
  have H0 : Hid (errF f x y 0 = 0) := rfl
  have HS := Lib.hid hs
  have HS' := Lib.hid hs'
  clear hx hy htx hty hf hl hN lx ly lx' ly' hs hs'
  unfold RApp
  generalize resL f x y N = RL at *
  obtain ⟨EF, hEF⟩ : ∃ EF : Nat → Int, errF f x y = EF := ⟨_, rfl⟩
  rw [hEF] at HE HST H0 ⊢
  clear hEF
  go_enter Try.func39, Try.ntmps39
  go_wp2_with fail
  refine (cl _).mono ?_
  rintro e w1 ⟨rfl, rfl⟩
  go_wp2_with fail
  go_loopw [9, 10] (fun o i wr => ∃ k : Nat, k ≤ N ∧ i = .int .i64 k ∧ EF k = 0 ∧ wr.ownsRow w.heap.size 56 1 o k (pre (fun k => .float .f64 (valA f (pkN x k) (pkN y k))) k) ∧ Ext w wr) (fun _ i _ => N - (intOf i).toNat)
  case atStart => exact ⟨0, Nat.zero_le _, rfl, H0.out, ⟨rfl, Or.inl ⟨rfl, rfl⟩⟩, Ext.refl w⟩
  case round =>
    obtain ⟨k, hk, rfl, hup, hown, hx⟩ := hrel
    have HU := Lib.hid hup
    have HX := Lib.hid hx
    have HO := Lib.hid hown
    clear hup hx hown
    by_cases hlt : k < N
    · have cp' := cp k wr hlt (HS.out.ext HX.out) (HS'.out.ext HX.out)
      have co' := fun w => co k w hlt
      have HEk := Lib.hid (HE.out k)
      have HP : Hid (pre (fun k => Value.float .f64 (valA f (pkN x k) (pkN y k))) k ++ [.float .f64 (valA f (pkN x k) (pkN y k))] = pre (fun k => Value.float .f64 (valA f (pkN x k) (pkN y k))) (k + 1)) := pre_step _ k
      clear cp co
      have hcase : errA f (pkN x k) (pkN y k) = 0 ∨ ¬ errA f (pkN x k) (pkN y k) = 0 := by omega
      generalize hvk : valA f (pkN x k) (pkN y k) = vk at *
      generalize errA f (pkN x k) (pkN y k) = ek at *
      clear hvk
      generalize pkN x k = xk at *
      generalize pkN y k = yk at *
      rcases hcase with hz | hz
      · subst hz
        go_wp2_with fail
        refine cp'.mono ?_
        rintro e w4 ⟨rfl, hx4⟩
        have HX4 := Lib.hid (HX.out.trans hx4)
        have HW : Hid (∀ o, (w4.alloc o).ownsRow w.heap.size 56 1 u9 k (pre (fun k => .float .f64 (valA f (pkN x k) (pkN y k))) k)) := fun o => own_ext (own_ext HO.out hx4) ((Ext.refl _).alloc _)
        have HRr : Hid (Sl (w4.alloc (.cells #[.float .f64 vk] 56)) 1 (some ⟨w4.heap.size, 0, none⟩) 1 [.float .f64 vk]) := Sl.built w4 #[.float .f64 vk] 56
        have h1' : ∀ u ∈ [Value.float .f64 vk], u.oneCell' = true := by intro u hu; simp at hu; subst hu; rfl
        have hbase : ∀ o, w.heap.size ≤ (w4.alloc o).heap.size := fun o => by have := HX4.out.size; simp; omega
        have hlim : k + 1 ≤ 1099511627776 := by omega
        clear hx4 HO HX
        go_wp2_with fail
        refine (co' _).mono ?_
        rintro e w5 ⟨rfl, rfl⟩
        go_wp2_with (at_builtin; refine wpList_append_sl _ rfl _ _ 37 rfl w.heap.size 56 i0 (.float .f64 0) 1 8 Try.underlying37 hi0 hz0 hz1 hz2 rfl (by omega) _ k _ rfl (HW.out _) (some ⟨w4.heap.size, 0, none⟩) 1 1 [.float .f64 vk] rfl HRr.out h1' hlim (by omega) (hbase _) ?_; intro v' w1 hown hbel)
        refine ⟨⟨k + 1, by omega, by go_num, by rw [HEk.out, if_neg (by rw [HU.out]; decide)], by rw [← HP.out]; exact hown, ?_⟩, by simp [intOf]; omega⟩
        exact (HX4.out.alloc _).trans' hbel
      · have e48 : (ek != 0) = true := by simpa using hz
        have hE : Hid (EF N = ek) := by
          show EF N = ek
          rw [HST.out (k + 1) (by rw [HEk.out, if_neg (by rw [HU.out]; decide)]; exact hz) (by omega), HEk.out, if_neg (by rw [HU.out]; decide)]
        have HZ := Lib.hid hz
        clear HP HO hz
        go_wp2_with fail
        refine cp'.mono ?_
        rintro e w4 ⟨rfl, hx4⟩
        have HX4 := Lib.hid (HX.out.trans hx4)
        clear hx4
        go_wp2_with fail
        refine (co' _).mono ?_
        rintro e w5 ⟨rfl, rfl⟩
        go_wp2
        refine bodyPost_ret (v := .tuple #[.slice none 0 0, .int .i64 ek]) (by simp [results, Try.results39, go_sem]) rfl ⟨none, 0, 0, by rw [hE.out], fun h => absurd (hE.out.symm.trans h) HZ.out, HX4.out⟩
    · have hkn : k = N := by omega
      have HUN : Hid (EF N = 0) := by show EF N = 0; rw [← hkn]; exact HU.out
      have HON := HO.out
      rw [hkn, ← HR.out] at HON
      obtain ⟨A4, c4, rfl, -, -⟩ := own_form HON
      have HW := Lib.hid (Sl.own HON)
      clear HON HO HU
      go_wp2
      refine bodyPost_ret (v := .tuple #[.slice A4 N c4, .int .i64 0]) (by simp [results, Try.results39, go_sem]) rfl ⟨A4, N, c4, by rw [HUN.out], fun _ => ⟨rfl, HW.out⟩, HX.out⟩
end Go.Proofs.Ytidnikndjhfgaaa
