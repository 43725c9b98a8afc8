/- mono.Apply in one contract, rebusref09.Apply, rebuslaw09.awake, MonoOne. -/
import Derived.Test.YtidnikndjhfgaaaDoorUe
import Derived.Test.YtidnikndjhfgaaaDoorPl
import Derived.Test.YtidnikndjhfgaaaDoorQp
import Derived.Test.YtidnikndjhfgaaaDoorQm
import Derived.Test.YtidnikndjhfgaaaDoorVl
namespace Go.Proofs.YtidnikndjhfgaaaDoor
open Go.ChangeShapes Go.WideShapes Go.RowKit Bv Fl
set_option maxHeartbeats 4000000
set_option maxRecDepth 100000
theorem num_bitsM {w : World} {v : Value} {x : List Nat} (h : IsNum w v 1 x) : ∃ b, IsVec w v (VD.bits b) ∧ x = b.map bitW := by
  obtain ⟨d, hd, hk, _, _, hl⟩ := h
  have hd' := hd
  rcases hd with ⟨rfl, _⟩ | ⟨b, A, c, rfl, _⟩ | ⟨l, A, c, rfl, _⟩ | ⟨l, A, c, rfl, _⟩ | ⟨l, A, c, rfl, _⟩ | ⟨l, A, c, rfl, _⟩ | ⟨n, cs, A, c, rfl, _⟩
  · cases hk
  · exact ⟨b, hd', by rw [← hl, bits_numsM]⟩
  all_goals cases hk
theorem errMF_bits {f : Int} (hf : 1 ≤ f ∧ f ≤ 8) (h4 : f ≠ 4) (b : List Bool) : errMF f (b.map bitW) b.length = 0 := errMF_of fun j hj => by
  have : (b.map bitW).getD j 0 = bitW (b.getD j false) := by simp [List.getD, hj]
  rw [this, bitW_fi', errM_w hf h4 (bitG _), show eM f (if b.getD j false = true then 1 else 0) = true by
    unfold eM
    split
    · cases b.getD j false <;> rfl
    · rfl]
  rfl
def erM (f : Int) (x : List Nat) : Int := if 1 ≤ f ∧ f ≤ 8 then errMF f x x.length else 1
theorem toI_fi {w : World} {v : Value} {K : Nat} {x : List Nat} (h : IsNum w v K x) (hK : K ≤ 3) : (toI x).map fi = x ∧ ∀ i ∈ toI x, G i := by
  have hw := num_wholeM h hK
  constructor
  · unfold toI
    rw [List.map_map]
    conv => rhs; rw [← List.map_id x]
    apply List.map_congr_left
    intro i hi
    exact (whole_tidy (hw i hi).2 (hw i hi).1).symm
  · intro i hi
    simp only [toI, List.mem_map] at hi
    obtain ⟨y, hy, rfl⟩ := hi
    exact trn_le (hw y hy).2.1
theorem ma_u (f : Int) (v : Value) (K : Nat) (x : List Nat) (w : World) (hv : IsNum w v K x) (ht : Tab w) : Calls Tryd.prog 14 #[.int .i64 f, v] w (MoU (erM f x) (resM f x) w) := by
  have hF := hv.flat
  have hlim := hv.lim
  have err : ∀ k : Int, k ≠ 0 → erM f x = k → Calls Tryd.prog 14 #[.int .i64 f, v] w (fun e w' => e = .returned (.tuple #[zeroVec, .int .i64 k]) ∧ Ext w w') → Calls Tryd.prog 14 #[.int .i64 f, v] w (MoU (erM f x) (resM f x) w) := by
    intro k hk hE h
    refine h.mono ?_
    rintro e w' ⟨rfl, hx⟩
    exact ⟨_, by rw [hE], fun _ => rfl, fun h => absurd h (by rw [hE]; exact hk), hx⟩
  have good : erM f x = 0 → Calls Tryd.prog 14 #[.int .i64 f, v] w (fun e w' => ∃ p, e = .returned (.tuple #[p, .int .i64 0]) ∧ IsNum w' p (leastL (resM f x)) (resM f x) ∧ Ext w w') → Calls Tryd.prog 14 #[.int .i64 f, v] w (MoU (erM f x) (resM f x) w) := by
    intro hE h
    refine h.mono ?_
    rintro e w' ⟨p, rfl, hq, hx⟩
    exact ⟨p, by rw [hE], fun h => absurd hE h, fun _ => hq, hx⟩
  by_cases h1 : f < 1
  · exact err 1 (by decide) (if_neg (by omega)) (ma_bad1 f v w h1 hF)
  by_cases h2 : 8 < f
  · exact err 1 (by decide) (if_neg (by omega)) (ma_bad2 f v w h1 h2 hF)
  have hf : 1 ≤ f ∧ f ≤ 8 := by omega
  have hE : erM f x = errMF f x x.length := if_pos hf
  by_cases hK : K = 1
  · subst hK
    obtain ⟨b, hb, rfl⟩ := num_bitsM hv
    rw [List.length_map] at hE
    by_cases h4 : f = 4
    · subst h4
      by_cases hc : cnt b b.length < b.length
      · exact err 24 (by decide) (by rw [hE, err4_bits hc]) (ma_bitse 4 v w h1 h2 b hb 24 fun pv w' S hS => mbits_4e pv b w' S hS hc)
      · exact good (by rw [hE, (res4_bits hc).2]) (ma_bits 4 v w h1 h2 b hb _ fun pv w' S hS => mbits_4 pv b w' S hS hc)
    · have he := errMF_bits hf h4 b
      refine good (by rw [hE, he]) ?_
      by_cases f2 : f = 2
      · subst f2
        exact ma_bits2 v w b hb _ ht fun pv w' S ht' hS => mbits_2 pv b w' S hS ht'
      · refine ma_bits f v w h1 h2 b hb _ fun pv w' S hS => ?_
        have hc : f = 1 ∨ f = 3 ∨ f = 5 ∨ f = 6 ∨ f = 7 ∨ f = 8 := by omega
        rcases hc with rfl | rfl | rfl | rfl | rfl | rfl
        · exact mbits_1 pv b w' S hS
        · exact mbits_3 pv b w' S hS
        · exact mbits_5 pv b w' S hS
        · exact mbits_6 pv b w' S hS
        · exact mbits_7 pv b w' S hS
        · exact mbits_8 pv b w' S hS
  have hnil : x.length = 0 → erM f x = 0 ∧ resM f x = [] := fun h0 => by
    obtain rfl := List.length_eq_zero_iff.1 h0
    exact ⟨by rw [hE]; rfl, rfl⟩
  by_cases h4 : f = 4 ∧ K ≤ 3
  · by_cases h0 : x.length = 0
    · refine good (hnil h0).1 ?_
      rw [(hnil h0).2]
      exact ma_fl04 f v w h1 h2 K x hv hK (by simp [h4.1]) h4.2 h0
    · have := ma_fl4 f v w h1 h2 K x hv hK (by simp [h4.1]) h4.2 x.length rfl hlim h0
      rwa [← hE] at this
  by_cases hK3 : K ≤ 3
  · have f4 : f ≠ 4 := fun e => h4 ⟨e, hK3⟩
    have f4' : (f != 4) = true := by simpa using f4
    by_cases h0 : x.length = 0
    · refine good (hnil h0).1 ?_
      rw [(hnil h0).2]
      exact ma_wh0 f v w h1 h2 K x hv hK hK3 f4' h0
    · obtain ⟨hfi, hG⟩ := toI_fi hv hK3
      have hlen : x.length = (toI x).length := (toI_length x).symm
      have hEz := eM_zero hf f4 hG
      rw [hfi, ← hlen] at hEz
      cases ha : allE f (toI x)
      · rw [ha] at hEz
        have f8 : f = 8 := by
          refine Classical.byContradiction fun h => ?_
          have : allE f (toI x) = true := List.all_eq_true.2 fun _ _ => by unfold eM; rw [if_neg h]
          rw [ha] at this
          cases this
        subst f8
        exact err 24 (by decide) (by rw [hE, hEz]; rfl) (ma_whe 8 v w h1 h2 K x hv hK hK3 f4' x.length rfl h0 24 fun g c w' E hg hO => mwh_8e g x.length c (toI x) hlen hG hlim w w' ha E hg hO)
      · rw [ha] at hEz
        refine good (by rw [hE, hEz]; rfl) ?_
        have hN := wM_nums hf f4 hG ha
        rw [hfi] at hN
        rw [← hN]
        refine ma_wh f v w h1 h2 K x hv hK hK3 f4' x.length rfl h0 _ fun g c w' E hg hO => ?_
        have hc : f = 1 ∨ f = 2 ∨ f = 3 ∨ f = 5 ∨ f = 6 ∨ f = 7 ∨ f = 8 := by omega
        rcases hc with rfl | rfl | rfl | rfl | rfl | rfl | rfl
        · exact mwh_1 g x.length c (toI x) hlen hG hlim w w' E hg hO
        · exact mwh_2 g x.length c (toI x) hlen hG hlim w w' E hg hO
        · exact mwh_3 g x.length c (toI x) hlen hG hlim w w' E hg hO
        · exact mwh_5 g x.length c (toI x) hlen hG hlim w w' E hg hO
        · exact mwh_6 g x.length c (toI x) hlen hG hlim w w' E hg hO
        · exact mwh_7 g x.length c (toI x) hlen hG hlim w w' E hg hO
        · exact mwh_8 g x.length c (toI x) hlen hG hlim w w' ha E hg hO
  · have hK4 : K = 4 := by have := hv.rng; omega
    by_cases h0 : x.length = 0
    · refine good (hnil h0).1 ?_
      rw [(hnil h0).2]
      exact ma_fl0f f v w h1 h2 K x hv hK hK4 h0
    · have := ma_flf f v w h1 h2 K x hv hK hK4 x.length rfl hlim h0
      rwa [← hE] at this
theorem f64s_getM {l : List Nat} {k : Nat} (h : k < l.length) : (f64s l)[k]? = some (.float .f64 (l.getD k 0)) := f64s_get h
def RMp (er : Int) (L : List Nat) (N : Nat) (w : World) (e : Ending) (w' : World) : Prop := ∃ B k cb, e = .returned (.tuple #[.slice B k cb, .int .i64 er]) ∧ (er = 0 → k = N ∧ Sl w' 1 B k (f64s L)) ∧ Ext w w'
theorem mrapp_bad (f : Int) (A : Option Addr) (m c : Nat) (w : World) (h : ¬ (1 ≤ f ∧ f ≤ 8)) : Calls Tryd.prog 15 #[.int .i64 f, .slice A m c] w fun e w' => e = .returned (.tuple #[.slice none 0 0, .int .i64 1]) ∧ Ext w w' := by
  by_cases h1 : f < 1
  · clear h
    go_enter Tryd.func15, Tryd.ntmps15
    go_wp2
    refine bodyPost_ret (v := .tuple #[.slice none 0 0, .int .i64 1]) (by simp [results, Tryd.results15, go_sem]) rfl ⟨rfl, Ext.refl _⟩
  · have h2 : 8 < f := by omega
    clear h
    go_enter Tryd.func15, Tryd.ntmps15
    go_wp2
    refine bodyPost_ret (v := .tuple #[.slice none 0 0, .int .i64 1]) (by simp [results, Tryd.results15, go_sem]) rfl ⟨rfl, Ext.refl _⟩
theorem mrapp_go (f : Int) (A : Option Addr) (m c : Nat) (w : World) (x : List Nat) (hm : m = x.length) (htx : ∀ i ∈ x, tidy i) (hf : 1 ≤ f ∧ f ≤ 8) (hN2 : m ≤ 1048576) (hs : Sl w 1 A m (f64s x)) :
    Calls Tryd.prog 15 #[.int .i64 f, .slice A m c] w (RMp (errMF f x m) (resM f x) m w) := by
  obtain ⟨i0, hi0, hz0, hz1, hz2⟩ := info_parts infoF
  have h1 := hf.1
  have h2 := hf.2
  have co := fun k w (hk : k < m) => rmo_any f (x.getD k 0) (htx _ (getD_memN (by omega))) w
  have HG : Hid (∀ k, k < m → (f64s x)[k]? = some (.float .f64 (x.getD k 0))) := fun k hk => f64s_getM (by omega)
  have HR : Hid (f64s (resM f x) = pre (fun k => .float .f64 (valM f (x.getD k 0))) m) := by show _ = _; rw [resM_row, hm]; rfl
  have HE : Hid (∀ k, errMF f x (k + 1) = if errMF f x k ≠ 0 then errMF f x k else errM f (x.getD k 0)) := fun k => rfl
  have HST : Hid (∀ k, errMF f x k ≠ 0 → k ≤ m → errMF f x m = errMF f x k) := fun k h hk => errMF_stay h hk
  have H0 : Hid (errMF f x 0 = 0) := rfl
  have HS := Lib.hid hs
  clear htx hf hm hs
  unfold RMp
  generalize resM f x = RL at *
  obtain ⟨EF, hEF⟩ : ∃ EF : Nat → Int, errMF f x = EF := ⟨_, rfl⟩
  rw [hEF] at HE HST H0 ⊢
  clear hEF
  go_enter Tryd.func15, Tryd.ntmps15
  go_wp2_with fail
  go_loopw [6, 7] (fun o i wr => ∃ k : Nat, k ≤ m ∧ i = .int .i64 k ∧ EF k = 0 ∧ wr.ownsRow w.heap.size 22 1 o k (pre (fun k => .float .f64 (valM f (x.getD k 0))) k) ∧ Ext w wr) (fun _ i _ => m - (intOf i).toNat)
  case atStart => exact ⟨0, Nat.zero_le _, rfl, H0.out, ⟨rfl, Or.inl ⟨rfl, rfl⟩⟩, Ext.refl w⟩
  case round =>
    obtain ⟨k, hk, rfl, hup, hown, hx⟩ := hrel
    have HU := Lib.hid hup
    have HX := Lib.hid hx
    have HO := Lib.hid hown
    clear hup hx hown
    by_cases hlt : k < m
    · obtain ⟨ad, u, ha, -, hu, D0⟩ := (HS.out.ext HX.out).at1 hlt
      subst ha
      rw [HG.out k hlt] at hu
      cases hu
      have co' := fun w => co k w hlt
      have HEk := Lib.hid (HE.out k)
      have HP : Hid (pre (fun k => Value.float .f64 (valM f (x.getD k 0))) k ++ [.float .f64 (valM f (x.getD k 0))] = pre (fun k => Value.float .f64 (valM f (x.getD k 0))) (k + 1)) := pre_step _ k
      clear co
      have hcase : errM f (x.getD k 0) = 0 ∨ ¬ errM f (x.getD k 0) = 0 := by omega
      obtain ⟨PR, hPR⟩ : ∃ PR : Nat → List Value, PR = pre (fun k => Value.float .f64 (valM f (x.getD k 0))) := ⟨_, rfl⟩
      rw [← hPR] at HP HO ⊢
      clear hPR
      generalize hvk : valM f (x.getD k 0) = vk at *
      generalize errM f (x.getD k 0) = ek at *
      clear hvk
      generalize x.getD k 0 = xk at *
      rcases hcase with hz | hz
      · subst hz
        have HW : Hid (∀ o, (wr.alloc o).ownsRow w.heap.size 22 1 u6 k (PR k)) := fun o => own_ext HO.out ((Ext.refl _).alloc _)
        have HRr : Hid (Sl (wr.alloc (.cells #[.float .f64 vk] 22)) 1 (some ⟨wr.heap.size, 0, none⟩) 1 [.float .f64 vk]) := Sl.built wr #[.float .f64 vk] 22
        have h1' : ∀ u ∈ [Value.float .f64 vk], u.oneCell' = true := by intro u hu; simp at hu; subst hu; rfl
        have hbase : ∀ o, w.heap.size ≤ (wr.alloc o).heap.size := fun o => by have := HX.out.size; simp; omega
        have hlim : k + 1 ≤ 1099511627776 := by omega
        clear HO
        go_wp2_with fail
        refine (co' _).mono ?_
        rintro e w5 ⟨rfl, rfl⟩
        go_wp2_with (at_builtin; refine wpList_append_sl _ rfl _ _ 33 rfl w.heap.size 22 i0 (.float .f64 0) 1 8 Tryd.underlying33 hi0 hz0 hz1 hz2 rfl (by omega) _ k _ rfl (HW.out _) (some ⟨wr.heap.size, 0, none⟩) 1 1 [.float .f64 vk] rfl HRr.out h1' hlim (by omega) (hbase _) ?_; intro v' w1 hown hbel)
        refine ⟨⟨k + 1, by omega, by go_num, by rw [HEk.out, if_neg (by rw [HU.out]; decide)], by rw [← HP.out]; exact hown, ?_⟩, by simp [intOf]; omega⟩
        exact (HX.out.alloc _).trans' hbel
      · have e48 : (ek != 0) = true := by simpa using hz
        have hE : Hid (EF m = ek) := by
          show EF m = ek
          rw [HST.out (k + 1) (by rw [HEk.out, if_neg (by rw [HU.out]; decide)]; exact hz) (by omega), HEk.out, if_neg (by rw [HU.out]; decide)]
        have HZ := Lib.hid hz
        clear HP HO hz
        go_wp2_with fail
        refine (co' _).mono ?_
        rintro e w5 ⟨rfl, rfl⟩
        go_wp2
        refine bodyPost_ret (v := .tuple #[.slice none 0 0, .int .i64 ek]) (by simp [results, Tryd.results15, go_sem]) rfl ⟨none, 0, 0, by rw [hE.out], fun h => absurd (hE.out.symm.trans h) HZ.out, HX.out⟩
    · have hkn : k = m := by omega
      have HUN : Hid (EF m = 0) := by show EF m = 0; rw [← hkn]; exact HU.out
      have HON := HO.out
      rw [hkn, ← HR.out] at HON
      obtain ⟨A4, c4, rfl, -, -⟩ := own_form HON
      have HW := Lib.hid (Sl.own HON)
      clear HON HO HU
      go_wp2
      refine bodyPost_ret (v := .tuple #[.slice A4 m c4, .int .i64 0]) (by simp [results, Tryd.results15, go_sem]) rfl ⟨A4, m, c4, by rw [HUN.out], fun _ => ⟨rfl, HW.out⟩, HX.out⟩
theorem mrapp_u (f : Int) (A : Option Addr) (m c : Nat) (w : World) (x : List Nat) (hm : m = x.length) (htx : ∀ i ∈ x, tidy i) (hN2 : m ≤ 1048576) (hs : Sl w 1 A m (f64s x)) :
    Calls Tryd.prog 15 #[.int .i64 f, .slice A m c] w (RMp (erM f x) (resM f x) m w) := by
  unfold erM
  by_cases hf : 1 ≤ f ∧ f ≤ 8
  · rw [if_pos hf, ← hm]
    exact mrapp_go f A m c w x hm htx hf hN2 hs
  · rw [if_neg hf]
    refine (mrapp_bad f A m c w hf).mono ?_
    rintro e w' ⟨rfl, hx⟩
    exact ⟨none, 0, 0, rfl, fun h => (by cases h), hx⟩
attribute [local go_sem ↓] Go.wp_at_zero Go.wp_at_succ
theorem moawake_any (w : World) (ht : Tab w) : Calls Tryd.prog 7 #[] w fun e w' => e = .returned (.bool true) ∧ Ext w w' := by
  have ka : ∀ A w, Sl w 1 A 3 (f64s [4607182418800017408, 0, 4611686018427387904]) → Calls Tryd.prog 23 #[.slice A 3 3] w (NewNum (leastL (dnL [4607182418800017408, 0, 4611686018427387904])) (dnL [4607182418800017408, 0, 4611686018427387904]) w) := fun A w hs => numbers_yes A [4607182418800017408, 0, 4611686018427387904] 3 rfl (by intro x hx; simp at hx; omega) (by kernel_rfl) 3 w (by omega) hs
  have a1 : ∀ v K w', Ext w w' → IsNum w' v K (dnL [4607182418800017408, 0, 4611686018427387904]) → Calls Tryd.prog 14 #[.int .i64 2, v] w' (MoU 0 [13830554455654793216, 0, 13835058055282163712] w') := fun v K w' hx hv => by
    have h := ma_u 2 v K _ w' hv (ht.ext hx)
    rwa [show erM 2 (dnL [4607182418800017408, 0, 4611686018427387904]) = 0 by kernel_rfl, show resM 2 (dnL [4607182418800017408, 0, 4611686018427387904]) = [13830554455654793216, 0, 13835058055282163712] by kernel_rfl] at h
  have a2 : ∀ v K w', Ext w w' → IsNum w' v K (dnL [4607182418800017408, 0, 4611686018427387904]) → Calls Tryd.prog 14 #[.int .i64 8, v] w' fun e w2 => e = .returned (.tuple #[zeroVec, .int .i64 24]) ∧ Ext w' w2 := fun v K w' hx hv => by
    have h := ma_u 8 v K _ w' hv (ht.ext hx)
    rw [show erM 8 (dnL [4607182418800017408, 0, 4611686018427387904]) = 24 by kernel_rfl] at h
    refine h.mono ?_
    rintro e w2 ⟨p, rfl, h1, _, h3⟩
    exact ⟨by rw [h1 (by decide)], h3⟩
  have s1 : ∀ A B c w, Sl w 1 A 3 (f64s [13830554455654793216, 0, 13835058055282163712]) → Sl w 1 B 3 (f64s [13830554455654793216, 0, 13835058055282163712]) → Calls Tryd.prog 17 #[.slice A 3 c, .slice B 3 3] w fun e w' => e = .returned (.bool true) ∧ Ext w w' := fun A B c w hs hs' => same_yes A B [13830554455654793216, 0, 13835058055282163712] 3 c 3 rfl w (by omega) (by intro x hx; simp at hx; rcases hx with rfl | rfl | rfl <;> first | exact ⟨by decide, by decide, fun h => absurd h (by decide)⟩ | exact ⟨by decide, by decide, fun _ => rfl⟩) hs hs'
  have n1 := fun v k w h => nnums_sl v k [13830554455654793216, 0, 13835058055282163712] 3 rfl w h
  unfold MoU at a1
  generalize leastL (dnL [4607182418800017408, 0, 4611686018427387904]) = KA at *
  generalize dnL [4607182418800017408, 0, 4611686018427387904] = LA at *
  generalize leastL [13830554455654793216, 0, 13835058055282163712] = KB at *
  clear ht
  have E := Ext.refl w
  go_enter Tryd.func7, Tryd.ntmps7
  go_wp2_with fail
  refine (ka _ _ (Sl.lit _ #[.float .f64 4607182418800017408, .float .f64 0, .float .f64 4611686018427387904] _)).mono ?_
  rintro e w9 ⟨v, rfl, hq, x⟩
  have NV := hq.now
  have Fv := NV.is.flat
  clear hq
  replace x := ((Ext.refl _).alloc _).trans x
  have z1 := x.size
  replace E := E.trans x
  clear x
  have TB1 : True := trivial
  have TG3 : True := trivial
  go_wp2_with (first | (clear TB1; refine allocsV rfl rfl ?_; intro B1 w1 bB1 cB1 XB1 LB1 RB1; have z2 := XB1.size; replace E := E.trans XB1; replace NV := NV.ext XB1) | (clear TG3; have hRl := (RB1).lt (Nat.zero_lt_succ _); refine storesV (B := B1) rfl rfl rfl (v := v) rfl RB1 Fv ?_; clear LB1; intro s3 G3 LB1 RQ; have z4 := G3.size; replace E := grown_ext E G3 (by omega); replace NV := NV.grown G3 (by first | omega | (dsimp only [New]; omega)); clear RB1; have RB1 := RQ; clear RQ hRl; clear RB1) | (refine loadsV (B := B1) (by rfl) rfl rfl LB1 ?_))
  refine (a1 v _ _ E NV.is).mono ?_
  rintro e w14 ⟨q, rfl, -, hq, x⟩
  have NQ := NumS.all (hq (by trivial))
  have Fq := NQ.is.flat
  clear hq
  have z5 := x.size
  replace E := E.trans x
  replace NV := NV.ext x
  replace LB1 := LB1.ext x
  clear x
  have TB3 : True := trivial
  have TG7 : True := trivial
  go_wp2_with (first | (clear TB3; refine allocsV rfl rfl ?_; intro B3 w3 bB3 cB3 XB3 LB3 RB3; have z6 := XB3.size; replace E := E.trans XB3; replace NV := NV.ext XB3; replace LB1 := LB1.ext XB3; replace NQ := NQ.ext XB3) | (clear TG7; have hRl := (RB3).lt (Nat.zero_lt_succ _); refine storesV (B := B3) rfl rfl rfl (v := q) rfl RB3 Fq ?_; clear LB3; intro s7 G7 LB3 RQ; have z8 := G7.size; replace E := grown_ext E G7 (by omega); replace NV := NV.grown G7 (by first | omega | (dsimp only [New]; omega)); replace LB1 := LB1.grown G7 (by omega); replace NQ := NQ.grown G7 (by first | omega | (dsimp only [New]; omega)); clear RB3; have RB3 := RQ; clear RQ hRl; clear RB3) | (refine loadsV (B := B1) (by rfl) rfl rfl LB1 ?_))
  clear LB1
  refine (a2 v _ _ E NV.is).mono ?_
  rintro e w19 ⟨rfl, x⟩
  have z9 := x.size
  replace E := E.trans x
  replace NV := NV.ext x
  replace NQ := NQ.ext x
  replace LB3 := LB3.ext x
  clear x
  have TB5 : True := trivial
  have TG11 : True := trivial
  go_wp2_with (first | (clear TB5; refine allocsV rfl rfl ?_; intro B5 w5 bB5 cB5 XB5 LB5 RB5; have z10 := XB5.size; replace E := E.trans XB5; replace NV := NV.ext XB5; replace NQ := NQ.ext XB5; replace LB3 := LB3.ext XB5; clear LB5) | (clear TG11; have hRl := (RB5).lt (Nat.zero_lt_succ _); refine storesV (B := B5) rfl rfl rfl (v := zeroVec) rfl RB5 zeroVec_flat ?_; intro s11 G11 LB5 RQ; have z12 := G11.size; replace E := grown_ext E G11 (by omega); replace NV := NV.grown G11 (by first | omega | (dsimp only [New]; omega)); replace NQ := NQ.grown G11 (by first | omega | (dsimp only [New]; omega)); replace LB3 := LB3.grown G11 (by omega); clear RB5; have RB5 := RQ; clear RQ hRl; clear LB5 RB5) | (refine loadgV (B := B3) (by rfl) rfl rfl LB3 ?_))
  clear LB3
  refine (n1 q _ _ NQ.is).mono ?_
  rintro e w26 ⟨B, cB, rfl, hq, x⟩
  have SB := SlS.all hq
  clear hq
  have z13 := x.size
  replace E := E.trans x
  replace NV := NV.ext x
  replace NQ := NQ.ext x
  clear x
  go_wp2_with fail
  refine (s1 B _ cB _ (SB.ext ((Ext.refl _).alloc _)).is (Sl.lit _ #[.float .f64 13830554455654793216, .float .f64 0, .float .f64 13835058055282163712] _)).mono ?_
  rintro e w28 ⟨rfl, x⟩
  replace x := ((Ext.refl _).alloc _).trans x
  have z14 := x.size
  replace E := E.trans x
  replace NV := NV.ext x
  replace NQ := NQ.ext x
  replace SB := SB.ext x
  clear x
  go_wp2_with fail
  go_ret
  exact ⟨rfl, E⟩
section
variable (w : World) (ht : Tab w) (f : Int) (a : Nat)
include ht in
theorem monoOne_no (ha : ¬ fin a) : Calls Tryd.prog 3 #[.int .i64 f, .float .f64 a] w fun e w' => e = .returned (.bool true) ∧ Ext w w' := by
  have ca : ∀ w, Calls Tryd.prog 6 #[.float .f64 a] w fun e w' => e = .returned (.tuple #[.float .f64 (dn a), .bool (decide (fin a))]) ∧ Ext w w' := fun w => (rtidy_any a w).mono fun e w2 h => ⟨h.1, h.2 ▸ Ext.refl _⟩
  rw [decide_eq_false ha] at ca
  have cw := fun w' (h : Ext w w') => moawake_any w' (ht.ext h)
  clear ha ht
  generalize dn a = y at *
  have E := Ext.refl w
  go_enter Tryd.func3, Tryd.ntmps3
  go_wp2_with fail
  refine (ca _).mono ?_
  rintro e w13 ⟨rfl, x⟩
  have z1 := x.size
  replace E := E.trans x
  clear x
  go_wp2_with fail
  refine (cw _ E).mono ?_
  rintro e w18 ⟨rfl, x⟩
  have z2 := x.size
  replace E := E.trans x
  clear x
  go_wp2_with fail
  go_ret
  exact ⟨rfl, E⟩
include ht in
theorem monoOne_yes (ha : fin a) (hb : a < 18446744073709551616) : Calls Tryd.prog 3 #[.int .i64 f, .float .f64 a] w fun e w' => e = .returned (.bool true) ∧ Ext w w' := by
  have ca : ∀ w, Calls Tryd.prog 6 #[.float .f64 a] w fun e w' => e = .returned (.tuple #[.float .f64 (dn a), .bool (decide (fin a))]) ∧ Ext w w' := fun w => (rtidy_any a w).mono fun e w2 h => ⟨h.1, h.2 ▸ Ext.refl _⟩
  rw [decide_eq_true ha] at ca
  have cw := fun w' (h : Ext w w') => moawake_any w' (ht.ext h)
  have hy := dn_tidy a hb
  have co : ∀ w, Calls Tryd.prog 8 #[.int .i64 f, .float .f64 (dn a)] w fun e w' => e = .returned (.tuple #[.float .f64 (valM f (dn a)), .int .i64 (errM f (dn a))]) ∧ Ext w w' := fun w => (mo_any f _ hy w).mono fun e w2 h => ⟨h.1, h.2 ▸ Ext.refl _⟩
  have cr : ∀ w, Calls Tryd.prog 9 #[.int .i64 f, .float .f64 (dn a)] w fun e w' => e = .returned (.tuple #[.float .f64 (valM f (dn a)), .int .i64 (errM f (dn a))]) ∧ Ext w w' := fun w => (rmo_any f _ hy w).mono fun e w2 h => ⟨h.1, h.2 ▸ Ext.refl _⟩
  have hv := valM_tidy f hy
  have cs : ∀ w, Calls Tryd.prog 10 #[.float .f64 (valM f (dn a)), .float .f64 (valM f (dn a))] w fun e w' => e = .returned (.bool true) ∧ Ext w w' := fun w => (bits_any _ _ hv.1.nn hv.1.nn hv.2.1 hv.2.1 w).mono fun e w2 h => ⟨by rw [h.1, decide_eq_true rfl], h.2 ▸ Ext.refl _⟩
  clear ha ht hy hv
  generalize valM f (dn a) = d at *
  generalize errM f (dn a) = er at *
  generalize dn a = y at *
  have E := Ext.refl w
  go_enter Tryd.func3, Tryd.ntmps3
  go_wp2_with fail
  refine (ca _).mono ?_
  rintro e w13 ⟨rfl, x⟩
  have z1 := x.size
  replace E := E.trans x
  clear x
  go_wp2_with fail
  refine (co _).mono ?_
  rintro e w22 ⟨rfl, x⟩
  have z2 := x.size
  replace E := E.trans x
  clear x
  go_wp2_with fail
  refine (cr _).mono ?_
  rintro e w28 ⟨rfl, x⟩
  have z3 := x.size
  replace E := E.trans x
  clear x
  go_wp2_with fail
  refine (cs _).mono ?_
  rintro e w33 ⟨rfl, x⟩
  have z4 := x.size
  replace E := E.trans x
  clear x
  go_wp2_with fail
  refine (cw _ E).mono ?_
  rintro e w40 ⟨rfl, x⟩
  have z5 := x.size
  replace E := E.trans x
  clear x
  go_wp2_with fail
  go_ret
  exact ⟨rfl, E⟩
end
theorem monoOne_walk (w : World) (ht : Tab w) (f : Int) (_ : (Lit.int .i64 f).wf = true) (a : Nat) (ha : (Lit.float .f64 a).wf = true) :
    Calls Tryd.prog 3 #[.int .i64 f, .float .f64 a] w fun e w' => e = .returned (.bool true) ∧ Ext w w' := by
  have ha' : a < 18446744073709551616 := by simpa [Lit.wf] using ha
  by_cases fa : fin a
  · exact monoOne_yes w ht f a fa ha'
  · exact monoOne_no w ht f a fa
end Go.Proofs.YtidnikndjhfgaaaDoor
