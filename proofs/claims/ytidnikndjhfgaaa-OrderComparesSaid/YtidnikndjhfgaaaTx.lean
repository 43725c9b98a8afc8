/- OrderCompares: the walk that joins its cases. -/
import Derived.Test.YtidnikndjhfgaaaTv
import Derived.Test.YtidnikndjhfgaaaTw
namespace Go.Proofs.Ytidnikndjhfgaaa
open Go.ChangeShapes Go.WideShapes Go.RowKit Bv Fl
set_option maxHeartbeats 2000000
set_option maxRecDepth 100000
theorem GoodD.fills {n : Nat} {w : World} {p : Pl} (h : GoodD n w p) : Flt w p ∧ 0 ≤ p.fill ∧ p.fill ≤ 2 := by
  cases n with
  | zero => exact h.elim
  | succ n => exact ⟨h.1, h.2.1, h.2.2.1⟩
theorem OfP.flat {p : Pl} {v : Value} {w : World} (h0 : 0 ≤ p.fill) (h2 : p.fill ≤ 2) (h : OfP p v w) : Flat 8 v := by
  have h3 : p.fill = 0 ∨ p.fill = 1 ∨ p.fill = 2 := by omega
  rcases h3 with e | e | e
  · exact (h.1 e).flat
  · exact (h.2.1 e).flat
  · obtain ⟨cs, _, hv⟩ := h.2.2 e
    exact hv.flat
theorem OfP.cls {p : Pl} {v : Value} {w : World} (h0 : 0 ≤ p.fill) (h2 : p.fill ≤ 2) (h : OfP p v w) (w' : World) (hx : Ext w w') : Calls Try.prog 49 #[v] w' fun e w2 => e = .returned (.int .i64 p.fill) ∧ Ext w' w2 := by
  have h3 : p.fill = 0 ∨ p.fill = 1 ∨ p.fill = 2 := by omega
  rcases h3 with e | e | e
  · rw [e]; exact nclass_any v _ _ w' ((h.1 e).ext hx)
  · rw [e]; exact vclass_any v _ w' ((h.2.1 e).ext hx)
  · obtain ⟨cs, _, hv⟩ := h.2.2 e
    rw [e]; exact vclass_any v _ w' (hv.ext hx)
theorem plN_get (p : Pl) {i : Nat} (h : i < p.its.length) : (plN p).getD i 0 = dn (p.its.getD i default).num := by simp [plN, dnL, List.getD, h]
theorem plC_get (p : Pl) {i : Nat} (h : i < p.its.length) : (plC p).getD i 0 = (p.its.getD i default).chr := by simp [plC, List.getD, h]
theorem plN_len (p : Pl) : (plN p).length = p.its.length := by simp [plN, dnL]
theorem plC_len (p : Pl) : (plC p).length = p.its.length := by simp [plC]
theorem tidy_item (w : World) (p : Pl) (i : Nat) (hi : i < p.its.length) (h : GoodD 40 w p) (w' : World) (hx : Ext w w') : Calls Try.prog 15 #[p.val] w' fun e w2 => ∃ a tc xk xn xc xA xm xd, e = .returned (.agg #[.slice p.sA p.sh.length p.sc, .slice (some a) p.its.length tc, .int .i64 p.fill]) ∧ TdX p i ⟨xk, xn, xc, xA, xm, xd⟩ ∧ Rd (fun w' => ItAt w' (a.add (i * 4)) ⟨xk, xn, xc, xA, xm, xd⟩) w2 (New w'.heap.size) ∧ Ext w' w2 := by
  refine (tidy_its 40 w w' p h hx).mono ?_
  rintro e w2 ⟨A', c', L, rfl, hl, hP, hS, hx2⟩
  obtain ⟨a, rfl, hI⟩ := hS.item hl hi
  have h1 := hP i hi
  generalize L.getD i default = x at *
  obtain ⟨xk, xn, xc, xA, xm, xd⟩ := x
  exact ⟨a, c', xk, xn, xc, xA, xm, xd, rfl, h1, hI, hx2⟩
theorem has_fill (c : Int) (h0 : 0 ≤ c) (h2 : c ≤ 2) (w : World) : Calls Try.prog 27 #[.int .i64 c] w fun e w' => e = .returned (.bool (decide (c < 2))) ∧ Ext w w' := by
  have h3 : c = 0 ∨ c = 1 ∨ c = 2 := by omega
  rcases h3 with rfl | rfl | rfl
  · exact has_0 0 rfl w
  · exact has_1 1 rfl rfl w
  · exact has_n 2 rfl rfl w
theorem orderCompares_walk (w : World) (p : Pl) (n : Nat) (hp : Deep n w p) (q : Pl) (n' : Nat) (hq : Deep n' w q) (i : Int) (_ : (Lit.int .i64 i).wf = true) (k : Int) (_ : (Lit.int .i64 k).wf = true) :
    Calls Try.prog 7 #[p.val, q.val, .int .i64 i, .int .i64 k] w fun e w' => e = .returned (.bool true) ∧ Ext w w' := by
  obtain ⟨zc, hg, hck⟩ := plCheck n w p hp
  obtain ⟨zd, hg', hck'⟩ := plCheck n' w q hq
  have cn := fun w' (hx : Ext w w') => plcount_any n w' p 3000 (hp.ext hx)
  have dn' := fun w' (hx : Ext w w') => plcount_any n' w' q 3000 (hq.ext hx)
  by_cases h1 : zc = 0
  · have h1' : (zc != 0) = false := by simp [h1]
    by_cases h3 : zd = 0
    · have h3' : (zd != 0) = false := by simp [h3]
      by_cases h4 : i < 0
      · exact ocomp_b4 _ _ _ _ _ _ _ _ _ _ _ _ _ _ zc zd w cn hck dn' hck' i k h1' h3' h4
      by_cases h5 : k < 0
      · exact ocomp_b5 _ _ _ _ _ _ _ _ _ _ _ _ _ _ zc zd w cn hck dn' hck' i k h1' h3' h4 h5
      by_cases h6 : (p.its.length : Int) ≤ i
      · exact ocomp_b6 _ _ _ _ _ _ _ _ _ _ _ _ _ _ zc zd w cn hck dn' hck' i k h1' h3' h4 h5 h6
      by_cases h7 : (q.its.length : Int) ≤ k
      · exact ocomp_b7 _ _ _ _ _ _ _ _ _ _ _ _ _ _ zc zd w cn hck dn' hck' i k h1' h3' h4 h5 h6 h7
      obtain ⟨i, rfl⟩ : ∃ z : Nat, i = z := ⟨i.toNat, by omega⟩
      obtain ⟨k, rfl⟩ : ∃ z : Nat, k = z := ⟨k.toNat, by omega⟩
      have hi : i < p.its.length := by omega
      have hk : k < q.its.length := by omega
      have G := hg h1
      have G' := hg' h3
      obtain ⟨hF, a0, a2⟩ := G.fills
      obtain ⟨hF', b0, b2⟩ := G'.fills
      have ct := tidy_item w p i hi G
      have cu := tidy_item w q k hk G'
      have co := fun w' (hx : Ext w w') => lOf_all w w' p G hx
      have cv := fun w' (hx : Ext w w') => lOf_all w w' q G' hx
      have ch := has_fill p.fill a0 a2
      have ch9 := has_n 9 rfl rfl
      by_cases e : p.fill = q.fill
      · have e93 : (p.fill != q.fill) = false := by simp [e]
        have h3 : p.fill = 0 ∨ p.fill = 1 ∨ p.fill = 2 := by omega
        rcases h3 with f | f | f
        · have e97 : (p.fill == 2) = false := by simp [f]
          have fq : q.fill = 0 := by omega
          have hx1 : nn (dn (p.its.getD i default).num) := (dn_tidy _ (by simpa [Lit.wf] using (hF.itW _ (getD_memA hi)).num)).1.nn
          have hy1 : nn (dn (q.its.getD k default).num) := (dn_tidy _ (by simpa [Lit.wf] using (hF'.itW _ (getD_memA hk)).num)).1.nn
          have kb1 : ∀ x y : It, TdX p i x → TdX q k y → ∀ w', Calls Try.prog 28 #[x.val, y.val] w' fun e w2 => e = .returned (.bool (decide (key (dn (p.its.getD i default).num) < key (dn (q.its.getD k default).num)))) ∧ Ext w' w2 := fun x y hx hy w' => by
            rw [hx.1 f, hy.1 fq]
            exact below_num _ _ _ _ _ _ _ _ _ _ _ hx1 hy1 w'
          have kb2 : ∀ x y : It, TdX p i x → TdX q k y → ∀ w', Calls Try.prog 28 #[y.val, x.val] w' fun e w2 => e = .returned (.bool (decide (key (dn (q.its.getD k default).num) < key (dn (p.its.getD i default).num)))) ∧ Ext w' w2 := fun x y hx hy w' => by
            rw [hx.1 f, hy.1 fq]
            exact below_num _ _ _ _ _ _ _ _ _ _ _ hy1 hx1 w'
          refine ocomp_main _ _ _ _ _ _ _ _ _ _ _ _ _ _ zc zd w cn hck dn' hck' h1' h3' i k (TdX p i) (TdX q k) (OfP p) (OfP q) ct cu co cv (cmpI (dn (p.its.getD i default).num) (dn (q.its.getD k default).num)) true (fun v u w' hv hu => ?_) _ ch ch9 rfl _ _ (fun _ => kb1) (fun _ => kb2) ?_ hi hk
          · have := ocmp_num v u _ _ _ _ i k (by rw [plN_len]; exact hi) (by rw [plN_len]; exact hk) w' (hv.1 f) (hu.1 fq)
            rwa [plN_get p hi, plN_get q hk] at this
          · refine .inr (.inr ?_)
            unfold cmpI
            by_cases l1 : key (dn (p.its.getD i default).num) < key (dn (q.its.getD k default).num)
            · exact .inl ⟨e93, e97, by rw [if_pos l1], rfl, decide_eq_true l1, decide_eq_false (by omega)⟩
            · by_cases l2 : key (dn (q.its.getD k default).num) < key (dn (p.its.getD i default).num)
              · exact .inr (.inl ⟨e93, e97, by rw [if_neg l1, if_pos l2], rfl, decide_eq_false l1, decide_eq_true l2⟩)
              · exact .inr (.inr ⟨e93, e97, by rw [if_neg l1, if_neg l2], rfl, decide_eq_false l1, decide_eq_false l2⟩)
        · have e97 : (p.fill == 2) = false := by simp [f]
          have fq : q.fill = 1 := by omega
          have kb1 : ∀ x y : It, TdX p i x → TdX q k y → ∀ w', Calls Try.prog 28 #[x.val, y.val] w' fun e w2 => e = .returned (.bool (decide ((p.its.getD i default).chr < (q.its.getD k default).chr))) ∧ Ext w' w2 := fun x y hx hy w' => by
            rw [hx.2 f, hy.2 fq]
            exact below_chr 1 (by decide) _ _ _ _ _ _ _ _ _ _ _ w'
          have kb2 : ∀ x y : It, TdX p i x → TdX q k y → ∀ w', Calls Try.prog 28 #[y.val, x.val] w' fun e w2 => e = .returned (.bool (decide ((q.its.getD k default).chr < (p.its.getD i default).chr))) ∧ Ext w' w2 := fun x y hx hy w' => by
            rw [hx.2 f, hy.2 fq]
            exact below_chr 1 (by decide) _ _ _ _ _ _ _ _ _ _ _ w'
          refine ocomp_main _ _ _ _ _ _ _ _ _ _ _ _ _ _ zc zd w cn hck dn' hck' h1' h3' i k (TdX p i) (TdX q k) (OfP p) (OfP q) ct cu co cv (cmpZ (p.its.getD i default).chr (q.its.getD k default).chr) true (fun v u w' hv hu => ?_) _ ch ch9 rfl _ _ (fun _ => kb1) (fun _ => kb2) ?_ hi hk
          · have := ocmp_chr v u _ _ i k (by rw [plC_len]; exact hi) (by rw [plC_len]; exact hk) w' (hv.2.1 f) (hu.2.1 fq)
            rwa [plC_get p hi, plC_get q hk] at this
          · refine .inr (.inr ?_)
            unfold cmpZ
            by_cases l1 : (p.its.getD i default).chr < (q.its.getD k default).chr
            · exact .inl ⟨e93, e97, by rw [if_pos l1], rfl, decide_eq_true l1, decide_eq_false (by omega)⟩
            · by_cases l2 : (q.its.getD k default).chr < (p.its.getD i default).chr
              · exact .inr (.inl ⟨e93, e97, by rw [if_neg l1, if_pos l2], rfl, decide_eq_false l1, decide_eq_true l2⟩)
              · exact .inr (.inr ⟨e93, e97, by rw [if_neg l1, if_neg l2], rfl, decide_eq_false l1, decide_eq_false l2⟩)
        · have e97 : (p.fill == 2) = true := by simp [f]
          have fq : q.fill = 2 := by omega
          refine ocomp_main _ _ _ _ _ _ _ _ _ _ _ _ _ _ zc zd w cn hck dn' hck' h1' h3' i k (TdX p i) (TdX q k) (OfP p) (OfP q) ct cu co cv 0 false (fun v u w' hv hu => ?_) _ ch ch9 rfl true true (fun h => by cases h) (fun h => by cases h) (.inr (.inl ⟨e93, e97, rfl, rfl⟩)) hi hk
          exact ocmp_box v u (hv.flat a0 a2) (hu.flat b0 b2) _ _ w' (fun w2 hx => f ▸ hv.cls a0 a2 w2 hx) (fun w2 hx => fq ▸ hu.cls b0 b2 w2 hx)
      · have e93 : (p.fill != q.fill) = true := by simpa using e
        refine ocomp_main _ _ _ _ _ _ _ _ _ _ _ _ _ _ zc zd w cn hck dn' hck' h1' h3' i k (TdX p i) (TdX q k) (OfP p) (OfP q) ct cu co cv 0 false (fun v u w' hv hu => ?_) _ ch ch9 rfl true true (fun h => by cases h) (fun h => by cases h) (.inl ⟨e93, rfl, rfl⟩) hi hk
        exact ocmp_differ v u (hv.flat a0 a2) (hu.flat b0 b2) _ _ w' _ _ (hv.cls a0 a2) (hu.cls b0 b2) e93
    · exact ocomp_b3 _ _ _ _ _ _ _ _ _ _ _ _ _ _ zc zd w cn hck dn' hck' i k h1' (by simpa using h3)
  · exact ocomp_b1 _ _ _ _ _ _ _ _ _ _ _ _ _ _ zc zd w cn hck dn' hck' i k (by simpa using h1)
end Go.Proofs.Ytidnikndjhfgaaa
