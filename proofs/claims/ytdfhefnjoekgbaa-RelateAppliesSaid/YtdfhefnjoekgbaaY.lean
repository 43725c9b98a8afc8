/- rebusref07.Count.
   rebusref06.Product, shape.Product.
   slices.Index, slices.Contains of 0, shape.Product.
   rebusref07.check, Check.
   rebusref07.Check in one contract. -/
import Derived.Test.YtdfhefnjoekgbaaQs
namespace Go.Proofs.Ytdfhefnjoekgbaa
open Go.ChangeShapes Go.WideShapes Go.RowKit Bv Fl
set_option maxHeartbeats 2000000
set_option maxRecDepth 100000
/-- an element of s cells of a slice -/
theorem sl_at {α : Type} [Inhabited α] (con : α → List Value) {s : Nat} (hs : 0 < s) (hlen : ∀ x, (con x).length = s) {w : World} {A : Option Addr} {n : Nat} {l : List α} (hn : n = l.length) (h : Sl w s A n (l.flatMap con)) {k : Nat} (hk : k < n) :
    ∃ a, A = some a ∧ a.block < w.heap.size ∧ ∀ f u, (con (l.getD k default))[f]? = some u → w.cell? ((a.add (k * s)).add f) = some u := by
  obtain ⟨a, e, hb, hc⟩ := h.2 (Nat.mul_pos (by omega) hs)
  refine ⟨a, e, hb, fun f u hu => ?_⟩
  rw [addr_add]
  refine hc _ _ ?_
  have hf : f < s := by
    have := (List.getElem?_eq_some_iff.1 hu).1
    rwa [hlen] at this
  rw [fm_get con s hlen l k f (by omega) hf]
  rwa [show l.getD k default = l[k]'(by omega) by simp [List.getD, show k < l.length by omega]] at hu
/-- an item's cells -/
structure ItAt (w : World) (b : Addr) (x : It) : Prop where
  c0 : w.cell? b = some (.int .i64 x.kind)
  c1 : w.cell? ⟨b.block, b.off + 1, none⟩ = some (.float .f64 x.num)
  c2 : w.cell? ⟨b.block, b.off + 2, none⟩ = some (.int .i32 x.chr)
  c3 : w.cell? ⟨b.block, b.off + 3, none⟩ = some (.slice x.bA x.bn x.bc)
theorem it_at {w : World} {A : Option Addr} {l : List It} {n : Nat} (hn : n = l.length) (h : Sl w 4 A n (itc l)) {k : Nat} (hk : k < n) : ∃ a, A = some a ∧ ItAt w (a.add (k * 4)) (l.getD k default) := by
  obtain ⟨a, e, _, hc⟩ := sl_at It.cells (by omega) (fun _ => rfl) hn h hk
  exact ⟨a, e, ⟨hc 0 _ rfl, hc 1 _ rfl, hc 2 _ rfl, hc 3 _ rfl⟩⟩
structure PlOf (w : World) (b : Addr) (q : Pl) : Prop where
  c0 : w.cell? b = some (.slice q.sA q.sh.length q.sc)
  c1 : w.cell? ⟨b.block, b.off + 1, none⟩ = some (.slice q.iA q.its.length q.ic)
  c2 : w.cell? ⟨b.block, b.off + 2, none⟩ = some (.int .i64 q.fill)
theorem pl_at {w : World} {A : Option Addr} {l : List Pl} {n : Nat} (hn : n = l.length) (h : Sl w 3 A n (plc l)) {k : Nat} (hk : k < n) : ∃ a, A = some a ∧ PlOf w (a.add (k * 3)) (l.getD k default) := by
  obtain ⟨a, e, _, hc⟩ := sl_at Pl.cells (by omega) (fun _ => rfl) hn h hk
  exact ⟨a, e, ⟨hc 0 _ rfl, hc 1 _ rfl, hc 2 _ rfl⟩⟩
theorem getD_memA {α : Type} [Inhabited α] {l : List α} {k : Nat} (h : k < l.length) : l.getD k default ∈ l := by
  rw [List.getD_eq_getElem?_getD, List.getElem?_eq_getElem h]; exact List.getElem_mem h
theorem plcount_any : ∀ (d : Nat) (w : World) (p : Pl) (most : Int), Deep d w p → Calls Try.prog 82 #[p.val, .int .i64 most] w fun e w' => ∃ z, e = .returned (.int .i64 z) ∧ Ext w w' := by
  intro d
  induction d with
  | zero => intro w p most h; exact h.elim
  | succ d ih =>
    intro w p most h
    have HD : Hid (∀ w', Ext w w' → ∀ k, k < p.its.length → ∃ a, p.iA = some a ∧ ItAt w' (a.add (k * 4)) (p.its.getD k default) ∧ ∀ j, j < (p.its.getD k default).bn → ∃ b q, (p.its.getD k default).bA = some b ∧ PlOf w' (b.add (j * 3)) q ∧ Deep d w' q) := fun w' hx k hk => by
      obtain ⟨a, e, hI⟩ := it_at rfl (h.1.itS.ext hx) hk
      obtain ⟨qs, h1, h2, h3⟩ := h.2 _ (getD_memA hk)
      refine ⟨a, e, hI, fun j hj => ?_⟩
      obtain ⟨b, e2, hP⟩ := pl_at h1.symm (h2.ext hx) hj
      exact ⟨b, _, e2, hP, (h3 _ (getD_memA (by omega))).ext hx⟩
    have b1 := h.1.shL
    have b2 := h.1.itL
    simp only [maxLen] at b1 b2
    have b3 : Hid (∀ x ∈ p.its, x.bn ≤ maxLen) := fun x hx => (h.1.itW x hx).len
    clear h
    obtain ⟨sA, sh, sc, iA, its, ic, fl⟩ := p
    simp only at HD b1 b2 b3
    unfold Pl.val
    simp only
    have HB : Hid (∀ k, k < its.length → (its.getD k default).bn ≤ 9223372036854775807) := fun k hk => by
      have := b3.out _ (getD_memA hk)
      simpa [maxLen] using this
    clear b3
    obtain ⟨IT, hIT⟩ : ∃ IT : Nat → It, (fun k => its.getD k default) = IT := ⟨_, rfl⟩
    have hIT' : ∀ k, its.getD k default = IT k := fun k => by rw [← hIT]
    simp only [hIT'] at HD HB
    clear hIT hIT'
    generalize sh.length = ns at *
    generalize its.length = m at *
    clear sh its
    have hF := pl_flat sA ns sc iA m ic fl
    have E := Ext.refl w
    go_enter Try.func82, Try.ntmps82
    have TB2 : True := trivial
    go_wp2_with (clear TB2; refine boxsP (v := (.agg #[.slice sA ns sc, .slice iA m ic, .int .i64 fl])) rfl rfl rfl hF ?_; intro B2 w2 bB2 cB2 XB2 LB2 RB2; have z1 := XB2.size; replace E := E.trans XB2; have cB2_0 := lay_cell LB2 (j := 0) rfl; have cB2_1 := lay_cell LB2 (j := 1) rfl; clear LB2 RB2)
    go_loopw [5, 6] (fun x i wr => ∃ (z : Int) (k : Nat), k ≤ m ∧ x = .int .i64 z ∧ i = .int .i64 k ∧ Ext w2 wr) (fun _ i _ => m - (intOf i).toNat)
    case atStart => exact ⟨_, 0, Nat.zero_le _, rfl, rfl, Ext.refl _⟩
    case round =>
      obtain ⟨z, k, hk, rfl, rfl, HX⟩ := hrel
      have z2 := HX.size
      replace E := E.trans HX
      replace cB2_0 := cell_ext (HX) cB2_0
      replace cB2_1 := cell_ext (HX) cB2_1
      have hc : (k < m ∧ decide (z ≤ most) = true) ∨ (k < m ∧ decide (z ≤ most) = false) ∨ ¬ k < m := by
        by_cases a : k < m
        · cases b : decide (z ≤ most)
          · exact .inr (.inl ⟨a, rfl⟩)
          · exact .inl ⟨a, rfl⟩
        · exact .inr (.inr a)
      rcases hc with ⟨hlt, hm⟩ | ⟨hlt, hm⟩ | hlt
      · obtain ⟨a, ea, -, -⟩ := HD.out _ E k hlt
        subst ea
        have hbn := HB.out k hlt
        go_wp2_with fail
        generalize wr = wq3 at *
        go_loopw [5, 7] (fun x i wr => ∃ (y : Int) (j : Nat), j ≤ (IT k).bn ∧ x = .int .i64 y ∧ i = .int .i64 j ∧ Ext wq3 wr) (fun _ i _ => (IT k).bn - (intOf i).toNat)
        case atStart => exact ⟨z, 0, Nat.zero_le _, rfl, rfl, Ext.refl _⟩
        case round =>
          obtain ⟨y, j, hj, rfl, rfl, HY⟩ := hrel
          have z4 := HY.size
          replace E := E.trans HY
          replace cB2_0 := cell_ext (HY) cB2_0
          replace cB2_1 := cell_ext (HY) cB2_1
          replace HX := HX.trans HY
          have hc2 : (j < (IT k).bn ∧ decide (y ≤ most) = true) ∨ (j < (IT k).bn ∧ decide (y ≤ most) = false) ∨ ¬ j < (IT k).bn := by
            by_cases a : j < (IT k).bn
            · cases b : decide (y ≤ most)
              · exact .inr (.inl ⟨a, rfl⟩)
              · exact .inl ⟨a, rfl⟩
            · exact .inr (.inr a)
          rcases hc2 with ⟨hlt2, hm⟩ | ⟨hlt2, hm⟩ | hlt2
          · obtain ⟨a', ea, hI, hQ⟩ := HD.out _ E k hlt
            cases ea
            obtain ⟨b, q, eb, hP, hDq⟩ := hQ j hlt2
            have D3 := hI.c3
            rw [eb] at D3
            have D4 := hP.c0
            have D5 := hP.c1
            have D6 := hP.c2
            have hcq := fun w' (hx : Ext wr w') => ih w' q most (hDq.ext hx)
            have hq : q.val = .agg #[.slice q.sA q.sh.length q.sc, .slice q.iA q.its.length q.ic, .int .i64 q.fill] := rfl
            rw [hq] at hcq
            clear hI hQ hP hDq eb hq
            go_wp2_with fail
            refine (hcq _ (by first | exact HYx | exact Ext.refl _)).mono ?_
            rintro e w55 ⟨z2, rfl, x⟩
            have z5 := x.size
            replace E := E.trans x
            replace cB2_0 := cell_ext (x) cB2_0
            replace cB2_1 := cell_ext (x) cB2_1
            replace HX := HX.trans x
            replace HY := HY.trans x
            clear x
            go_wp2_with fail
            exact ⟨⟨_, j + 1, by omega, rfl, by go_num, HY⟩, by simp [intOf]; omega⟩
          · obtain ⟨a', ea, hI, hQ⟩ := HD.out _ E k hlt
            cases ea
            have D3 := hI.c3
            clear hI hQ
            go_wp2_with fail
            exact ⟨⟨_, k + 1, by omega, rfl, by go_num, HX⟩, by simp [intOf]; omega⟩
          · obtain ⟨a', ea, hI, hQ⟩ := HD.out _ E k hlt
            cases ea
            have D3 := hI.c3
            clear hI hQ
            go_wp2_with fail
            exact ⟨⟨_, k + 1, by omega, rfl, by go_num, HX⟩, by simp [intOf]; omega⟩
      · go_wp2_with fail
        go_ret
        exact ⟨_, rfl, E⟩
      · have TT := trivial
        go_wp2_with fail
        go_ret
        exact ⟨_, rfl, E⟩
end Go.Proofs.Ytdfhefnjoekgbaa

namespace Go.Proofs.Ytdfhefnjoekgbaa
open Go.ChangeShapes Go.WideShapes Go.RowKit Bv Fl
set_option maxHeartbeats 2000000
set_option maxRecDepth 100000
theorem i64s_getY {l : List Int} {k : Nat} (h : k < l.length) : (i64s l)[k]? = some (.int .i64 (l.getD k 0)) := i64s_get h
/-- a zero, one below 0, among the first; their product, one of 0 for 1, up to a limit -/
def zF (s : List Int) : Nat → Bool
  | 0 => false
  | k + 1 => zF s k || decide (s.getD k 0 = 0)
def nF (s : List Int) : Nat → Bool
  | 0 => false
  | k + 1 => nF s k || decide (s.getD k 0 < 0)
def pF (s : List Int) : Nat → Option Nat
  | 0 => some 1
  | k + 1 => match pF s k with
    | none => none
    | some n => if n * max 1 (s.getD k 0).toNat ≤ 1048576 then some (n * max 1 (s.getD k 0).toNat) else none
def prE (s : List Int) : Int := if 8 < s.length then 26 else if nF s s.length then 24 else if (pF s s.length).isNone then 26 else 0
def prV (s : List Int) : Nat := if prE s = 0 then (if zF s s.length then 0 else (pF s s.length).getD 0) else 0
theorem pF_rng {s : List Int} {k n : Nat} (h : pF s k = some n) : 1 ≤ n ∧ n ≤ 1048576 := by
  induction k generalizing n with
  | zero => cases h; omega
  | succ k ih =>
    unfold pF at h
    cases hp : pF s k with
    | none => rw [hp] at h; cases h
    | some m =>
      rw [hp] at h
      simp only at h
      have h1 := ih hp
      split at h
      · cases h
        rename_i h2
        exact ⟨Nat.mul_pos h1.1 (by omega), h2⟩
      · cases h
theorem pF_stay {s : List Int} {k n : Nat} (h : pF s k = none) (hk : k ≤ n) : pF s n = none := by
  induction hk with
  | refl => exact h
  | step _ ih => unfold pF; rw [ih]
theorem nF_stay {s : List Int} {k n : Nat} (h : nF s k = true) (hk : k ≤ n) : nF s n = true := by
  induction hk with
  | refl => exact h
  | step _ ih => unfold nF; rw [ih]; rfl
theorem pr_long {s : List Int} (h : 8 < s.length) : prE s = 26 ∧ prV s = 0 := by
  have : prE s = 26 := if_pos h
  exact ⟨this, if_neg (by rw [this]; decide)⟩
theorem pr_neg {s : List Int} (h : ¬ 8 < s.length) (hn : nF s s.length = true) : prE s = 24 ∧ prV s = 0 := by
  have : prE s = 24 := by unfold prE; rw [if_neg h, if_pos hn]
  exact ⟨this, if_neg (by rw [this]; decide)⟩
theorem pr_none {s : List Int} (h : ¬ 8 < s.length) (hn : nF s s.length = false) (hp : pF s s.length = none) : prE s = 26 ∧ prV s = 0 := by
  have : prE s = 26 := by unfold prE; rw [if_neg h, if_neg (by rw [hn]; decide), hp]; rfl
  exact ⟨this, if_neg (by rw [this]; decide)⟩
theorem pr_some {s : List Int} (h : ¬ 8 < s.length) (hn : nF s s.length = false) {n : Nat} (hp : pF s s.length = some n) : prE s = 0 ∧ prV s = if zF s s.length then 0 else n := by
  have : prE s = 0 := by unfold prE; rw [if_neg h, if_neg (by rw [hn]; decide), hp]; rfl
  refine ⟨this, ?_⟩
  unfold prV
  rw [if_pos this, hp]
  rfl
theorem prV_le (s : List Int) : prV s ≤ 1048576 := by
  unfold prV
  split
  · split
    · omega
    · cases hp : pF s s.length with
      | none => simp
      | some n => exact (pF_rng hp).2
  · omega
theorem split_a (A : Prop) (x : Int) (b : Bool) : (A ∧ x < 0) ∨ (A ∧ x = 0 ∧ b = false) ∨ (A ∧ 0 < x ∧ b = false) ∨ (A ∧ 0 ≤ x ∧ b = true) ∨ ¬A := by
  by_cases a : A
  · by_cases h : x < 0
    · exact .inl ⟨a, h⟩
    · cases b
      · by_cases h2 : x = 0
        · exact .inr (.inl ⟨a, h2, rfl⟩)
        · exact .inr (.inr (.inl ⟨a, by omega, rfl⟩))
      · exact .inr (.inr (.inr (.inl ⟨a, by omega, rfl⟩)))
  · exact .inr (.inr (.inr (.inr a)))
theorem split_b (A : Prop) (q n : Nat) : (A ∧ 1048576 < q) ∨ (A ∧ q ≤ 1048576 ∧ 0 < q ∧ 1048576 < n * q) ∨ (A ∧ q ≤ 1048576 ∧ 0 < q ∧ n * q ≤ 1048576) ∨ (A ∧ q = 0) ∨ ¬A := by
  by_cases a : A
  · by_cases h : 1048576 < q
    · exact .inl ⟨a, h⟩
    · by_cases h2 : q = 0
      · exact .inr (.inr (.inr (.inl ⟨a, h2⟩)))
      · by_cases h3 : n * q ≤ 1048576
        · exact .inr (.inr (.inl ⟨a, by omega, by omega, h3⟩))
        · exact .inr (.inl ⟨a, by omega, by omega, by omega⟩)
  · exact .inr (.inr (.inr (.inr a)))
theorem split_c (A : Prop) (q Q : Nat) : (A ∧ Q < q) ∨ (A ∧ q = 0) ∨ (A ∧ q = 1 ∧ 1 ≤ Q) ∨ (A ∧ 1 < q ∧ q ≤ Q) ∨ ¬A := by
  by_cases a : A
  · by_cases h : Q < q
    · exact .inl ⟨a, h⟩
    · by_cases h2 : q = 0
      · exact .inr (.inl ⟨a, h2⟩)
      · by_cases h3 : q = 1
        · exact .inr (.inr (.inl ⟨a, h3, by omega⟩))
        · exact .inr (.inr (.inr (.inl ⟨a, by omega, by omega⟩)))
  · exact .inr (.inr (.inr (.inr a)))
theorem pF_next {s : List Int} {k n q : Nat} (hp : pF s k = some n) (hq : s.getD k 0 = (q : Int)) : pF s (k + 1) = if n * max 1 q ≤ 1048576 then some (n * max 1 q) else none := by
  show (match pF s k with
    | none => none
    | some n => if n * max 1 (s.getD k 0).toNat ≤ 1048576 then some (n * max 1 (s.getD k 0).toNat) else none) = _
  rw [hp, hq, Int.toNat_natCast]
section
variable (A : Option Addr) (s : List Int) (n : Nat) (hn : n = s.length) (c : Nat) (w : World) (hs : Sl w 1 A n (i64s s))
include hn hs
omit hs in
theorem rprod_long (h8 : 8 < n) : Calls Try.prog 98 #[.slice A n c, .int .i64 1048576] w fun e w' => e = .returned (.tuple #[.int .i64 (prV s : Int), .int .i64 (prE s)]) ∧ Ext w w' := by
  rw [(pr_long (hn ▸ h8)).1, (pr_long (hn ▸ h8)).2]
  have E := Ext.refl w
  go_enter Try.func98, Try.ntmps98
  go_wp2_with fail
  go_ret2
  exact ⟨rfl, E⟩
theorem rprod_true (h8 : ¬ 8 < n) (hz : zF s n = true) : Calls Try.prog 98 #[.slice A n c, .int .i64 1048576] w fun e w' => e = .returned (.tuple #[.int .i64 (prV s : Int), .int .i64 (prE s)]) ∧ Ext w w' := by
  have HN := Lib.hid hn
  have HS := Lib.hid hs
  have HZ0 : Hid (zF s 0 = false) := rfl
  have HZ1 : Hid (∀ k, zF s (k + 1) = (zF s k || decide (s.getD k 0 = 0))) := fun k => rfl
  have HN0 : Hid (nF s 0 = false) := rfl
  have HN1 : Hid (∀ k, nF s (k + 1) = (nF s k || decide (s.getD k 0 < 0))) := fun k => rfl
  have HNS : Hid (∀ k, nF s k = true → k ≤ n → nF s n = true) := fun k h hk => nF_stay h hk
  have HNI : Hid (nF s n = false → ∀ k, k < n → ∃ q : Nat, s.getD k 0 = (q : Int)) := fun h k hk => by
    have : ¬ s.getD k 0 < 0 := fun hlt => by
      have := nF_stay (s := s) (k := k + 1) (n := n) (by show (_ || _) = true; rw [decide_eq_true hlt]; simp) (by omega)
      rw [h] at this
      cases this
    exact ⟨(s.getD k 0).toNat, by omega⟩
  have HP0 : Hid (pF s 0 = some 1) := rfl
  have HPN : Hid (∀ (k n q : Nat), pF s k = some n → s.getD k 0 = (q : Int) → pF s (k + 1) = if n * max 1 q ≤ 1048576 then some (n * max 1 q) else none) := fun k n q h1 h2 => pF_next h1 h2
  have HPS : Hid (∀ k, pF s k = none → k ≤ n → pF s n = none) := fun k h hk => pF_stay h hk
  have HPR : Hid (∀ k m, pF s k = some m → 1 ≤ m ∧ m ≤ 1048576) := fun k m h => pF_rng h
  have HR1 : Hid (nF s n = true → prE s = 24 ∧ prV s = 0) := fun h => by rw [hn] at h h8; exact pr_neg h8 h
  have HR2 : Hid (nF s n = false → pF s n = none → prE s = 26 ∧ prV s = 0) := fun h1 h2 => by rw [hn] at h1 h2 h8; exact pr_none h8 h1 h2
  have HR3 : Hid (nF s n = false → ∀ m, pF s n = some m → prE s = 0 ∧ prV s = if zF s n then 0 else m) := fun h1 m h2 => by rw [hn] at h1 h2 h8 ⊢; exact pr_some h8 h1 h2
  clear hn hs
  obtain ⟨ZF, hZF⟩ : ∃ ZF : Nat → Bool, zF s = ZF := ⟨_, rfl⟩
  obtain ⟨NF, hNF⟩ : ∃ NF : Nat → Bool, nF s = NF := ⟨_, rfl⟩
  obtain ⟨PF, hPF⟩ : ∃ PF : Nat → Option Nat, pF s = PF := ⟨_, rfl⟩
  rw [hZF] at HZ0 HZ1 HR3 hz
  rw [hNF] at HN0 HN1 HNS HNI HR1 HR2 HR3
  rw [hPF] at HP0 HPN HPS HPR HR2 HR3
  clear hZF hNF hPF
  have HZ := Lib.hid hz
  clear hz
  generalize prE s = er at *
  generalize prV s = vl at *
  have E := Ext.refl w
  go_enter Try.func98, Try.ntmps98
  go_wp2_with fail
  go_loopw [7, 8] (fun z i wr => ∃ k : Nat, k ≤ n ∧ z = .bool (ZF k) ∧ i = .int .i64 k ∧ NF k = false ∧ Ext w wr) (fun _ i _ => n - (intOf i).toNat)
  case atStart => exact ⟨0, Nat.zero_le _, by rw [HZ0.out], rfl, HN0.out, Ext.refl _⟩
  case round =>
    obtain ⟨k, hk, rfl, rfl, hnf, HX⟩ := hrel
    have HU := Lib.hid hnf
    clear hnf
    have hzk := HZ1.out k
    have hnk := HN1.out k
    rw [HU.out, Bool.false_or] at hnk
    have z1 := HX.size
    replace E := E.trans HX
    rcases split_a (k < n) (s.getD k 0) (ZF k) with ⟨hlt, h1⟩ | ⟨hlt, h1, h2⟩ | ⟨hlt, h1, h2⟩ | ⟨hlt, h1, h2⟩ | hlt
    · obtain ⟨ad, u1, ea, -, hu1, D0⟩ := (HS.out.ext E).at1 hlt
      subst ea
      rw [i64s_getY (by rw [← HN.out]; exact hlt)] at hu1
      cases hu1
      rw [decide_eq_true h1] at hnk
      have HK := Lib.hid hnk
      clear hzk hnk
      generalize ZF k = zk at *
      generalize s.getD k 0 = x at *
      go_wp2_with fail
      go_ret2
      exact ⟨by rw [(HR1.out (HNS.out (k + 1) HK.out (by omega))).1, (HR1.out (HNS.out (k + 1) HK.out (by omega))).2]; rfl, E⟩
    · obtain ⟨ad, u1, ea, -, hu1, D0⟩ := (HS.out.ext E).at1 hlt
      subst ea
      rw [i64s_getY (by rw [← HN.out]; exact hlt)] at hu1
      cases hu1
      rw [h2, Bool.false_or, decide_eq_true h1] at hzk
      rw [decide_eq_false (by omega)] at hnk
      rw [h2]
      rw [h1] at D0
      have HK := Lib.hid hnk
      have HK2 := Lib.hid hzk
      clear hzk hnk h1 h2
      go_wp2_with fail
      exact ⟨⟨k + 1, by omega, by rw [HK2.out], by go_num, HK.out, HX⟩, by simp [intOf]; omega⟩
    · obtain ⟨ad, u1, ea, -, hu1, D0⟩ := (HS.out.ext E).at1 hlt
      subst ea
      rw [i64s_getY (by rw [← HN.out]; exact hlt)] at hu1
      cases hu1
      rw [h2, Bool.false_or, decide_eq_false (by omega)] at hzk
      rw [decide_eq_false (by omega)] at hnk
      rw [h2]
      have e30 : (s.getD k 0 == 0) = false := by simpa using (show ¬ s.getD k 0 = 0 by omega)
      have HK := Lib.hid hnk
      have HK2 := Lib.hid hzk
      clear hzk hnk h2
      generalize s.getD k 0 = x at *
      go_wp2_with fail
      exact ⟨⟨k + 1, by omega, by rw [HK2.out], by go_num, HK.out, HX⟩, by simp [intOf]; omega⟩
    · obtain ⟨ad, u1, ea, -, hu1, D0⟩ := (HS.out.ext E).at1 hlt
      subst ea
      rw [i64s_getY (by rw [← HN.out]; exact hlt)] at hu1
      cases hu1
      rw [h2, Bool.true_or] at hzk
      rw [decide_eq_false (by omega)] at hnk
      rw [h2]
      have HK := Lib.hid hnk
      have HK2 := Lib.hid hzk
      clear hzk hnk h2
      generalize s.getD k 0 = x at *
      go_wp2_with fail
      exact ⟨⟨k + 1, by omega, by rw [HK2.out], by go_num, HK.out, HX⟩, by simp [intOf]; omega⟩
    · have hkn : k = n := by omega
      rw [hkn] at HU ⊢
      rw [HZ.out]
      have HNEG := HU
      clear hkn hzk hnk HU HX
      go_wp2_with fail
      generalize wr = wq2 at *
      go_loopw [6, 9] (fun x i wr => ∃ (m k : Nat), k ≤ n ∧ x = .int .i64 m ∧ i = .int .i64 k ∧ PF k = some m ∧ Ext wq2 wr) (fun _ i _ => n - (intOf i).toNat)
      case atStart => exact ⟨1, 0, Nat.zero_le _, rfl, rfl, HP0.out, Ext.refl _⟩
      case round =>
        obtain ⟨m, k, hk, rfl, rfl, hpf, HX⟩ := hrel
        have HU := Lib.hid hpf
        obtain ⟨hm1, hm2⟩ := HPR.out k m hpf
        have HQ := fun hlt => HNI.out HNEG.out k hlt
        clear hpf
        have z3 := HX.size
        replace E := E.trans HX
        have hq0 : ∃ q : Nat, k < n → s.getD k 0 = (q : Int) := by
          by_cases hlt : k < n
          · obtain ⟨q, hq⟩ := HQ hlt; exact ⟨q, fun _ => hq⟩
          · exact ⟨0, fun h => absurd h hlt⟩
        obtain ⟨q, hq0⟩ := hq0
        clear HQ
        rcases split_b (k < n) q m with ⟨hlt, hq1⟩ | ⟨hlt, hq1, hq2, hq3⟩ | ⟨hlt, hq1, hq2, hq3⟩ | ⟨hlt, hq1⟩ | hlt
        · obtain ⟨ad, u1, ea, -, hu1, D0⟩ := (HS.out.ext E).at1 hlt
          subst ea
          rw [i64s_getY (by rw [← HN.out]; exact hlt)] at hu1
          cases hu1
          have hq := hq0 hlt
          have HPk := HPN.out k m q HU.out hq
          rw [hq] at D0
          clear hq0 hq
          rw [if_neg (by have : 1 * q ≤ m * max 1 q := Nat.mul_le_mul hm1 (by omega); omega)] at HPk
          have HK := Lib.hid HPk
          clear HPk
          go_wp2_with fail
          go_ret2
          exact ⟨by rw [(HR2.out HNEG.out (HPS.out (k + 1) HK.out (by omega))).1, (HR2.out HNEG.out (HPS.out (k + 1) HK.out (by omega))).2]; rfl, E⟩
        · obtain ⟨ad, u1, ea, -, hu1, D0⟩ := (HS.out.ext E).at1 hlt
          subst ea
          rw [i64s_getY (by rw [← HN.out]; exact hlt)] at hu1
          cases hu1
          have hq := hq0 hlt
          have HPk := HPN.out k m q HU.out hq
          rw [hq] at D0
          clear hq0 hq
          have hP : (m : Int) * (q : Int) = ((m * q : Nat) : Int) := (Int.natCast_mul m q).symm
          have hPb : m * q ≤ 1099511627776 := Nat.le_trans (Nat.mul_le_mul hm2 hq1) (by decide)
          rw [show max 1 q = q by omega, if_neg (by omega)] at HPk
          have HK := Lib.hid HPk
          clear HPk
          generalize m * q = P at *
          go_wp2_with fail
          go_ret2
          exact ⟨by rw [(HR2.out HNEG.out (HPS.out (k + 1) HK.out (by omega))).1, (HR2.out HNEG.out (HPS.out (k + 1) HK.out (by omega))).2]; rfl, E⟩
        · obtain ⟨ad, u1, ea, -, hu1, D0⟩ := (HS.out.ext E).at1 hlt
          subst ea
          rw [i64s_getY (by rw [← HN.out]; exact hlt)] at hu1
          cases hu1
          have hq := hq0 hlt
          have HPk := HPN.out k m q HU.out hq
          rw [hq] at D0
          clear hq0 hq
          have hP : (m : Int) * (q : Int) = ((m * q : Nat) : Int) := (Int.natCast_mul m q).symm
          have hPb : m * q ≤ 1099511627776 := Nat.le_trans (Nat.mul_le_mul hm2 hq1) (by decide)
          rw [show max 1 q = q by omega, if_pos (by omega)] at HPk
          have HK := Lib.hid HPk
          clear HPk
          generalize m * q = P at *
          go_wp2_with fail
          exact ⟨⟨P, k + 1, by omega, by first | rfl | go_num, by go_num, HK.out, HX⟩, by simp [intOf]; omega⟩
        · obtain ⟨ad, u1, ea, -, hu1, D0⟩ := (HS.out.ext E).at1 hlt
          subst ea
          rw [i64s_getY (by rw [← HN.out]; exact hlt)] at hu1
          cases hu1
          have hq := hq0 hlt
          have HPk := HPN.out k m q HU.out hq
          rw [hq] at D0
          clear hq0 hq
          subst hq1
          rw [show max 1 0 = 1 by rfl, Nat.mul_one, if_pos hm2] at HPk
          have HK := Lib.hid HPk
          clear HPk
          go_wp2_with fail
          exact ⟨⟨m, k + 1, by omega, by first | rfl | go_num, by go_num, HK.out, HX⟩, by simp [intOf]; omega⟩
        · have hkn : k = n := by omega
          rw [hkn] at HU
          have hR := HR3.out HNEG.out m HU.out
          rw [HZ.out] at hR
          have HR := Lib.hid hR
          clear hkn hR HX hq0
          go_wp2_with fail
          go_ret2
          exact ⟨by rw [HR.out.1, HR.out.2]; rfl, E⟩
theorem rprod_false (h8 : ¬ 8 < n) (hz : zF s n = false) : Calls Try.prog 98 #[.slice A n c, .int .i64 1048576] w fun e w' => e = .returned (.tuple #[.int .i64 (prV s : Int), .int .i64 (prE s)]) ∧ Ext w w' := by
  have HN := Lib.hid hn
  have HS := Lib.hid hs
  have HZ0 : Hid (zF s 0 = false) := rfl
  have HZ1 : Hid (∀ k, zF s (k + 1) = (zF s k || decide (s.getD k 0 = 0))) := fun k => rfl
  have HN0 : Hid (nF s 0 = false) := rfl
  have HN1 : Hid (∀ k, nF s (k + 1) = (nF s k || decide (s.getD k 0 < 0))) := fun k => rfl
  have HNS : Hid (∀ k, nF s k = true → k ≤ n → nF s n = true) := fun k h hk => nF_stay h hk
  have HNI : Hid (nF s n = false → ∀ k, k < n → ∃ q : Nat, s.getD k 0 = (q : Int)) := fun h k hk => by
    have : ¬ s.getD k 0 < 0 := fun hlt => by
      have := nF_stay (s := s) (k := k + 1) (n := n) (by show (_ || _) = true; rw [decide_eq_true hlt]; simp) (by omega)
      rw [h] at this
      cases this
    exact ⟨(s.getD k 0).toNat, by omega⟩
  have HP0 : Hid (pF s 0 = some 1) := rfl
  have HPN : Hid (∀ (k n q : Nat), pF s k = some n → s.getD k 0 = (q : Int) → pF s (k + 1) = if n * max 1 q ≤ 1048576 then some (n * max 1 q) else none) := fun k n q h1 h2 => pF_next h1 h2
  have HPS : Hid (∀ k, pF s k = none → k ≤ n → pF s n = none) := fun k h hk => pF_stay h hk
  have HPR : Hid (∀ k m, pF s k = some m → 1 ≤ m ∧ m ≤ 1048576) := fun k m h => pF_rng h
  have HR1 : Hid (nF s n = true → prE s = 24 ∧ prV s = 0) := fun h => by rw [hn] at h h8; exact pr_neg h8 h
  have HR2 : Hid (nF s n = false → pF s n = none → prE s = 26 ∧ prV s = 0) := fun h1 h2 => by rw [hn] at h1 h2 h8; exact pr_none h8 h1 h2
  have HR3 : Hid (nF s n = false → ∀ m, pF s n = some m → prE s = 0 ∧ prV s = if zF s n then 0 else m) := fun h1 m h2 => by rw [hn] at h1 h2 h8 ⊢; exact pr_some h8 h1 h2
  clear hn hs
  obtain ⟨ZF, hZF⟩ : ∃ ZF : Nat → Bool, zF s = ZF := ⟨_, rfl⟩
  obtain ⟨NF, hNF⟩ : ∃ NF : Nat → Bool, nF s = NF := ⟨_, rfl⟩
  obtain ⟨PF, hPF⟩ : ∃ PF : Nat → Option Nat, pF s = PF := ⟨_, rfl⟩
  rw [hZF] at HZ0 HZ1 HR3 hz
  rw [hNF] at HN0 HN1 HNS HNI HR1 HR2 HR3
  rw [hPF] at HP0 HPN HPS HPR HR2 HR3
  clear hZF hNF hPF
  have HZ := Lib.hid hz
  clear hz
  generalize prE s = er at *
  generalize prV s = vl at *
  have E := Ext.refl w
  go_enter Try.func98, Try.ntmps98
  go_wp2_with fail
  go_loopw [7, 8] (fun z i wr => ∃ k : Nat, k ≤ n ∧ z = .bool (ZF k) ∧ i = .int .i64 k ∧ NF k = false ∧ Ext w wr) (fun _ i _ => n - (intOf i).toNat)
  case atStart => exact ⟨0, Nat.zero_le _, by rw [HZ0.out], rfl, HN0.out, Ext.refl _⟩
  case round =>
    obtain ⟨k, hk, rfl, rfl, hnf, HX⟩ := hrel
    have HU := Lib.hid hnf
    clear hnf
    have hzk := HZ1.out k
    have hnk := HN1.out k
    rw [HU.out, Bool.false_or] at hnk
    have z1 := HX.size
    replace E := E.trans HX
    rcases split_a (k < n) (s.getD k 0) (ZF k) with ⟨hlt, h1⟩ | ⟨hlt, h1, h2⟩ | ⟨hlt, h1, h2⟩ | ⟨hlt, h1, h2⟩ | hlt
    · obtain ⟨ad, u1, ea, -, hu1, D0⟩ := (HS.out.ext E).at1 hlt
      subst ea
      rw [i64s_getY (by rw [← HN.out]; exact hlt)] at hu1
      cases hu1
      rw [decide_eq_true h1] at hnk
      have HK := Lib.hid hnk
      clear hzk hnk
      generalize ZF k = zk at *
      generalize s.getD k 0 = x at *
      go_wp2_with fail
      go_ret2
      exact ⟨by rw [(HR1.out (HNS.out (k + 1) HK.out (by omega))).1, (HR1.out (HNS.out (k + 1) HK.out (by omega))).2]; rfl, E⟩
    · obtain ⟨ad, u1, ea, -, hu1, D0⟩ := (HS.out.ext E).at1 hlt
      subst ea
      rw [i64s_getY (by rw [← HN.out]; exact hlt)] at hu1
      cases hu1
      rw [h2, Bool.false_or, decide_eq_true h1] at hzk
      rw [decide_eq_false (by omega)] at hnk
      rw [h2]
      rw [h1] at D0
      have HK := Lib.hid hnk
      have HK2 := Lib.hid hzk
      clear hzk hnk h1 h2
      go_wp2_with fail
      exact ⟨⟨k + 1, by omega, by rw [HK2.out], by go_num, HK.out, HX⟩, by simp [intOf]; omega⟩
    · obtain ⟨ad, u1, ea, -, hu1, D0⟩ := (HS.out.ext E).at1 hlt
      subst ea
      rw [i64s_getY (by rw [← HN.out]; exact hlt)] at hu1
      cases hu1
      rw [h2, Bool.false_or, decide_eq_false (by omega)] at hzk
      rw [decide_eq_false (by omega)] at hnk
      rw [h2]
      have e30 : (s.getD k 0 == 0) = false := by simpa using (show ¬ s.getD k 0 = 0 by omega)
      have HK := Lib.hid hnk
      have HK2 := Lib.hid hzk
      clear hzk hnk h2
      generalize s.getD k 0 = x at *
      go_wp2_with fail
      exact ⟨⟨k + 1, by omega, by rw [HK2.out], by go_num, HK.out, HX⟩, by simp [intOf]; omega⟩
    · obtain ⟨ad, u1, ea, -, hu1, D0⟩ := (HS.out.ext E).at1 hlt
      subst ea
      rw [i64s_getY (by rw [← HN.out]; exact hlt)] at hu1
      cases hu1
      rw [h2, Bool.true_or] at hzk
      rw [decide_eq_false (by omega)] at hnk
      rw [h2]
      have HK := Lib.hid hnk
      have HK2 := Lib.hid hzk
      clear hzk hnk h2
      generalize s.getD k 0 = x at *
      go_wp2_with fail
      exact ⟨⟨k + 1, by omega, by rw [HK2.out], by go_num, HK.out, HX⟩, by simp [intOf]; omega⟩
    · have hkn : k = n := by omega
      rw [hkn] at HU ⊢
      rw [HZ.out]
      have HNEG := HU
      clear hkn hzk hnk HU HX
      go_wp2_with fail
      generalize wr = wq2 at *
      go_loopw [6, 9] (fun x i wr => ∃ (m k : Nat), k ≤ n ∧ x = .int .i64 m ∧ i = .int .i64 k ∧ PF k = some m ∧ Ext wq2 wr) (fun _ i _ => n - (intOf i).toNat)
      case atStart => exact ⟨1, 0, Nat.zero_le _, rfl, rfl, HP0.out, Ext.refl _⟩
      case round =>
        obtain ⟨m, k, hk, rfl, rfl, hpf, HX⟩ := hrel
        have HU := Lib.hid hpf
        obtain ⟨hm1, hm2⟩ := HPR.out k m hpf
        have HQ := fun hlt => HNI.out HNEG.out k hlt
        clear hpf
        have z3 := HX.size
        replace E := E.trans HX
        have hq0 : ∃ q : Nat, k < n → s.getD k 0 = (q : Int) := by
          by_cases hlt : k < n
          · obtain ⟨q, hq⟩ := HQ hlt; exact ⟨q, fun _ => hq⟩
          · exact ⟨0, fun h => absurd h hlt⟩
        obtain ⟨q, hq0⟩ := hq0
        clear HQ
        rcases split_b (k < n) q m with ⟨hlt, hq1⟩ | ⟨hlt, hq1, hq2, hq3⟩ | ⟨hlt, hq1, hq2, hq3⟩ | ⟨hlt, hq1⟩ | hlt
        · obtain ⟨ad, u1, ea, -, hu1, D0⟩ := (HS.out.ext E).at1 hlt
          subst ea
          rw [i64s_getY (by rw [← HN.out]; exact hlt)] at hu1
          cases hu1
          have hq := hq0 hlt
          have HPk := HPN.out k m q HU.out hq
          rw [hq] at D0
          clear hq0 hq
          rw [if_neg (by have : 1 * q ≤ m * max 1 q := Nat.mul_le_mul hm1 (by omega); omega)] at HPk
          have HK := Lib.hid HPk
          clear HPk
          go_wp2_with fail
          go_ret2
          exact ⟨by rw [(HR2.out HNEG.out (HPS.out (k + 1) HK.out (by omega))).1, (HR2.out HNEG.out (HPS.out (k + 1) HK.out (by omega))).2]; rfl, E⟩
        · obtain ⟨ad, u1, ea, -, hu1, D0⟩ := (HS.out.ext E).at1 hlt
          subst ea
          rw [i64s_getY (by rw [← HN.out]; exact hlt)] at hu1
          cases hu1
          have hq := hq0 hlt
          have HPk := HPN.out k m q HU.out hq
          rw [hq] at D0
          clear hq0 hq
          have hP : (m : Int) * (q : Int) = ((m * q : Nat) : Int) := (Int.natCast_mul m q).symm
          have hPb : m * q ≤ 1099511627776 := Nat.le_trans (Nat.mul_le_mul hm2 hq1) (by decide)
          rw [show max 1 q = q by omega, if_neg (by omega)] at HPk
          have HK := Lib.hid HPk
          clear HPk
          generalize m * q = P at *
          go_wp2_with fail
          go_ret2
          exact ⟨by rw [(HR2.out HNEG.out (HPS.out (k + 1) HK.out (by omega))).1, (HR2.out HNEG.out (HPS.out (k + 1) HK.out (by omega))).2]; rfl, E⟩
        · obtain ⟨ad, u1, ea, -, hu1, D0⟩ := (HS.out.ext E).at1 hlt
          subst ea
          rw [i64s_getY (by rw [← HN.out]; exact hlt)] at hu1
          cases hu1
          have hq := hq0 hlt
          have HPk := HPN.out k m q HU.out hq
          rw [hq] at D0
          clear hq0 hq
          have hP : (m : Int) * (q : Int) = ((m * q : Nat) : Int) := (Int.natCast_mul m q).symm
          have hPb : m * q ≤ 1099511627776 := Nat.le_trans (Nat.mul_le_mul hm2 hq1) (by decide)
          rw [show max 1 q = q by omega, if_pos (by omega)] at HPk
          have HK := Lib.hid HPk
          clear HPk
          generalize m * q = P at *
          go_wp2_with fail
          exact ⟨⟨P, k + 1, by omega, by first | rfl | go_num, by go_num, HK.out, HX⟩, by simp [intOf]; omega⟩
        · obtain ⟨ad, u1, ea, -, hu1, D0⟩ := (HS.out.ext E).at1 hlt
          subst ea
          rw [i64s_getY (by rw [← HN.out]; exact hlt)] at hu1
          cases hu1
          have hq := hq0 hlt
          have HPk := HPN.out k m q HU.out hq
          rw [hq] at D0
          clear hq0 hq
          subst hq1
          rw [show max 1 0 = 1 by rfl, Nat.mul_one, if_pos hm2] at HPk
          have HK := Lib.hid HPk
          clear HPk
          go_wp2_with fail
          exact ⟨⟨m, k + 1, by omega, by first | rfl | go_num, by go_num, HK.out, HX⟩, by simp [intOf]; omega⟩
        · have hkn : k = n := by omega
          rw [hkn] at HU
          have hR := HR3.out HNEG.out m HU.out
          rw [HZ.out] at hR
          have HR := Lib.hid hR
          clear hkn hR HX hq0
          go_wp2_with fail
          go_ret2
          exact ⟨by rw [HR.out.1, HR.out.2]; rfl, E⟩
theorem rprod_any : Calls Try.prog 98 #[.slice A n c, .int .i64 1048576] w fun e w' => e = .returned (.tuple #[.int .i64 (prV s : Int), .int .i64 (prE s)]) ∧ Ext w w' := by
  by_cases h8 : 8 < n
  · exact rprod_long A s n hn c w h8
  · cases hz : zF s n
    · exact rprod_false A s n hn c w hs h8 hz
    · exact rprod_true A s n hn c w hs h8 hz
end
end Go.Proofs.Ytdfhefnjoekgbaa

namespace Go.Proofs.Ytdfhefnjoekgbaa
open Go.ChangeShapes Go.WideShapes Go.RowKit Bv Fl
set_option maxHeartbeats 2000000
set_option maxRecDepth 100000
theorem zF_stay {s : List Int} {k n : Nat} (h : zF s k = true) (hk : k ≤ n) : zF s n = true := by
  induction hk with
  | refl => exact h
  | step _ ih => unfold zF; rw [ih]; rfl
section
variable (A : Option Addr) (s : List Int) (n : Nat) (hn : n = s.length) (c : Nat) (w : World) (hs : Sl w 1 A n (i64s s))
include hn hs
theorem index0_any (hN2 : n ≤ 1048576) : Calls Try.prog 103 #[.slice A n c, .int .i64 0] w fun e w' => (∃ r : Int, e = .returned (.int .i64 r) ∧ decide (0 ≤ r) = zF s n) ∧ Ext w w' := by
  have HN := Lib.hid hn
  have HS := Lib.hid hs
  have HZ0 : Hid (zF s 0 = false) := rfl
  have HZ1 : Hid (∀ k, zF s (k + 1) = (zF s k || decide (s.getD k 0 = 0))) := fun k => rfl
  have HZS : Hid (∀ k, zF s k = true → k ≤ n → zF s n = true) := fun k h hk => zF_stay h hk
  clear hn hs
  obtain ⟨ZF, hZF⟩ : ∃ ZF : Nat → Bool, zF s = ZF := ⟨_, rfl⟩
  rw [hZF] at HZ0 HZ1 HZS ⊢
  clear hZF
  have E := Ext.refl w
  go_enter Try.func103, Try.ntmps103
  go_wp2_with fail
  go_loopw [8] (fun i wr => ∃ k : Nat, k ≤ n ∧ i = .int .i64 k ∧ ZF k = false ∧ Ext w wr) (fun i _ => n - (intOf i).toNat)
  case atStart => exact ⟨0, Nat.zero_le _, rfl, HZ0.out, Ext.refl _⟩
  case round =>
    obtain ⟨k, hk, rfl, hzf, HX⟩ := hrel
    have HU := Lib.hid hzf
    clear hzf
    have hzk := HZ1.out k
    rw [HU.out, Bool.false_or] at hzk
    have z1 := HX.size
    replace E := E.trans HX
    have hsp : k < n ∧ s.getD k 0 = 0 ∨ k < n ∧ ¬ s.getD k 0 = 0 ∨ ¬ k < n := by omega
    rcases hsp with ⟨hlt, h1⟩ | ⟨hlt, h1⟩ | hlt
    · obtain ⟨ad, u1, ea, -, hu1, D0⟩ := (HS.out.ext E).at1 hlt
      subst ea
      rw [i64s_getY (by rw [← HN.out]; exact hlt)] at hu1
      cases hu1
      rw [decide_eq_true h1] at hzk
      rw [h1] at D0
      have HK := Lib.hid hzk
      clear hzk h1
      go_wp2_with fail
      go_ret
      exact ⟨⟨_, rfl, by rw [HZS.out (k + 1) HK.out (by omega)]; exact decide_eq_true (by omega)⟩, E⟩
    · obtain ⟨ad, u1, ea, -, hu1, D0⟩ := (HS.out.ext E).at1 hlt
      subst ea
      rw [i64s_getY (by rw [← HN.out]; exact hlt)] at hu1
      cases hu1
      rw [decide_eq_false h1] at hzk
      have e16 : ((0 : Int) == s.getD k 0) = false := by simpa using (fun h : (0 : Int) = s.getD k 0 => h1 h.symm)
      have HK := Lib.hid hzk
      clear hzk h1
      generalize s.getD k 0 = x at *
      go_wp2_with fail
      exact ⟨⟨k + 1, by omega, by go_num, HK.out, HX⟩, by simp [intOf]; omega⟩
    · have hkn : k = n := by omega
      rw [hkn] at HU
      clear hkn hzk
      go_wp2_with fail
      go_ret
      exact ⟨⟨_, rfl, by rw [HU.out]; rfl⟩, E⟩
theorem contains0_any (hN2 : n ≤ 1048576) : Calls Try.prog 101 #[.slice A n c, .int .i64 0] w fun e w' => e = .returned (.bool (zF s n)) ∧ Ext w w' := by
  have ci := fun w' (h : Ext w w') => index0_any A s n hn c w' (hs.ext h) hN2
  clear hn hs
  generalize zF s n = z at *
  have E := Ext.refl w
  go_enter Try.func101, Try.ntmps101
  go_wp2_with fail
  refine (ci _ E).mono ?_
  rintro e w7 ⟨⟨r, rfl, hr⟩, x⟩
  have z1 := x.size
  replace E := E.trans x
  clear x
  go_wp2_with fail
  go_ret
  exact ⟨by rw [← hr]; rfl, E⟩
omit hs hn in
theorem within_any (m : Nat) (hm : m ≤ 1048576) : Calls Try.prog 102 #[.int .i64 (m : Int), .int .i64 1048576] w fun e w' => e = .returned (.tuple #[.int .i64 (m : Int), .int .i64 0]) ∧ Ext w w' := by
  have E := Ext.refl w
  go_enter Try.func102, Try.ntmps102
  go_wp2_with fail
  go_ret2
  exact ⟨rfl, E⟩
omit hs in
theorem sprod_long (h8 : 8 < n) : Calls Try.prog 99 #[.slice A n c, .int .i64 1048576] w fun e w' => e = .returned (.tuple #[.int .i64 (prV s : Int), .int .i64 (prE s)]) ∧ Ext w w' := by
  rw [(pr_long (hn ▸ h8)).1, (pr_long (hn ▸ h8)).2]
  have E := Ext.refl w
  go_enter Try.func99, Try.ntmps99
  go_wp2_with fail
  go_ret2
  exact ⟨rfl, E⟩
theorem sprod_true (h8 : ¬ 8 < n) (hz : zF s n = true) : Calls Try.prog 99 #[.slice A n c, .int .i64 1048576] w fun e w' => e = .returned (.tuple #[.int .i64 (prV s : Int), .int .i64 (prE s)]) ∧ Ext w w' := by
  have cz := fun w' (h : Ext w w') => contains0_any A s n hn c w' (hs.ext h) (by omega)
  rw [hz] at cz
  have cw := fun w' => within_any w' 0 (by omega)
  have HN := Lib.hid hn
  have HS := Lib.hid hs
  have HZ0 : Hid (zF s 0 = false) := rfl
  have HZ1 : Hid (∀ k, zF s (k + 1) = (zF s k || decide (s.getD k 0 = 0))) := fun k => rfl
  have HN0 : Hid (nF s 0 = false) := rfl
  have HN1 : Hid (∀ k, nF s (k + 1) = (nF s k || decide (s.getD k 0 < 0))) := fun k => rfl
  have HNS : Hid (∀ k, nF s k = true → k ≤ n → nF s n = true) := fun k h hk => nF_stay h hk
  have HNI : Hid (nF s n = false → ∀ k, k < n → ∃ q : Nat, s.getD k 0 = (q : Int)) := fun h k hk => by
    have : ¬ s.getD k 0 < 0 := fun hlt => by
      have := nF_stay (s := s) (k := k + 1) (n := n) (by show (_ || _) = true; rw [decide_eq_true hlt]; simp) (by omega)
      rw [h] at this
      cases this
    exact ⟨(s.getD k 0).toNat, by omega⟩
  have HP0 : Hid (pF s 0 = some 1) := rfl
  have HPN : Hid (∀ (k n q : Nat), pF s k = some n → s.getD k 0 = (q : Int) → pF s (k + 1) = if n * max 1 q ≤ 1048576 then some (n * max 1 q) else none) := fun k n q h1 h2 => pF_next h1 h2
  have HPS : Hid (∀ k, pF s k = none → k ≤ n → pF s n = none) := fun k h hk => pF_stay h hk
  have HPR : Hid (∀ k m, pF s k = some m → 1 ≤ m ∧ m ≤ 1048576) := fun k m h => pF_rng h
  have HR1 : Hid (nF s n = true → prE s = 24 ∧ prV s = 0) := fun h => by rw [hn] at h h8; exact pr_neg h8 h
  have HR2 : Hid (nF s n = false → pF s n = none → prE s = 26 ∧ prV s = 0) := fun h1 h2 => by rw [hn] at h1 h2 h8; exact pr_none h8 h1 h2
  have HR3 : Hid (nF s n = false → ∀ m, pF s n = some m → prE s = 0 ∧ prV s = if zF s n then 0 else m) := fun h1 m h2 => by rw [hn] at h1 h2 h8 ⊢; exact pr_some h8 h1 h2
  clear hn hs
  obtain ⟨ZF, hZF⟩ : ∃ ZF : Nat → Bool, zF s = ZF := ⟨_, rfl⟩
  obtain ⟨NF, hNF⟩ : ∃ NF : Nat → Bool, nF s = NF := ⟨_, rfl⟩
  obtain ⟨PF, hPF⟩ : ∃ PF : Nat → Option Nat, pF s = PF := ⟨_, rfl⟩
  rw [hZF] at HZ0 HZ1 HR3 hz
  rw [hNF] at HN0 HN1 HNS HNI HR1 HR2 HR3
  rw [hPF] at HP0 HPN HPS HPR HR2 HR3
  clear hZF hNF hPF
  have HZ := Lib.hid hz
  clear hz
  generalize prE s = er at *
  generalize prV s = vl at *
  have E := Ext.refl w
  go_enter Try.func99, Try.ntmps99
  go_wp2_with fail
  go_loopw [16] (fun i wr => ∃ k : Nat, k ≤ n ∧ i = .int .i64 k ∧ NF k = false ∧ Ext w wr) (fun i _ => n - (intOf i).toNat)
  case atStart => exact ⟨0, Nat.zero_le _, rfl, HN0.out, Ext.refl _⟩
  case round =>
    obtain ⟨k, hk, rfl, hnf, HX⟩ := hrel
    have HU := Lib.hid hnf
    clear hnf
    have hnk := HN1.out k
    rw [HU.out, Bool.false_or] at hnk
    have z1 := HX.size
    replace E := E.trans HX
    have hsp : k < n ∧ s.getD k 0 < 0 ∨ k < n ∧ ¬ s.getD k 0 < 0 ∨ ¬ k < n := by omega
    rcases hsp with ⟨hlt, h1⟩ | ⟨hlt, h1⟩ | hlt
    · obtain ⟨ad, u1, ea, -, hu1, D0⟩ := (HS.out.ext E).at1 hlt
      subst ea
      rw [i64s_getY (by rw [← HN.out]; exact hlt)] at hu1
      cases hu1
      rw [decide_eq_true h1] at hnk
      have HK := Lib.hid hnk
      clear hnk
      generalize s.getD k 0 = x at *
      go_wp2_with fail
      go_ret2
      exact ⟨by rw [(HR1.out (HNS.out (k + 1) HK.out (by omega))).1, (HR1.out (HNS.out (k + 1) HK.out (by omega))).2]; rfl, E⟩
    · obtain ⟨ad, u1, ea, -, hu1, D0⟩ := (HS.out.ext E).at1 hlt
      subst ea
      rw [i64s_getY (by rw [← HN.out]; exact hlt)] at hu1
      cases hu1
      rw [decide_eq_false h1] at hnk
      have HK := Lib.hid hnk
      clear hnk
      generalize s.getD k 0 = x at *
      go_wp2_with fail
      exact ⟨⟨k + 1, by omega, by go_num, HK.out, HX⟩, by simp [intOf]; omega⟩
    · have hkn : k = n := by omega
      rw [hkn] at HU
      have HNEG := HU
      clear hkn hnk HU HX
      go_wp2_with fail
      generalize wr = wq2 at *
      go_loopw [8, 25] (fun x i wr => ∃ (m k : Nat), k ≤ n ∧ x = .int .i64 m ∧ i = .int .i64 k ∧ PF k = some m ∧ Ext wq2 wr) (fun _ i _ => n - (intOf i).toNat)
      case atStart => exact ⟨1, 0, Nat.zero_le _, rfl, rfl, HP0.out, Ext.refl _⟩
      case round =>
        obtain ⟨m, k, hk, rfl, rfl, hpf, HX⟩ := hrel
        have HU := Lib.hid hpf
        obtain ⟨hm1, hm2⟩ := HPR.out k m hpf
        have HQ := fun hlt => HNI.out HNEG.out k hlt
        clear hpf
        have eQ : (1048576 : Int) / (m : Int) = ((1048576 / m : Nat) : Int) := rfl
        have hQd : ∀ q, 1048576 / m < q ↔ 1048576 < q * m := fun q => Nat.div_lt_iff_lt_mul (by omega)
        have hm0 : ((m : Int) == 0) = false := by simp; omega
        have z3 := HX.size
        replace E := E.trans HX
        have hq0 : ∃ q : Nat, k < n → s.getD k 0 = (q : Int) := by
          by_cases hlt : k < n
          · obtain ⟨q, hq⟩ := HQ hlt; exact ⟨q, fun _ => hq⟩
          · exact ⟨0, fun h => absurd h hlt⟩
        obtain ⟨q, hq0⟩ := hq0
        clear HQ
        generalize 1048576 / m = Q at *
        rcases split_c (k < n) q Q with ⟨hlt, hq1⟩ | ⟨hlt, hq1⟩ | ⟨hlt, hq1, hq2⟩ | ⟨hlt, hq1, hq2⟩ | hlt
        · obtain ⟨ad, u1, ea, -, hu1, D0⟩ := (HS.out.ext E).at1 hlt
          subst ea
          rw [i64s_getY (by rw [← HN.out]; exact hlt)] at hu1
          cases hu1
          have hq := hq0 hlt
          have HPk := HPN.out k m q HU.out hq
          rw [hq] at D0
          clear hq0 hq
          rw [if_neg (by have h := (hQd q).1 hq1; rw [Nat.mul_comm] at h; rw [show max 1 q = q by omega]; omega)] at HPk
          have HK := Lib.hid HPk
          clear HPk hQd
          go_wp2_with fail
          go_ret2
          exact ⟨by rw [(HR2.out HNEG.out (HPS.out (k + 1) HK.out (by omega))).1, (HR2.out HNEG.out (HPS.out (k + 1) HK.out (by omega))).2]; rfl, E⟩
        · obtain ⟨ad, u1, ea, -, hu1, D0⟩ := (HS.out.ext E).at1 hlt
          subst ea
          rw [i64s_getY (by rw [← HN.out]; exact hlt)] at hu1
          cases hu1
          have hq := hq0 hlt
          have HPk := HPN.out k m q HU.out hq
          rw [hq] at D0
          clear hq0 hq
          subst hq1
          rw [show max 1 0 = 1 by rfl, Nat.mul_one, if_pos hm2] at HPk
          have HK := Lib.hid HPk
          clear HPk hQd
          go_wp2_with fail
          exact ⟨⟨m, k + 1, by omega, by first | rfl | go_num, by go_num, HK.out, HX⟩, by simp [intOf]; omega⟩
        · obtain ⟨ad, u1, ea, -, hu1, D0⟩ := (HS.out.ext E).at1 hlt
          subst ea
          rw [i64s_getY (by rw [← HN.out]; exact hlt)] at hu1
          cases hu1
          have hq := hq0 hlt
          have HPk := HPN.out k m q HU.out hq
          rw [hq] at D0
          clear hq0 hq
          subst hq1
          rw [show max 1 1 = 1 by rfl, Nat.mul_one, if_pos hm2] at HPk
          have HK := Lib.hid HPk
          clear HPk hQd
          go_wp2_with fail
          exact ⟨⟨m, k + 1, by omega, by first | rfl | go_num, by go_num, HK.out, HX⟩, by simp [intOf]; omega⟩
        · obtain ⟨ad, u1, ea, -, hu1, D0⟩ := (HS.out.ext E).at1 hlt
          subst ea
          rw [i64s_getY (by rw [← HN.out]; exact hlt)] at hu1
          cases hu1
          have hq := hq0 hlt
          have HPk := HPN.out k m q HU.out hq
          rw [hq] at D0
          clear hq0 hq
          have hmq : m * q ≤ 1048576 := by rw [Nat.mul_comm]; exact Nat.not_lt.1 fun h => absurd ((hQd q).2 h) (by omega)
          have hP : (m : Int) * (q : Int) = ((m * q : Nat) : Int) := (Int.natCast_mul m q).symm
          rw [show max 1 q = q by omega, if_pos hmq] at HPk
          have HK := Lib.hid HPk
          clear HPk hQd
          generalize m * q = P at *
          go_wp2_with fail
          exact ⟨⟨P, k + 1, by omega, by first | rfl | go_num, by go_num, HK.out, HX⟩, by simp [intOf]; omega⟩
        · have hkn : k = n := by omega
          rw [hkn] at HU
          have hR := HR3.out HNEG.out m HU.out
          rw [HZ.out] at hR
          have HR := Lib.hid hR
          clear hkn hR HX hq0 hQd eQ hm0
          go_wp2_with fail
          refine (cz _ E).mono ?_
          rintro e w39 ⟨rfl, x⟩
          have z4 := x.size
          replace E := E.trans x
          clear x
          go_wp2_with fail
          refine (cw _).mono ?_
          rintro e w42 ⟨rfl, x⟩
          have z5 := x.size
          replace E := E.trans x
          clear x
          go_wp2_with fail
          go_ret2
          exact ⟨by rw [HR.out.1, HR.out.2]; rfl, E⟩
theorem sprod_false (h8 : ¬ 8 < n) (hz : zF s n = false) : Calls Try.prog 99 #[.slice A n c, .int .i64 1048576] w fun e w' => e = .returned (.tuple #[.int .i64 (prV s : Int), .int .i64 (prE s)]) ∧ Ext w w' := by
  have cz := fun w' (h : Ext w w') => contains0_any A s n hn c w' (hs.ext h) (by omega)
  rw [hz] at cz
  have cw := fun m w' hm => within_any w' m hm
  have HN := Lib.hid hn
  have HS := Lib.hid hs
  have HZ0 : Hid (zF s 0 = false) := rfl
  have HZ1 : Hid (∀ k, zF s (k + 1) = (zF s k || decide (s.getD k 0 = 0))) := fun k => rfl
  have HN0 : Hid (nF s 0 = false) := rfl
  have HN1 : Hid (∀ k, nF s (k + 1) = (nF s k || decide (s.getD k 0 < 0))) := fun k => rfl
  have HNS : Hid (∀ k, nF s k = true → k ≤ n → nF s n = true) := fun k h hk => nF_stay h hk
  have HNI : Hid (nF s n = false → ∀ k, k < n → ∃ q : Nat, s.getD k 0 = (q : Int)) := fun h k hk => by
    have : ¬ s.getD k 0 < 0 := fun hlt => by
      have := nF_stay (s := s) (k := k + 1) (n := n) (by show (_ || _) = true; rw [decide_eq_true hlt]; simp) (by omega)
      rw [h] at this
      cases this
    exact ⟨(s.getD k 0).toNat, by omega⟩
  have HP0 : Hid (pF s 0 = some 1) := rfl
  have HPN : Hid (∀ (k n q : Nat), pF s k = some n → s.getD k 0 = (q : Int) → pF s (k + 1) = if n * max 1 q ≤ 1048576 then some (n * max 1 q) else none) := fun k n q h1 h2 => pF_next h1 h2
  have HPS : Hid (∀ k, pF s k = none → k ≤ n → pF s n = none) := fun k h hk => pF_stay h hk
  have HPR : Hid (∀ k m, pF s k = some m → 1 ≤ m ∧ m ≤ 1048576) := fun k m h => pF_rng h
  have HR1 : Hid (nF s n = true → prE s = 24 ∧ prV s = 0) := fun h => by rw [hn] at h h8; exact pr_neg h8 h
  have HR2 : Hid (nF s n = false → pF s n = none → prE s = 26 ∧ prV s = 0) := fun h1 h2 => by rw [hn] at h1 h2 h8; exact pr_none h8 h1 h2
  have HR3 : Hid (nF s n = false → ∀ m, pF s n = some m → prE s = 0 ∧ prV s = if zF s n then 0 else m) := fun h1 m h2 => by rw [hn] at h1 h2 h8 ⊢; exact pr_some h8 h1 h2
  clear hn hs
  obtain ⟨ZF, hZF⟩ : ∃ ZF : Nat → Bool, zF s = ZF := ⟨_, rfl⟩
  obtain ⟨NF, hNF⟩ : ∃ NF : Nat → Bool, nF s = NF := ⟨_, rfl⟩
  obtain ⟨PF, hPF⟩ : ∃ PF : Nat → Option Nat, pF s = PF := ⟨_, rfl⟩
  rw [hZF] at HZ0 HZ1 HR3 hz
  rw [hNF] at HN0 HN1 HNS HNI HR1 HR2 HR3
  rw [hPF] at HP0 HPN HPS HPR HR2 HR3
  clear hZF hNF hPF
  have HZ := Lib.hid hz
  clear hz
  generalize prE s = er at *
  generalize prV s = vl at *
  have E := Ext.refl w
  go_enter Try.func99, Try.ntmps99
  go_wp2_with fail
  go_loopw [16] (fun i wr => ∃ k : Nat, k ≤ n ∧ i = .int .i64 k ∧ NF k = false ∧ Ext w wr) (fun i _ => n - (intOf i).toNat)
  case atStart => exact ⟨0, Nat.zero_le _, rfl, HN0.out, Ext.refl _⟩
  case round =>
    obtain ⟨k, hk, rfl, hnf, HX⟩ := hrel
    have HU := Lib.hid hnf
    clear hnf
    have hnk := HN1.out k
    rw [HU.out, Bool.false_or] at hnk
    have z1 := HX.size
    replace E := E.trans HX
    have hsp : k < n ∧ s.getD k 0 < 0 ∨ k < n ∧ ¬ s.getD k 0 < 0 ∨ ¬ k < n := by omega
    rcases hsp with ⟨hlt, h1⟩ | ⟨hlt, h1⟩ | hlt
    · obtain ⟨ad, u1, ea, -, hu1, D0⟩ := (HS.out.ext E).at1 hlt
      subst ea
      rw [i64s_getY (by rw [← HN.out]; exact hlt)] at hu1
      cases hu1
      rw [decide_eq_true h1] at hnk
      have HK := Lib.hid hnk
      clear hnk
      generalize s.getD k 0 = x at *
      go_wp2_with fail
      go_ret2
      exact ⟨by rw [(HR1.out (HNS.out (k + 1) HK.out (by omega))).1, (HR1.out (HNS.out (k + 1) HK.out (by omega))).2]; rfl, E⟩
    · obtain ⟨ad, u1, ea, -, hu1, D0⟩ := (HS.out.ext E).at1 hlt
      subst ea
      rw [i64s_getY (by rw [← HN.out]; exact hlt)] at hu1
      cases hu1
      rw [decide_eq_false h1] at hnk
      have HK := Lib.hid hnk
      clear hnk
      generalize s.getD k 0 = x at *
      go_wp2_with fail
      exact ⟨⟨k + 1, by omega, by go_num, HK.out, HX⟩, by simp [intOf]; omega⟩
    · have hkn : k = n := by omega
      rw [hkn] at HU
      have HNEG := HU
      clear hkn hnk HU HX
      go_wp2_with fail
      generalize wr = wq2 at *
      go_loopw [8, 25] (fun x i wr => ∃ (m k : Nat), k ≤ n ∧ x = .int .i64 m ∧ i = .int .i64 k ∧ PF k = some m ∧ Ext wq2 wr) (fun _ i _ => n - (intOf i).toNat)
      case atStart => exact ⟨1, 0, Nat.zero_le _, rfl, rfl, HP0.out, Ext.refl _⟩
      case round =>
        obtain ⟨m, k, hk, rfl, rfl, hpf, HX⟩ := hrel
        have HU := Lib.hid hpf
        obtain ⟨hm1, hm2⟩ := HPR.out k m hpf
        have HQ := fun hlt => HNI.out HNEG.out k hlt
        clear hpf
        have eQ : (1048576 : Int) / (m : Int) = ((1048576 / m : Nat) : Int) := rfl
        have hQd : ∀ q, 1048576 / m < q ↔ 1048576 < q * m := fun q => Nat.div_lt_iff_lt_mul (by omega)
        have hm0 : ((m : Int) == 0) = false := by simp; omega
        have z3 := HX.size
        replace E := E.trans HX
        have hq0 : ∃ q : Nat, k < n → s.getD k 0 = (q : Int) := by
          by_cases hlt : k < n
          · obtain ⟨q, hq⟩ := HQ hlt; exact ⟨q, fun _ => hq⟩
          · exact ⟨0, fun h => absurd h hlt⟩
        obtain ⟨q, hq0⟩ := hq0
        clear HQ
        generalize 1048576 / m = Q at *
        rcases split_c (k < n) q Q with ⟨hlt, hq1⟩ | ⟨hlt, hq1⟩ | ⟨hlt, hq1, hq2⟩ | ⟨hlt, hq1, hq2⟩ | hlt
        · obtain ⟨ad, u1, ea, -, hu1, D0⟩ := (HS.out.ext E).at1 hlt
          subst ea
          rw [i64s_getY (by rw [← HN.out]; exact hlt)] at hu1
          cases hu1
          have hq := hq0 hlt
          have HPk := HPN.out k m q HU.out hq
          rw [hq] at D0
          clear hq0 hq
          rw [if_neg (by have h := (hQd q).1 hq1; rw [Nat.mul_comm] at h; rw [show max 1 q = q by omega]; omega)] at HPk
          have HK := Lib.hid HPk
          clear HPk hQd
          go_wp2_with fail
          go_ret2
          exact ⟨by rw [(HR2.out HNEG.out (HPS.out (k + 1) HK.out (by omega))).1, (HR2.out HNEG.out (HPS.out (k + 1) HK.out (by omega))).2]; rfl, E⟩
        · obtain ⟨ad, u1, ea, -, hu1, D0⟩ := (HS.out.ext E).at1 hlt
          subst ea
          rw [i64s_getY (by rw [← HN.out]; exact hlt)] at hu1
          cases hu1
          have hq := hq0 hlt
          have HPk := HPN.out k m q HU.out hq
          rw [hq] at D0
          clear hq0 hq
          subst hq1
          rw [show max 1 0 = 1 by rfl, Nat.mul_one, if_pos hm2] at HPk
          have HK := Lib.hid HPk
          clear HPk hQd
          go_wp2_with fail
          exact ⟨⟨m, k + 1, by omega, by first | rfl | go_num, by go_num, HK.out, HX⟩, by simp [intOf]; omega⟩
        · obtain ⟨ad, u1, ea, -, hu1, D0⟩ := (HS.out.ext E).at1 hlt
          subst ea
          rw [i64s_getY (by rw [← HN.out]; exact hlt)] at hu1
          cases hu1
          have hq := hq0 hlt
          have HPk := HPN.out k m q HU.out hq
          rw [hq] at D0
          clear hq0 hq
          subst hq1
          rw [show max 1 1 = 1 by rfl, Nat.mul_one, if_pos hm2] at HPk
          have HK := Lib.hid HPk
          clear HPk hQd
          go_wp2_with fail
          exact ⟨⟨m, k + 1, by omega, by first | rfl | go_num, by go_num, HK.out, HX⟩, by simp [intOf]; omega⟩
        · obtain ⟨ad, u1, ea, -, hu1, D0⟩ := (HS.out.ext E).at1 hlt
          subst ea
          rw [i64s_getY (by rw [← HN.out]; exact hlt)] at hu1
          cases hu1
          have hq := hq0 hlt
          have HPk := HPN.out k m q HU.out hq
          rw [hq] at D0
          clear hq0 hq
          have hmq : m * q ≤ 1048576 := by rw [Nat.mul_comm]; exact Nat.not_lt.1 fun h => absurd ((hQd q).2 h) (by omega)
          have hP : (m : Int) * (q : Int) = ((m * q : Nat) : Int) := (Int.natCast_mul m q).symm
          rw [show max 1 q = q by omega, if_pos hmq] at HPk
          have HK := Lib.hid HPk
          clear HPk hQd
          generalize m * q = P at *
          go_wp2_with fail
          exact ⟨⟨P, k + 1, by omega, by first | rfl | go_num, by go_num, HK.out, HX⟩, by simp [intOf]; omega⟩
        · have hkn : k = n := by omega
          rw [hkn] at HU
          have hR := HR3.out HNEG.out m HU.out
          rw [HZ.out] at hR
          have HR := Lib.hid hR
          clear hkn hR HX hq0 hQd eQ hm0
          go_wp2_with fail
          refine (cz _ E).mono ?_
          rintro e w39 ⟨rfl, x⟩
          have z4 := x.size
          replace E := E.trans x
          clear x
          go_wp2_with fail
          refine (cw m _ hm2).mono ?_
          rintro e w42 ⟨rfl, x⟩
          have z5 := x.size
          replace E := E.trans x
          clear x
          go_wp2_with fail
          go_ret2
          exact ⟨by rw [HR.out.1, HR.out.2]; rfl, E⟩
theorem sprod_any : Calls Try.prog 99 #[.slice A n c, .int .i64 1048576] w fun e w' => e = .returned (.tuple #[.int .i64 (prV s : Int), .int .i64 (prE s)]) ∧ Ext w w' := by
  by_cases h8 : 8 < n
  · exact sprod_long A s n hn c w h8
  · cases hz : zF s n
    · exact sprod_false A s n hn c w hs h8 hz
    · exact sprod_true A s n hn c w hs h8 hz
end
end Go.Proofs.Ytdfhefnjoekgbaa

namespace Go.Proofs.Ytdfhefnjoekgbaa
open Go.ChangeShapes Go.WideShapes Go.RowKit Bv Fl
set_option maxHeartbeats 4000000
set_option maxRecDepth 100000
/-- a plain array that is one -/
def GoodD : Nat → World → Pl → Prop
  | 0, _, _ => False
  | n + 1, w, p => Flt w p ∧ 0 ≤ p.fill ∧ p.fill ≤ 2 ∧ prE p.sh = 0 ∧ prV p.sh = p.its.length ∧ ∀ x ∈ p.its, x.kind = p.fill ∧ (p.fill = 0 → fin x.num) ∧ (p.fill = 2 → ∃ (b : Addr) (q : Pl), x.bn = 1 ∧ x.bA = some b ∧ Sl w 3 x.bA 1 (plc [q]) ∧ GoodD n w q)
/-- what is wrong with an item, z what is wrong with what lies in it -/
def stE (fl : Int) (x : It) (z : Int) : Int := if x.kind ≠ fl ∨ (x.kind = 2 ∧ x.bn ≠ 1) then 1 else if x.kind = 2 then z else 0
def chE (fl : Int) (it : Nat → It) (zs : Nat → Int) : Nat → Int
  | 0 => 0
  | k + 1 => if chE fl it zs k ≠ 0 then chE fl it zs k else stE fl (it k) (zs k)
def chF (it : Nat → It) : Nat → Bool
  | 0 => true
  | k + 1 => chF it k && (decide ((it k).kind ≠ 0) || decide (fin (it k).num))
theorem chE_stay {fl : Int} {it : Nat → It} {zs : Nat → Int} {k n : Nat} (h : chE fl it zs k ≠ 0) (hk : k ≤ n) : chE fl it zs n = chE fl it zs k := by
  induction hk with
  | refl => rfl
  | step _ ih => show (if _ then _ else _) = _; rw [if_pos (by rw [ih]; exact h), ih]
theorem chE_zero {fl : Int} {it : Nat → It} {zs : Nat → Int} {n : Nat} (h : chE fl it zs n = 0) : ∀ k, k < n → stE fl (it k) (zs k) = 0 := by
  induction n with
  | zero => intro k hk; omega
  | succ n ih =>
    unfold chE at h
    split at h
    · exact absurd h (by assumption)
    · rename_i h2
      intro k hk
      by_cases e : k = n
      · subst e; exact h
      · exact ih (Decidable.not_not.1 h2) k (by omega)
theorem chF_all {it : Nat → It} {n : Nat} (h : chF it n = true) : ∀ k, k < n → (it k).kind = 0 → fin (it k).num := by
  induction n with
  | zero => intro k hk; omega
  | succ n ih =>
    unfold chF at h
    simp only [Bool.and_eq_true] at h
    intro k hk h0
    by_cases e : k = n
    · subst e
      simpa [h0] using h.2
    · exact ih h.1 k (by omega) h0
theorem split_d (A : Prop) (kd fl : Int) (bn : Nat) (z : Int) (b : Bool) : (A ∧ kd ≠ fl) ∨ (A ∧ kd = fl ∧ kd = 2 ∧ bn ≠ 1) ∨ (A ∧ kd = fl ∧ kd = 2 ∧ bn = 1 ∧ z ≠ 0) ∨ (A ∧ kd = fl ∧ kd = 2 ∧ bn = 1 ∧ z = 0 ∧ b = true) ∨ (A ∧ kd = fl ∧ kd = 2 ∧ bn = 1 ∧ z = 0 ∧ b = false) ∨ (A ∧ kd = fl ∧ kd ≠ 2 ∧ b = false) ∨ (A ∧ kd = fl ∧ kd ≠ 2 ∧ b = true ∧ kd ≠ 0) ∨ (A ∧ kd = fl ∧ kd ≠ 2 ∧ b = true ∧ kd = 0) ∨ ¬A := by
  by_cases a : A
  · by_cases h1 : kd = fl
    · by_cases h2 : kd = 2
      · by_cases h3 : bn = 1
        · by_cases h4 : z = 0
          · cases b
            · exact .inr (.inr (.inr (.inr (.inl ⟨a, h1, h2, h3, h4, rfl⟩))))
            · exact .inr (.inr (.inr (.inl ⟨a, h1, h2, h3, h4, rfl⟩)))
          · exact .inr (.inr (.inl ⟨a, h1, h2, h3, h4⟩))
        · exact .inr (.inl ⟨a, h1, h2, h3⟩)
      · cases b
        · exact .inr (.inr (.inr (.inr (.inr (.inl ⟨a, h1, h2, rfl⟩)))))
        · by_cases h5 : kd = 0
          · exact .inr (.inr (.inr (.inr (.inr (.inr (.inr (.inl ⟨a, h1, h2, rfl, h5⟩)))))))
          · exact .inr (.inr (.inr (.inr (.inr (.inr (.inl ⟨a, h1, h2, rfl, h5⟩))))))
    · exact .inl ⟨a, h1⟩
  · exact .inr (.inr (.inr (.inr (.inr (.inr (.inr (.inr a)))))))
section
variable (sA : Option Addr) (ns sc : Nat) (iA : Option Addr) (m ic : Nat) (fl : Int) (dp : Int) (w : World)
theorem chk_a (h : dp = 0) : Calls Try.prog 95 #[(.agg #[.slice sA ns sc, .slice iA m ic, .int .i64 fl]), .int .i64 dp] w fun e w' => e = .returned (.int .i64 1) ∧ Ext w w' := by
  have hF := pl_flat sA ns sc iA m ic fl
  have E := Ext.refl w
  go_enter Try.func95, Try.ntmps95
  have TB2 : True := trivial
  go_wp2_with (clear TB2; refine boxsP (v := (.agg #[.slice sA ns sc, .slice iA m ic, .int .i64 fl])) rfl rfl rfl hF ?_; intro B2 w2 bB2 cB2 XB2 LB2 RB2; have z1 := XB2.size; replace E := E.trans XB2; have cB2_0 := lay_cell LB2 (j := 0) rfl; have cB2_1 := lay_cell LB2 (j := 1) rfl; have cB2_2 := lay_cell LB2 (j := 2) rfl; clear LB2 RB2)
  go_ret
  exact ⟨rfl, E⟩
theorem chk_b (h : (dp == 0) = false) (h2 : fl < 0) : Calls Try.prog 95 #[(.agg #[.slice sA ns sc, .slice iA m ic, .int .i64 fl]), .int .i64 dp] w fun e w' => e = .returned (.int .i64 1) ∧ Ext w w' := by
  have hF := pl_flat sA ns sc iA m ic fl
  have E := Ext.refl w
  go_enter Try.func95, Try.ntmps95
  have TB2 : True := trivial
  go_wp2_with (clear TB2; refine boxsP (v := (.agg #[.slice sA ns sc, .slice iA m ic, .int .i64 fl])) rfl rfl rfl hF ?_; intro B2 w2 bB2 cB2 XB2 LB2 RB2; have z1 := XB2.size; replace E := E.trans XB2; have cB2_0 := lay_cell LB2 (j := 0) rfl; have cB2_1 := lay_cell LB2 (j := 1) rfl; have cB2_2 := lay_cell LB2 (j := 2) rfl; clear LB2 RB2)
  go_ret
  exact ⟨rfl, E⟩
theorem chk_c (h : (dp == 0) = false) (h2 : ¬ fl < 0) (h3 : 2 < fl) : Calls Try.prog 95 #[(.agg #[.slice sA ns sc, .slice iA m ic, .int .i64 fl]), .int .i64 dp] w fun e w' => e = .returned (.int .i64 1) ∧ Ext w w' := by
  have hF := pl_flat sA ns sc iA m ic fl
  have E := Ext.refl w
  go_enter Try.func95, Try.ntmps95
  have TB2 : True := trivial
  go_wp2_with (clear TB2; refine boxsP (v := (.agg #[.slice sA ns sc, .slice iA m ic, .int .i64 fl])) rfl rfl rfl hF ?_; intro B2 w2 bB2 cB2 XB2 LB2 RB2; have z1 := XB2.size; replace E := E.trans XB2; have cB2_0 := lay_cell LB2 (j := 0) rfl; have cB2_1 := lay_cell LB2 (j := 1) rfl; have cB2_2 := lay_cell LB2 (j := 2) rfl; clear LB2 RB2)
  go_ret
  exact ⟨rfl, E⟩
theorem chk_d (h : (dp == 0) = false) (h2 : ¬ fl < 0) (h3 : ¬ 2 < fl) (pv : Nat) (pe : Int) (cp : ∀ w', Ext w w' → Calls Try.prog 98 #[.slice sA ns sc, .int .i64 1048576] w' fun e w2 => e = .returned (.tuple #[.int .i64 (pv : Int), .int .i64 pe]) ∧ Ext w' w2) (h4 : (pe != 0) = true) : Calls Try.prog 95 #[(.agg #[.slice sA ns sc, .slice iA m ic, .int .i64 fl]), .int .i64 dp] w fun e w' => e = .returned (.int .i64 pe) ∧ Ext w w' := by
  have hF := pl_flat sA ns sc iA m ic fl
  have E := Ext.refl w
  go_enter Try.func95, Try.ntmps95
  have TB2 : True := trivial
  go_wp2_with (clear TB2; refine boxsP (v := (.agg #[.slice sA ns sc, .slice iA m ic, .int .i64 fl])) rfl rfl rfl hF ?_; intro B2 w2 bB2 cB2 XB2 LB2 RB2; have z1 := XB2.size; replace E := E.trans XB2; have cB2_0 := lay_cell LB2 (j := 0) rfl; have cB2_1 := lay_cell LB2 (j := 1) rfl; have cB2_2 := lay_cell LB2 (j := 2) rfl; clear LB2 RB2)
  refine (cp _ E).mono ?_
  rintro e w26 ⟨rfl, x⟩
  have z2 := x.size
  replace E := E.trans x
  replace cB2_0 := cell_ext (x) cB2_0
  replace cB2_1 := cell_ext (x) cB2_1
  replace cB2_2 := cell_ext (x) cB2_2
  clear x
  go_wp2_with fail
  go_ret
  exact ⟨rfl, E⟩
theorem chk_e (h : (dp == 0) = false) (h2 : ¬ fl < 0) (h3 : ¬ 2 < fl) (pv : Nat) (pe : Int) (cp : ∀ w', Ext w w' → Calls Try.prog 98 #[.slice sA ns sc, .int .i64 1048576] w' fun e w2 => e = .returned (.tuple #[.int .i64 (pv : Int), .int .i64 pe]) ∧ Ext w' w2) (h4 : (pe != 0) = false) (h5 : ((pv : Int) != (m : Int)) = true) : Calls Try.prog 95 #[(.agg #[.slice sA ns sc, .slice iA m ic, .int .i64 fl]), .int .i64 dp] w fun e w' => e = .returned (.int .i64 23) ∧ Ext w w' := by
  have hF := pl_flat sA ns sc iA m ic fl
  have E := Ext.refl w
  go_enter Try.func95, Try.ntmps95
  have TB2 : True := trivial
  go_wp2_with (clear TB2; refine boxsP (v := (.agg #[.slice sA ns sc, .slice iA m ic, .int .i64 fl])) rfl rfl rfl hF ?_; intro B2 w2 bB2 cB2 XB2 LB2 RB2; have z1 := XB2.size; replace E := E.trans XB2; have cB2_0 := lay_cell LB2 (j := 0) rfl; have cB2_1 := lay_cell LB2 (j := 1) rfl; have cB2_2 := lay_cell LB2 (j := 2) rfl; clear LB2 RB2)
  refine (cp _ E).mono ?_
  rintro e w26 ⟨rfl, x⟩
  have z2 := x.size
  replace E := E.trans x
  replace cB2_0 := cell_ext (x) cB2_0
  replace cB2_1 := cell_ext (x) cB2_1
  replace cB2_2 := cell_ext (x) cB2_2
  clear x
  go_wp2_with fail
  go_ret
  exact ⟨rfl, E⟩
theorem chk_f (h : (dp == 0) = false) (h2 : ¬ fl < 0) (h3 : ¬ 2 < fl) (pv : Nat) (pe : Int) (cp : ∀ w', Ext w w' → Calls Try.prog 98 #[.slice sA ns sc, .int .i64 1048576] w' fun e w2 => e = .returned (.tuple #[.int .i64 (pv : Int), .int .i64 pe]) ∧ Ext w' w2) (h4 : (pe != 0) = false) (h5 : ((pv : Int) != (m : Int)) = false) (hd : 1 ≤ dp ∧ dp ≤ 40) (hm2 : m ≤ 1048576) (IT : Nat → It) (ZS : Nat → Int) (res : Int) (fin1 : Bool)
    (HI : Hid (∀ w', Ext w w' → ∀ k, k < m → ∃ a, iA = some a ∧ ItAt w' (a.add (k * 4)) (IT k)))
    (HB : Hid (∀ k, k < m → (IT k).kind = 2 → (IT k).kind = fl → (IT k).bn = 1 → ∃ b q, (IT k).bA = some b ∧ ∀ w', Ext w w' → PlOf w' b q ∧ Calls Try.prog 95 #[.agg #[.slice q.sA q.sh.length q.sc, .slice q.iA q.its.length q.ic, .int .i64 q.fill], .int .i64 (dp - 1)] w' fun e w2 => e = .returned (.int .i64 (ZS k)) ∧ Ext w' w2))
    (HR1 : Hid (∀ k, k ≤ m → chE fl IT ZS k ≠ 0 → res = chE fl IT ZS k)) (HR2 : Hid (chE fl IT ZS m = 0 → chF IT m = fin1 ∧ res = if fin1 then 0 else 1)) : Calls Try.prog 95 #[(.agg #[.slice sA ns sc, .slice iA m ic, .int .i64 fl]), .int .i64 dp] w fun e w' => e = .returned (.int .i64 res) ∧ Ext w w' := by
  have hF := pl_flat sA ns sc iA m ic fl
  have E := Ext.refl w
  have HE0 : Hid (chE fl IT ZS 0 = 0) := rfl
  have HE1 : Hid (∀ k, chE fl IT ZS k = 0 → chE fl IT ZS (k + 1) = stE fl (IT k) (ZS k)) := fun k h => by show (if _ then _ else _) = _; rw [if_neg (by rw [h]; decide)]
  have HF0 : Hid (chF IT 0 = true) := rfl
  have HF1 : Hid (∀ k, chF IT (k + 1) = (chF IT k && (decide ((IT k).kind ≠ 0) || decide (fin (IT k).num)))) := fun k => rfl
  obtain ⟨EF, hEF⟩ : ∃ EF : Nat → Int, chE fl IT ZS = EF := ⟨_, rfl⟩
  obtain ⟨FF, hFF⟩ : ∃ FF : Nat → Bool, chF IT = FF := ⟨_, rfl⟩
  rw [hEF] at HE0 HE1 HR1 HR2
  rw [hFF] at HF0 HF1 HR2
  clear hEF hFF
  have hd1 := hd.1
  have hd2 := hd.2
  clear hd
  have cf : ∀ x w, Calls Try.prog 77 #[.float .f64 x] w fun e w' => e = .returned (.bool (decide (fin x))) ∧ Ext w w' := fun x w => (finite_any x w).mono fun e w2 h => ⟨h.1, h.2 ▸ Ext.refl _⟩
  cases fin1
  · go_enter Try.func95, Try.ntmps95
    have TB2 : True := trivial
    go_wp2_with (clear TB2; refine boxsP (v := (.agg #[.slice sA ns sc, .slice iA m ic, .int .i64 fl])) rfl rfl rfl hF ?_; intro B2 w2 bB2 cB2 XB2 LB2 RB2; have z1 := XB2.size; replace E := E.trans XB2; have cB2_0 := lay_cell LB2 (j := 0) rfl; have cB2_1 := lay_cell LB2 (j := 1) rfl; have cB2_2 := lay_cell LB2 (j := 2) rfl; clear LB2 RB2)
    refine (cp _ E).mono ?_
    rintro e w26 ⟨rfl, x⟩
    have z2 := x.size
    replace E := E.trans x
    replace cB2_0 := cell_ext (x) cB2_0
    replace cB2_1 := cell_ext (x) cB2_1
    replace cB2_2 := cell_ext (x) cB2_2
    clear x
    go_wp2_with fail
    go_loopw [7, 8] (fun z i wr => ∃ k : Nat, k ≤ m ∧ z = .bool (FF k) ∧ i = .int .i64 k ∧ EF k = 0 ∧ Ext w26 wr) (fun _ i _ => m - (intOf i).toNat)
    case atStart => exact ⟨0, Nat.zero_le _, by rw [HF0.out], rfl, HE0.out, Ext.refl _⟩
    case round =>
      obtain ⟨k, hk, rfl, rfl, hef, HX⟩ := hrel
      have HU := Lib.hid hef
      clear hef
      have z3 := HX.size
      replace E := E.trans HX
      replace cB2_0 := cell_ext (HX) cB2_0
      replace cB2_1 := cell_ext (HX) cB2_1
      replace cB2_2 := cell_ext (HX) cB2_2
      rcases split_d (k < m) (IT k).kind fl (IT k).bn (ZS k) (FF k) with ⟨hlt, h1⟩ | ⟨hlt, h1, h2, h3⟩ | ⟨hlt, h1, h2, h3, h4⟩ | ⟨hlt, h1, h2, h3, h4, h5⟩ | ⟨hlt, h1, h2, h3, h4, h5⟩ | ⟨hlt, h1, h2, h5⟩ | ⟨hlt, h1, h2, h5, h6⟩ | ⟨hlt, h1, h2, h5, h6⟩ | hlt
      · obtain ⟨a, ea, hI⟩ := HI.out _ E k hlt
        subst ea
        have D0 := hI.c0
        have D1 := hI.c1
        have D2 := hI.c2
        have D3 := hI.c3
        have hHE := HE1.out k HU.out
        have hHF := HF1.out k
        clear hI
        generalize ZS k = zk at *
        generalize hx : IT k = x at *
        clear hx
        obtain ⟨kd, nm, ch, bA, bn, bc⟩ := x
        simp only [stE] at *
        have e53 : (kd != fl) = true := by simpa using h1
        rw [if_pos (.inl h1)] at hHE
        clear hHF h1
        have HEK : Hid (EF (k + 1) = 1) := hHE
        clear hHE
        generalize FF k = fk at *
        have TB9 : True := trivial
        have TG5 : True := trivial
        go_wp2_with (first | (clear TB9; refine allocsI rfl rfl ?_; intro B9 w9 bB9 cB9 XB9 LB9 RB9; have z4 := XB9.size; replace E := E.trans XB9; replace cB2_0 := cell_ext (XB9) cB2_0; replace cB2_1 := cell_ext (XB9) cB2_1; replace cB2_2 := cell_ext (XB9) cB2_2; replace HX := HX.trans XB9; have cB9_0 := lay_cell LB9 (j := 0) rfl; have cB9_1 := lay_cell LB9 (j := 1) rfl; have cB9_3 := lay_cell LB9 (j := 3) rfl; clear LB9) | (clear TG5; have hRl := (RB9).lt (Nat.zero_lt_succ _); refine storesI (B := B9) rfl rfl rfl (v := (.agg #[.int .i64 kd, .float .f64 nm, .int .i32 ch, .slice bA bn bc])) rfl RB9 (it_flat kd nm ch bA bn bc) ?_; clear cB9_0; clear cB9_1; clear cB9_3; intro s5 G5 LB9 RQ; have z6 := G5.size; replace E := grown_ext E G5 (by omega); replace cB2_0 := cell_grown (G5) cB2_0 (by show B2 ≠ _; omega); replace cB2_1 := cell_grown (G5) cB2_1 (by show B2 ≠ _; omega); replace cB2_2 := cell_grown (G5) cB2_2 (by show B2 ≠ _; omega); replace HX := grown_ext HX G5 (by omega); clear RB9; have RB9 := RQ; clear RQ hRl; have cB9_0 := lay_cell LB9 (j := 0) rfl; have cB9_1 := lay_cell LB9 (j := 1) rfl; have cB9_3 := lay_cell LB9 (j := 3) rfl; clear LB9))
        go_ret
        exact ⟨by rw [HR1.out (k + 1) (by omega) (by rw [HEK.out]; decide), HEK.out]; rfl, E⟩
      · obtain ⟨a, ea, hI⟩ := HI.out _ E k hlt
        subst ea
        have D0 := hI.c0
        have D1 := hI.c1
        have D2 := hI.c2
        have D3 := hI.c3
        have hHE := HE1.out k HU.out
        have hHF := HF1.out k
        clear hI
        generalize ZS k = zk at *
        generalize hx : IT k = x at *
        clear hx
        obtain ⟨kd, nm, ch, bA, bn, bc⟩ := x
        simp only [stE] at *
        have e53 : (kd != fl) = false := by simpa using h1
        have e57 : (kd == 2) = true := by simpa using h2
        have e62 : ((bn : Int) != 1) = true := by simpa using (show ¬ (bn : Int) = 1 by omega)
        rw [if_pos (.inr ⟨h2, h3⟩)] at hHE
        clear hHF h1 h2
        have HEK : Hid (EF (k + 1) = 1) := hHE
        clear hHE
        generalize FF k = fk at *
        have TB9 : True := trivial
        have TG8 : True := trivial
        go_wp2_with (first | (clear TB9; refine allocsI rfl rfl ?_; intro B9 w9 bB9 cB9 XB9 LB9 RB9; have z7 := XB9.size; replace E := E.trans XB9; replace cB2_0 := cell_ext (XB9) cB2_0; replace cB2_1 := cell_ext (XB9) cB2_1; replace cB2_2 := cell_ext (XB9) cB2_2; replace HX := HX.trans XB9; have cB9_0 := lay_cell LB9 (j := 0) rfl; have cB9_1 := lay_cell LB9 (j := 1) rfl; have cB9_3 := lay_cell LB9 (j := 3) rfl; clear LB9) | (clear TG8; have hRl := (RB9).lt (Nat.zero_lt_succ _); refine storesI (B := B9) rfl rfl rfl (v := (.agg #[.int .i64 kd, .float .f64 nm, .int .i32 ch, .slice bA bn bc])) rfl RB9 (it_flat kd nm ch bA bn bc) ?_; clear cB9_0; clear cB9_1; clear cB9_3; intro s8 G8 LB9 RQ; have z9 := G8.size; replace E := grown_ext E G8 (by omega); replace cB2_0 := cell_grown (G8) cB2_0 (by show B2 ≠ _; omega); replace cB2_1 := cell_grown (G8) cB2_1 (by show B2 ≠ _; omega); replace cB2_2 := cell_grown (G8) cB2_2 (by show B2 ≠ _; omega); replace HX := grown_ext HX G8 (by omega); clear RB9; have RB9 := RQ; clear RQ hRl; have cB9_0 := lay_cell LB9 (j := 0) rfl; have cB9_1 := lay_cell LB9 (j := 1) rfl; have cB9_3 := lay_cell LB9 (j := 3) rfl; clear LB9))
        go_ret
        exact ⟨by rw [HR1.out (k + 1) (by omega) (by rw [HEK.out]; decide), HEK.out]; rfl, E⟩
      · obtain ⟨b, q, eb, hPC⟩ := HB.out k hlt h2 h1 h3
        obtain ⟨hP, -⟩ := hPC _ E
        have D4 := hP.c0
        have D5 := hP.c1
        have D6 := hP.c2
        have hbb := World.block_lt_of_cell? _ _ D4
        have cs := fun w' hx => (hPC w' hx).2
        clear hPC hP
        obtain ⟨a, ea, hI⟩ := HI.out _ E k hlt
        subst ea
        have D0 := hI.c0
        have D1 := hI.c1
        have D2 := hI.c2
        have D3 := hI.c3
        have hHE := HE1.out k HU.out
        have hHF := HF1.out k
        clear hI
        generalize ZS k = zk at *
        generalize hx : IT k = x at *
        clear hx
        obtain ⟨kd, nm, ch, bA, bn, bc⟩ := x
        simp only [stE] at *
        try simp only at eb h1 h2 h3
        subst h3
        rw [eb] at D3
        have e53 : (kd != fl) = false := by simpa using h1
        have e57 : (kd == 2) = true := by simpa using h2
        have e76 : (zk != 0) = true := by simpa using h4
        rw [if_neg (fun h => h.elim (fun h => h h1) (fun h => h.2 rfl)), if_pos h2] at hHE
        have HZ := Lib.hid h4
        clear hHF h1 h2 h4
        have HEK : Hid (EF (k + 1) = zk) := hHE
        clear hHE
        generalize FF k = fk at *
        have TB9 : True := trivial
        have TG11 : True := trivial
        go_wp2_with (first | (clear TB9; refine allocsI rfl rfl ?_; intro B9 w9 bB9 cB9 XB9 LB9 RB9; have z10 := XB9.size; replace E := E.trans XB9; replace cB2_0 := cell_ext (XB9) cB2_0; replace cB2_1 := cell_ext (XB9) cB2_1; replace cB2_2 := cell_ext (XB9) cB2_2; replace HX := HX.trans XB9; replace D4 := cell_ext (XB9) D4; replace D5 := cell_ext (XB9) D5; replace D6 := cell_ext (XB9) D6; have cB9_0 := lay_cell LB9 (j := 0) rfl; have cB9_1 := lay_cell LB9 (j := 1) rfl; have cB9_3 := lay_cell LB9 (j := 3) rfl; clear LB9) | (clear TG11; have hRl := (RB9).lt (Nat.zero_lt_succ _); refine storesI (B := B9) rfl rfl rfl (v := (.agg #[.int .i64 kd, .float .f64 nm, .int .i32 ch, .slice (some b) 1 bc])) rfl RB9 (it_flat kd nm ch (some b) 1 bc) ?_; clear cB9_0; clear cB9_1; clear cB9_3; intro s11 G11 LB9 RQ; have z12 := G11.size; replace E := grown_ext E G11 (by omega); replace cB2_0 := cell_grown (G11) cB2_0 (by show B2 ≠ _; omega); replace cB2_1 := cell_grown (G11) cB2_1 (by show B2 ≠ _; omega); replace cB2_2 := cell_grown (G11) cB2_2 (by show B2 ≠ _; omega); replace HX := grown_ext HX G11 (by omega); replace D4 := cell_grown (G11) D4 (by first | omega | (dsimp only; omega)); replace D5 := cell_grown (G11) D5 (by first | omega | (dsimp only; omega)); replace D6 := cell_grown (G11) D6 (by first | omega | (dsimp only; omega)); clear RB9; have RB9 := RQ; clear RQ hRl; have cB9_0 := lay_cell LB9 (j := 0) rfl; have cB9_1 := lay_cell LB9 (j := 1) rfl; have cB9_3 := lay_cell LB9 (j := 3) rfl; clear LB9))
        refine (cs _ E).mono ?_
        rintro e w74 ⟨rfl, x⟩
        have z13 := x.size
        replace E := E.trans x
        replace cB2_0 := cell_ext (x) cB2_0
        replace cB2_1 := cell_ext (x) cB2_1
        replace cB2_2 := cell_ext (x) cB2_2
        replace HX := HX.trans x
        replace D4 := cell_ext (x) D4
        replace D5 := cell_ext (x) D5
        replace D6 := cell_ext (x) D6
        replace RB9 := RB9.ext x
        replace cB9_0 := cell_ext (x) cB9_0
        replace cB9_1 := cell_ext (x) cB9_1
        replace cB9_3 := cell_ext (x) cB9_3
        clear x
        go_wp2_with fail
        go_ret
        exact ⟨by rw [HR1.out (k + 1) (by omega) (by rw [HEK.out]; exact HZ.out), HEK.out]; rfl, E⟩
      · obtain ⟨b, q, eb, hPC⟩ := HB.out k hlt h2 h1 h3
        obtain ⟨hP, -⟩ := hPC _ E
        have D4 := hP.c0
        have D5 := hP.c1
        have D6 := hP.c2
        have hbb := World.block_lt_of_cell? _ _ D4
        have cs := fun w' hx => (hPC w' hx).2
        clear hPC hP
        obtain ⟨a, ea, hI⟩ := HI.out _ E k hlt
        subst ea
        have D0 := hI.c0
        have D1 := hI.c1
        have D2 := hI.c2
        have D3 := hI.c3
        have hHE := HE1.out k HU.out
        have hHF := HF1.out k
        clear hI
        generalize ZS k = zk at *
        generalize hx : IT k = x at *
        clear hx
        obtain ⟨kd, nm, ch, bA, bn, bc⟩ := x
        simp only [stE] at *
        try simp only at eb h1 h2 h3
        subst h3
        rw [eb] at D3
        have e53 : (kd != fl) = false := by simpa using h1
        have e57 : (kd == 2) = true := by simpa using h2
        have e82 : (kd != 0) = true := by simpa using (show ¬ kd = 0 by omega)
        subst h4
        rw [if_neg (fun h => h.elim (fun h => h h1) (fun h => h.2 rfl)), if_pos h2] at hHE
        rw [h5, decide_eq_true (show ¬ kd = 0 by omega)] at hHF
        have HFK : Hid (FF (k + 1) = true) := hHF
        rw [h5]
        clear hHF h1 h2 h5
        have HEK : Hid (EF (k + 1) = 0) := hHE
        clear hHE
        have TB9 : True := trivial
        have TG15 : True := trivial
        go_wp2_with (first | (clear TB9; refine allocsI rfl rfl ?_; intro B9 w9 bB9 cB9 XB9 LB9 RB9; have z14 := XB9.size; replace E := E.trans XB9; replace cB2_0 := cell_ext (XB9) cB2_0; replace cB2_1 := cell_ext (XB9) cB2_1; replace cB2_2 := cell_ext (XB9) cB2_2; replace HX := HX.trans XB9; replace D4 := cell_ext (XB9) D4; replace D5 := cell_ext (XB9) D5; replace D6 := cell_ext (XB9) D6; have cB9_0 := lay_cell LB9 (j := 0) rfl; have cB9_1 := lay_cell LB9 (j := 1) rfl; have cB9_3 := lay_cell LB9 (j := 3) rfl; clear LB9) | (clear TG15; have hRl := (RB9).lt (Nat.zero_lt_succ _); refine storesI (B := B9) rfl rfl rfl (v := (.agg #[.int .i64 kd, .float .f64 nm, .int .i32 ch, .slice (some b) 1 bc])) rfl RB9 (it_flat kd nm ch (some b) 1 bc) ?_; clear cB9_0; clear cB9_1; clear cB9_3; intro s15 G15 LB9 RQ; have z16 := G15.size; replace E := grown_ext E G15 (by omega); replace cB2_0 := cell_grown (G15) cB2_0 (by show B2 ≠ _; omega); replace cB2_1 := cell_grown (G15) cB2_1 (by show B2 ≠ _; omega); replace cB2_2 := cell_grown (G15) cB2_2 (by show B2 ≠ _; omega); replace HX := grown_ext HX G15 (by omega); replace D4 := cell_grown (G15) D4 (by first | omega | (dsimp only; omega)); replace D5 := cell_grown (G15) D5 (by first | omega | (dsimp only; omega)); replace D6 := cell_grown (G15) D6 (by first | omega | (dsimp only; omega)); clear RB9; have RB9 := RQ; clear RQ hRl; have cB9_0 := lay_cell LB9 (j := 0) rfl; have cB9_1 := lay_cell LB9 (j := 1) rfl; have cB9_3 := lay_cell LB9 (j := 3) rfl; clear LB9))
        refine (cs _ E).mono ?_
        rintro e w74 ⟨rfl, x⟩
        have z17 := x.size
        replace E := E.trans x
        replace cB2_0 := cell_ext (x) cB2_0
        replace cB2_1 := cell_ext (x) cB2_1
        replace cB2_2 := cell_ext (x) cB2_2
        replace HX := HX.trans x
        replace D4 := cell_ext (x) D4
        replace D5 := cell_ext (x) D5
        replace D6 := cell_ext (x) D6
        replace RB9 := RB9.ext x
        replace cB9_0 := cell_ext (x) cB9_0
        replace cB9_1 := cell_ext (x) cB9_1
        replace cB9_3 := cell_ext (x) cB9_3
        clear x
        go_wp2_with fail
        exact ⟨⟨k + 1, by omega, by rw [HFK.out], by go_num, HEK.out, HX⟩, by simp [intOf]; omega⟩
      · obtain ⟨b, q, eb, hPC⟩ := HB.out k hlt h2 h1 h3
        obtain ⟨hP, -⟩ := hPC _ E
        have D4 := hP.c0
        have D5 := hP.c1
        have D6 := hP.c2
        have hbb := World.block_lt_of_cell? _ _ D4
        have cs := fun w' hx => (hPC w' hx).2
        clear hPC hP
        obtain ⟨a, ea, hI⟩ := HI.out _ E k hlt
        subst ea
        have D0 := hI.c0
        have D1 := hI.c1
        have D2 := hI.c2
        have D3 := hI.c3
        have hHE := HE1.out k HU.out
        have hHF := HF1.out k
        clear hI
        generalize ZS k = zk at *
        generalize hx : IT k = x at *
        clear hx
        obtain ⟨kd, nm, ch, bA, bn, bc⟩ := x
        simp only [stE] at *
        try simp only at eb h1 h2 h3
        subst h3
        rw [eb] at D3
        have e53 : (kd != fl) = false := by simpa using h1
        have e57 : (kd == 2) = true := by simpa using h2
        have e82 : (kd != 0) = true := by simpa using (show ¬ kd = 0 by omega)
        subst h4
        rw [if_neg (fun h => h.elim (fun h => h h1) (fun h => h.2 rfl)), if_pos h2] at hHE
        rw [h5, decide_eq_true (show ¬ kd = 0 by omega)] at hHF
        have HFK : Hid (FF (k + 1) = false) := hHF
        rw [h5]
        clear hHF h1 h2 h5
        have HEK : Hid (EF (k + 1) = 0) := hHE
        clear hHE
        have TB9 : True := trivial
        have TG19 : True := trivial
        go_wp2_with (first | (clear TB9; refine allocsI rfl rfl ?_; intro B9 w9 bB9 cB9 XB9 LB9 RB9; have z18 := XB9.size; replace E := E.trans XB9; replace cB2_0 := cell_ext (XB9) cB2_0; replace cB2_1 := cell_ext (XB9) cB2_1; replace cB2_2 := cell_ext (XB9) cB2_2; replace HX := HX.trans XB9; replace D4 := cell_ext (XB9) D4; replace D5 := cell_ext (XB9) D5; replace D6 := cell_ext (XB9) D6; have cB9_0 := lay_cell LB9 (j := 0) rfl; have cB9_1 := lay_cell LB9 (j := 1) rfl; have cB9_3 := lay_cell LB9 (j := 3) rfl; clear LB9) | (clear TG19; have hRl := (RB9).lt (Nat.zero_lt_succ _); refine storesI (B := B9) rfl rfl rfl (v := (.agg #[.int .i64 kd, .float .f64 nm, .int .i32 ch, .slice (some b) 1 bc])) rfl RB9 (it_flat kd nm ch (some b) 1 bc) ?_; clear cB9_0; clear cB9_1; clear cB9_3; intro s19 G19 LB9 RQ; have z20 := G19.size; replace E := grown_ext E G19 (by omega); replace cB2_0 := cell_grown (G19) cB2_0 (by show B2 ≠ _; omega); replace cB2_1 := cell_grown (G19) cB2_1 (by show B2 ≠ _; omega); replace cB2_2 := cell_grown (G19) cB2_2 (by show B2 ≠ _; omega); replace HX := grown_ext HX G19 (by omega); replace D4 := cell_grown (G19) D4 (by first | omega | (dsimp only; omega)); replace D5 := cell_grown (G19) D5 (by first | omega | (dsimp only; omega)); replace D6 := cell_grown (G19) D6 (by first | omega | (dsimp only; omega)); clear RB9; have RB9 := RQ; clear RQ hRl; have cB9_0 := lay_cell LB9 (j := 0) rfl; have cB9_1 := lay_cell LB9 (j := 1) rfl; have cB9_3 := lay_cell LB9 (j := 3) rfl; clear LB9))
        refine (cs _ E).mono ?_
        rintro e w74 ⟨rfl, x⟩
        have z21 := x.size
        replace E := E.trans x
        replace cB2_0 := cell_ext (x) cB2_0
        replace cB2_1 := cell_ext (x) cB2_1
        replace cB2_2 := cell_ext (x) cB2_2
        replace HX := HX.trans x
        replace D4 := cell_ext (x) D4
        replace D5 := cell_ext (x) D5
        replace D6 := cell_ext (x) D6
        replace RB9 := RB9.ext x
        replace cB9_0 := cell_ext (x) cB9_0
        replace cB9_1 := cell_ext (x) cB9_1
        replace cB9_3 := cell_ext (x) cB9_3
        clear x
        go_wp2_with fail
        exact ⟨⟨k + 1, by omega, by rw [HFK.out], by go_num, HEK.out, HX⟩, by simp [intOf]; omega⟩
      · obtain ⟨a, ea, hI⟩ := HI.out _ E k hlt
        subst ea
        have D0 := hI.c0
        have D1 := hI.c1
        have D2 := hI.c2
        have D3 := hI.c3
        have hHE := HE1.out k HU.out
        have hHF := HF1.out k
        clear hI
        generalize ZS k = zk at *
        generalize hx : IT k = x at *
        clear hx
        obtain ⟨kd, nm, ch, bA, bn, bc⟩ := x
        simp only [stE] at *
        have e53 : (kd != fl) = false := by simpa using h1
        have e57 : (kd == 2) = false := by simpa using h2
        rw [if_neg (fun h => h.elim (fun h => h h1) (fun h => h2 h.1)), if_neg h2] at hHE
        rw [h5, Bool.false_and] at hHF
        have HFK : Hid (FF (k + 1) = false) := hHF
        rw [h5]
        clear hHF h1 h2 h5
        have HEK : Hid (EF (k + 1) = 0) := hHE
        clear hHE
        have TB9 : True := trivial
        have TG23 : True := trivial
        go_wp2_with (first | (clear TB9; refine allocsI rfl rfl ?_; intro B9 w9 bB9 cB9 XB9 LB9 RB9; have z22 := XB9.size; replace E := E.trans XB9; replace cB2_0 := cell_ext (XB9) cB2_0; replace cB2_1 := cell_ext (XB9) cB2_1; replace cB2_2 := cell_ext (XB9) cB2_2; replace HX := HX.trans XB9; have cB9_0 := lay_cell LB9 (j := 0) rfl; have cB9_1 := lay_cell LB9 (j := 1) rfl; have cB9_3 := lay_cell LB9 (j := 3) rfl; clear LB9) | (clear TG23; have hRl := (RB9).lt (Nat.zero_lt_succ _); refine storesI (B := B9) rfl rfl rfl (v := (.agg #[.int .i64 kd, .float .f64 nm, .int .i32 ch, .slice bA bn bc])) rfl RB9 (it_flat kd nm ch bA bn bc) ?_; clear cB9_0; clear cB9_1; clear cB9_3; intro s23 G23 LB9 RQ; have z24 := G23.size; replace E := grown_ext E G23 (by omega); replace cB2_0 := cell_grown (G23) cB2_0 (by show B2 ≠ _; omega); replace cB2_1 := cell_grown (G23) cB2_1 (by show B2 ≠ _; omega); replace cB2_2 := cell_grown (G23) cB2_2 (by show B2 ≠ _; omega); replace HX := grown_ext HX G23 (by omega); clear RB9; have RB9 := RQ; clear RQ hRl; have cB9_0 := lay_cell LB9 (j := 0) rfl; have cB9_1 := lay_cell LB9 (j := 1) rfl; have cB9_3 := lay_cell LB9 (j := 3) rfl; clear LB9))
        exact ⟨⟨k + 1, by omega, by rw [HFK.out], by go_num, HEK.out, HX⟩, by simp [intOf]; omega⟩
      · obtain ⟨a, ea, hI⟩ := HI.out _ E k hlt
        subst ea
        have D0 := hI.c0
        have D1 := hI.c1
        have D2 := hI.c2
        have D3 := hI.c3
        have hHE := HE1.out k HU.out
        have hHF := HF1.out k
        clear hI
        generalize ZS k = zk at *
        generalize hx : IT k = x at *
        clear hx
        obtain ⟨kd, nm, ch, bA, bn, bc⟩ := x
        simp only [stE] at *
        have e53 : (kd != fl) = false := by simpa using h1
        have e57 : (kd == 2) = false := by simpa using h2
        rw [if_neg (fun h => h.elim (fun h => h h1) (fun h => h2 h.1)), if_neg h2] at hHE
        have e82 : (kd != 0) = true := by simpa using h6
        rw [h5, decide_eq_true h6] at hHF
        have HFK : Hid (FF (k + 1) = true) := hHF
        rw [h5]
        clear hHF h1 h2 h5 h6
        have HEK : Hid (EF (k + 1) = 0) := hHE
        clear hHE
        have TB9 : True := trivial
        have TG26 : True := trivial
        go_wp2_with (first | (clear TB9; refine allocsI rfl rfl ?_; intro B9 w9 bB9 cB9 XB9 LB9 RB9; have z25 := XB9.size; replace E := E.trans XB9; replace cB2_0 := cell_ext (XB9) cB2_0; replace cB2_1 := cell_ext (XB9) cB2_1; replace cB2_2 := cell_ext (XB9) cB2_2; replace HX := HX.trans XB9; have cB9_0 := lay_cell LB9 (j := 0) rfl; have cB9_1 := lay_cell LB9 (j := 1) rfl; have cB9_3 := lay_cell LB9 (j := 3) rfl; clear LB9) | (clear TG26; have hRl := (RB9).lt (Nat.zero_lt_succ _); refine storesI (B := B9) rfl rfl rfl (v := (.agg #[.int .i64 kd, .float .f64 nm, .int .i32 ch, .slice bA bn bc])) rfl RB9 (it_flat kd nm ch bA bn bc) ?_; clear cB9_0; clear cB9_1; clear cB9_3; intro s26 G26 LB9 RQ; have z27 := G26.size; replace E := grown_ext E G26 (by omega); replace cB2_0 := cell_grown (G26) cB2_0 (by show B2 ≠ _; omega); replace cB2_1 := cell_grown (G26) cB2_1 (by show B2 ≠ _; omega); replace cB2_2 := cell_grown (G26) cB2_2 (by show B2 ≠ _; omega); replace HX := grown_ext HX G26 (by omega); clear RB9; have RB9 := RQ; clear RQ hRl; have cB9_0 := lay_cell LB9 (j := 0) rfl; have cB9_1 := lay_cell LB9 (j := 1) rfl; have cB9_3 := lay_cell LB9 (j := 3) rfl; clear LB9))
        exact ⟨⟨k + 1, by omega, by rw [HFK.out], by go_num, HEK.out, HX⟩, by simp [intOf]; omega⟩
      · obtain ⟨a, ea, hI⟩ := HI.out _ E k hlt
        subst ea
        have D0 := hI.c0
        have D1 := hI.c1
        have D2 := hI.c2
        have D3 := hI.c3
        have hHE := HE1.out k HU.out
        have hHF := HF1.out k
        clear hI
        generalize ZS k = zk at *
        generalize hx : IT k = x at *
        clear hx
        obtain ⟨kd, nm, ch, bA, bn, bc⟩ := x
        simp only [stE] at *
        have e53 : (kd != fl) = false := by simpa using h1
        have e57 : (kd == 2) = false := by simpa using h2
        rw [if_neg (fun h => h.elim (fun h => h h1) (fun h => h2 h.1)), if_neg h2] at hHE
        have e82 : (kd != 0) = false := by simpa using h6
        rw [h5, decide_eq_false (fun h => h h6), Bool.true_and, Bool.false_or] at hHF
        have HFK : Hid (FF (k + 1) = decide (fin nm)) := hHF
        rw [h5]
        have cfx := fun w => cf nm w
        generalize decide (fin nm) = fb at *
        clear hHF h1 h2 h5 h6
        have HEK : Hid (EF (k + 1) = 0) := hHE
        clear hHE
        have TB9 : True := trivial
        have TG29 : True := trivial
        go_wp2_with (first | (clear TB9; refine allocsI rfl rfl ?_; intro B9 w9 bB9 cB9 XB9 LB9 RB9; have z28 := XB9.size; replace E := E.trans XB9; replace cB2_0 := cell_ext (XB9) cB2_0; replace cB2_1 := cell_ext (XB9) cB2_1; replace cB2_2 := cell_ext (XB9) cB2_2; replace HX := HX.trans XB9; have cB9_0 := lay_cell LB9 (j := 0) rfl; have cB9_1 := lay_cell LB9 (j := 1) rfl; have cB9_3 := lay_cell LB9 (j := 3) rfl; clear LB9) | (clear TG29; have hRl := (RB9).lt (Nat.zero_lt_succ _); refine storesI (B := B9) rfl rfl rfl (v := (.agg #[.int .i64 kd, .float .f64 nm, .int .i32 ch, .slice bA bn bc])) rfl RB9 (it_flat kd nm ch bA bn bc) ?_; clear cB9_0; clear cB9_1; clear cB9_3; intro s29 G29 LB9 RQ; have z30 := G29.size; replace E := grown_ext E G29 (by omega); replace cB2_0 := cell_grown (G29) cB2_0 (by show B2 ≠ _; omega); replace cB2_1 := cell_grown (G29) cB2_1 (by show B2 ≠ _; omega); replace cB2_2 := cell_grown (G29) cB2_2 (by show B2 ≠ _; omega); replace HX := grown_ext HX G29 (by omega); clear RB9; have RB9 := RQ; clear RQ hRl; have cB9_0 := lay_cell LB9 (j := 0) rfl; have cB9_1 := lay_cell LB9 (j := 1) rfl; have cB9_3 := lay_cell LB9 (j := 3) rfl; clear LB9 RB9))
        refine (cfx _).mono ?_
        rintro e w86 ⟨rfl, x⟩
        have z31 := x.size
        replace E := E.trans x
        replace cB2_0 := cell_ext (x) cB2_0
        replace cB2_1 := cell_ext (x) cB2_1
        replace cB2_2 := cell_ext (x) cB2_2
        replace HX := HX.trans x
        replace cB9_0 := cell_ext (x) cB9_0
        replace cB9_1 := cell_ext (x) cB9_1
        replace cB9_3 := cell_ext (x) cB9_3
        clear x
        go_wp2_with fail
        exact ⟨⟨k + 1, by omega, by rw [HFK.out], by go_num, HEK.out, HX⟩, by simp [intOf]; omega⟩
      · have hkm : k = m := by omega
        rw [hkm] at HU ⊢
        have hR := HR2.out HU.out
        rw [hR.1]
        have HRR := Lib.hid hR.2
        clear hkm hR HU
        go_wp2_with fail
        go_ret
        exact ⟨by rw [HRR.out]; rfl, E⟩
  · go_enter Try.func95, Try.ntmps95
    have TB2 : True := trivial
    go_wp2_with (clear TB2; refine boxsP (v := (.agg #[.slice sA ns sc, .slice iA m ic, .int .i64 fl])) rfl rfl rfl hF ?_; intro B2 w2 bB2 cB2 XB2 LB2 RB2; have z1 := XB2.size; replace E := E.trans XB2; have cB2_0 := lay_cell LB2 (j := 0) rfl; have cB2_1 := lay_cell LB2 (j := 1) rfl; have cB2_2 := lay_cell LB2 (j := 2) rfl; clear LB2 RB2)
    refine (cp _ E).mono ?_
    rintro e w26 ⟨rfl, x⟩
    have z2 := x.size
    replace E := E.trans x
    replace cB2_0 := cell_ext (x) cB2_0
    replace cB2_1 := cell_ext (x) cB2_1
    replace cB2_2 := cell_ext (x) cB2_2
    clear x
    go_wp2_with fail
    go_loopw [7, 8] (fun z i wr => ∃ k : Nat, k ≤ m ∧ z = .bool (FF k) ∧ i = .int .i64 k ∧ EF k = 0 ∧ Ext w26 wr) (fun _ i _ => m - (intOf i).toNat)
    case atStart => exact ⟨0, Nat.zero_le _, by rw [HF0.out], rfl, HE0.out, Ext.refl _⟩
    case round =>
      obtain ⟨k, hk, rfl, rfl, hef, HX⟩ := hrel
      have HU := Lib.hid hef
      clear hef
      have z3 := HX.size
      replace E := E.trans HX
      replace cB2_0 := cell_ext (HX) cB2_0
      replace cB2_1 := cell_ext (HX) cB2_1
      replace cB2_2 := cell_ext (HX) cB2_2
      rcases split_d (k < m) (IT k).kind fl (IT k).bn (ZS k) (FF k) with ⟨hlt, h1⟩ | ⟨hlt, h1, h2, h3⟩ | ⟨hlt, h1, h2, h3, h4⟩ | ⟨hlt, h1, h2, h3, h4, h5⟩ | ⟨hlt, h1, h2, h3, h4, h5⟩ | ⟨hlt, h1, h2, h5⟩ | ⟨hlt, h1, h2, h5, h6⟩ | ⟨hlt, h1, h2, h5, h6⟩ | hlt
      · obtain ⟨a, ea, hI⟩ := HI.out _ E k hlt
        subst ea
        have D0 := hI.c0
        have D1 := hI.c1
        have D2 := hI.c2
        have D3 := hI.c3
        have hHE := HE1.out k HU.out
        have hHF := HF1.out k
        clear hI
        generalize ZS k = zk at *
        generalize hx : IT k = x at *
        clear hx
        obtain ⟨kd, nm, ch, bA, bn, bc⟩ := x
        simp only [stE] at *
        have e53 : (kd != fl) = true := by simpa using h1
        rw [if_pos (.inl h1)] at hHE
        clear hHF h1
        have HEK : Hid (EF (k + 1) = 1) := hHE
        clear hHE
        generalize FF k = fk at *
        have TB9 : True := trivial
        have TG5 : True := trivial
        go_wp2_with (first | (clear TB9; refine allocsI rfl rfl ?_; intro B9 w9 bB9 cB9 XB9 LB9 RB9; have z4 := XB9.size; replace E := E.trans XB9; replace cB2_0 := cell_ext (XB9) cB2_0; replace cB2_1 := cell_ext (XB9) cB2_1; replace cB2_2 := cell_ext (XB9) cB2_2; replace HX := HX.trans XB9; have cB9_0 := lay_cell LB9 (j := 0) rfl; have cB9_1 := lay_cell LB9 (j := 1) rfl; have cB9_3 := lay_cell LB9 (j := 3) rfl; clear LB9) | (clear TG5; have hRl := (RB9).lt (Nat.zero_lt_succ _); refine storesI (B := B9) rfl rfl rfl (v := (.agg #[.int .i64 kd, .float .f64 nm, .int .i32 ch, .slice bA bn bc])) rfl RB9 (it_flat kd nm ch bA bn bc) ?_; clear cB9_0; clear cB9_1; clear cB9_3; intro s5 G5 LB9 RQ; have z6 := G5.size; replace E := grown_ext E G5 (by omega); replace cB2_0 := cell_grown (G5) cB2_0 (by show B2 ≠ _; omega); replace cB2_1 := cell_grown (G5) cB2_1 (by show B2 ≠ _; omega); replace cB2_2 := cell_grown (G5) cB2_2 (by show B2 ≠ _; omega); replace HX := grown_ext HX G5 (by omega); clear RB9; have RB9 := RQ; clear RQ hRl; have cB9_0 := lay_cell LB9 (j := 0) rfl; have cB9_1 := lay_cell LB9 (j := 1) rfl; have cB9_3 := lay_cell LB9 (j := 3) rfl; clear LB9))
        go_ret
        exact ⟨by rw [HR1.out (k + 1) (by omega) (by rw [HEK.out]; decide), HEK.out]; rfl, E⟩
      · obtain ⟨a, ea, hI⟩ := HI.out _ E k hlt
        subst ea
        have D0 := hI.c0
        have D1 := hI.c1
        have D2 := hI.c2
        have D3 := hI.c3
        have hHE := HE1.out k HU.out
        have hHF := HF1.out k
        clear hI
        generalize ZS k = zk at *
        generalize hx : IT k = x at *
        clear hx
        obtain ⟨kd, nm, ch, bA, bn, bc⟩ := x
        simp only [stE] at *
        have e53 : (kd != fl) = false := by simpa using h1
        have e57 : (kd == 2) = true := by simpa using h2
        have e62 : ((bn : Int) != 1) = true := by simpa using (show ¬ (bn : Int) = 1 by omega)
        rw [if_pos (.inr ⟨h2, h3⟩)] at hHE
        clear hHF h1 h2
        have HEK : Hid (EF (k + 1) = 1) := hHE
        clear hHE
        generalize FF k = fk at *
        have TB9 : True := trivial
        have TG8 : True := trivial
        go_wp2_with (first | (clear TB9; refine allocsI rfl rfl ?_; intro B9 w9 bB9 cB9 XB9 LB9 RB9; have z7 := XB9.size; replace E := E.trans XB9; replace cB2_0 := cell_ext (XB9) cB2_0; replace cB2_1 := cell_ext (XB9) cB2_1; replace cB2_2 := cell_ext (XB9) cB2_2; replace HX := HX.trans XB9; have cB9_0 := lay_cell LB9 (j := 0) rfl; have cB9_1 := lay_cell LB9 (j := 1) rfl; have cB9_3 := lay_cell LB9 (j := 3) rfl; clear LB9) | (clear TG8; have hRl := (RB9).lt (Nat.zero_lt_succ _); refine storesI (B := B9) rfl rfl rfl (v := (.agg #[.int .i64 kd, .float .f64 nm, .int .i32 ch, .slice bA bn bc])) rfl RB9 (it_flat kd nm ch bA bn bc) ?_; clear cB9_0; clear cB9_1; clear cB9_3; intro s8 G8 LB9 RQ; have z9 := G8.size; replace E := grown_ext E G8 (by omega); replace cB2_0 := cell_grown (G8) cB2_0 (by show B2 ≠ _; omega); replace cB2_1 := cell_grown (G8) cB2_1 (by show B2 ≠ _; omega); replace cB2_2 := cell_grown (G8) cB2_2 (by show B2 ≠ _; omega); replace HX := grown_ext HX G8 (by omega); clear RB9; have RB9 := RQ; clear RQ hRl; have cB9_0 := lay_cell LB9 (j := 0) rfl; have cB9_1 := lay_cell LB9 (j := 1) rfl; have cB9_3 := lay_cell LB9 (j := 3) rfl; clear LB9))
        go_ret
        exact ⟨by rw [HR1.out (k + 1) (by omega) (by rw [HEK.out]; decide), HEK.out]; rfl, E⟩
      · obtain ⟨b, q, eb, hPC⟩ := HB.out k hlt h2 h1 h3
        obtain ⟨hP, -⟩ := hPC _ E
        have D4 := hP.c0
        have D5 := hP.c1
        have D6 := hP.c2
        have hbb := World.block_lt_of_cell? _ _ D4
        have cs := fun w' hx => (hPC w' hx).2
        clear hPC hP
        obtain ⟨a, ea, hI⟩ := HI.out _ E k hlt
        subst ea
        have D0 := hI.c0
        have D1 := hI.c1
        have D2 := hI.c2
        have D3 := hI.c3
        have hHE := HE1.out k HU.out
        have hHF := HF1.out k
        clear hI
        generalize ZS k = zk at *
        generalize hx : IT k = x at *
        clear hx
        obtain ⟨kd, nm, ch, bA, bn, bc⟩ := x
        simp only [stE] at *
        try simp only at eb h1 h2 h3
        subst h3
        rw [eb] at D3
        have e53 : (kd != fl) = false := by simpa using h1
        have e57 : (kd == 2) = true := by simpa using h2
        have e76 : (zk != 0) = true := by simpa using h4
        rw [if_neg (fun h => h.elim (fun h => h h1) (fun h => h.2 rfl)), if_pos h2] at hHE
        have HZ := Lib.hid h4
        clear hHF h1 h2 h4
        have HEK : Hid (EF (k + 1) = zk) := hHE
        clear hHE
        generalize FF k = fk at *
        have TB9 : True := trivial
        have TG11 : True := trivial
        go_wp2_with (first | (clear TB9; refine allocsI rfl rfl ?_; intro B9 w9 bB9 cB9 XB9 LB9 RB9; have z10 := XB9.size; replace E := E.trans XB9; replace cB2_0 := cell_ext (XB9) cB2_0; replace cB2_1 := cell_ext (XB9) cB2_1; replace cB2_2 := cell_ext (XB9) cB2_2; replace HX := HX.trans XB9; replace D4 := cell_ext (XB9) D4; replace D5 := cell_ext (XB9) D5; replace D6 := cell_ext (XB9) D6; have cB9_0 := lay_cell LB9 (j := 0) rfl; have cB9_1 := lay_cell LB9 (j := 1) rfl; have cB9_3 := lay_cell LB9 (j := 3) rfl; clear LB9) | (clear TG11; have hRl := (RB9).lt (Nat.zero_lt_succ _); refine storesI (B := B9) rfl rfl rfl (v := (.agg #[.int .i64 kd, .float .f64 nm, .int .i32 ch, .slice (some b) 1 bc])) rfl RB9 (it_flat kd nm ch (some b) 1 bc) ?_; clear cB9_0; clear cB9_1; clear cB9_3; intro s11 G11 LB9 RQ; have z12 := G11.size; replace E := grown_ext E G11 (by omega); replace cB2_0 := cell_grown (G11) cB2_0 (by show B2 ≠ _; omega); replace cB2_1 := cell_grown (G11) cB2_1 (by show B2 ≠ _; omega); replace cB2_2 := cell_grown (G11) cB2_2 (by show B2 ≠ _; omega); replace HX := grown_ext HX G11 (by omega); replace D4 := cell_grown (G11) D4 (by first | omega | (dsimp only; omega)); replace D5 := cell_grown (G11) D5 (by first | omega | (dsimp only; omega)); replace D6 := cell_grown (G11) D6 (by first | omega | (dsimp only; omega)); clear RB9; have RB9 := RQ; clear RQ hRl; have cB9_0 := lay_cell LB9 (j := 0) rfl; have cB9_1 := lay_cell LB9 (j := 1) rfl; have cB9_3 := lay_cell LB9 (j := 3) rfl; clear LB9))
        refine (cs _ E).mono ?_
        rintro e w74 ⟨rfl, x⟩
        have z13 := x.size
        replace E := E.trans x
        replace cB2_0 := cell_ext (x) cB2_0
        replace cB2_1 := cell_ext (x) cB2_1
        replace cB2_2 := cell_ext (x) cB2_2
        replace HX := HX.trans x
        replace D4 := cell_ext (x) D4
        replace D5 := cell_ext (x) D5
        replace D6 := cell_ext (x) D6
        replace RB9 := RB9.ext x
        replace cB9_0 := cell_ext (x) cB9_0
        replace cB9_1 := cell_ext (x) cB9_1
        replace cB9_3 := cell_ext (x) cB9_3
        clear x
        go_wp2_with fail
        go_ret
        exact ⟨by rw [HR1.out (k + 1) (by omega) (by rw [HEK.out]; exact HZ.out), HEK.out]; rfl, E⟩
      · obtain ⟨b, q, eb, hPC⟩ := HB.out k hlt h2 h1 h3
        obtain ⟨hP, -⟩ := hPC _ E
        have D4 := hP.c0
        have D5 := hP.c1
        have D6 := hP.c2
        have hbb := World.block_lt_of_cell? _ _ D4
        have cs := fun w' hx => (hPC w' hx).2
        clear hPC hP
        obtain ⟨a, ea, hI⟩ := HI.out _ E k hlt
        subst ea
        have D0 := hI.c0
        have D1 := hI.c1
        have D2 := hI.c2
        have D3 := hI.c3
        have hHE := HE1.out k HU.out
        have hHF := HF1.out k
        clear hI
        generalize ZS k = zk at *
        generalize hx : IT k = x at *
        clear hx
        obtain ⟨kd, nm, ch, bA, bn, bc⟩ := x
        simp only [stE] at *
        try simp only at eb h1 h2 h3
        subst h3
        rw [eb] at D3
        have e53 : (kd != fl) = false := by simpa using h1
        have e57 : (kd == 2) = true := by simpa using h2
        have e82 : (kd != 0) = true := by simpa using (show ¬ kd = 0 by omega)
        subst h4
        rw [if_neg (fun h => h.elim (fun h => h h1) (fun h => h.2 rfl)), if_pos h2] at hHE
        rw [h5, decide_eq_true (show ¬ kd = 0 by omega)] at hHF
        have HFK : Hid (FF (k + 1) = true) := hHF
        rw [h5]
        clear hHF h1 h2 h5
        have HEK : Hid (EF (k + 1) = 0) := hHE
        clear hHE
        have TB9 : True := trivial
        have TG15 : True := trivial
        go_wp2_with (first | (clear TB9; refine allocsI rfl rfl ?_; intro B9 w9 bB9 cB9 XB9 LB9 RB9; have z14 := XB9.size; replace E := E.trans XB9; replace cB2_0 := cell_ext (XB9) cB2_0; replace cB2_1 := cell_ext (XB9) cB2_1; replace cB2_2 := cell_ext (XB9) cB2_2; replace HX := HX.trans XB9; replace D4 := cell_ext (XB9) D4; replace D5 := cell_ext (XB9) D5; replace D6 := cell_ext (XB9) D6; have cB9_0 := lay_cell LB9 (j := 0) rfl; have cB9_1 := lay_cell LB9 (j := 1) rfl; have cB9_3 := lay_cell LB9 (j := 3) rfl; clear LB9) | (clear TG15; have hRl := (RB9).lt (Nat.zero_lt_succ _); refine storesI (B := B9) rfl rfl rfl (v := (.agg #[.int .i64 kd, .float .f64 nm, .int .i32 ch, .slice (some b) 1 bc])) rfl RB9 (it_flat kd nm ch (some b) 1 bc) ?_; clear cB9_0; clear cB9_1; clear cB9_3; intro s15 G15 LB9 RQ; have z16 := G15.size; replace E := grown_ext E G15 (by omega); replace cB2_0 := cell_grown (G15) cB2_0 (by show B2 ≠ _; omega); replace cB2_1 := cell_grown (G15) cB2_1 (by show B2 ≠ _; omega); replace cB2_2 := cell_grown (G15) cB2_2 (by show B2 ≠ _; omega); replace HX := grown_ext HX G15 (by omega); replace D4 := cell_grown (G15) D4 (by first | omega | (dsimp only; omega)); replace D5 := cell_grown (G15) D5 (by first | omega | (dsimp only; omega)); replace D6 := cell_grown (G15) D6 (by first | omega | (dsimp only; omega)); clear RB9; have RB9 := RQ; clear RQ hRl; have cB9_0 := lay_cell LB9 (j := 0) rfl; have cB9_1 := lay_cell LB9 (j := 1) rfl; have cB9_3 := lay_cell LB9 (j := 3) rfl; clear LB9))
        refine (cs _ E).mono ?_
        rintro e w74 ⟨rfl, x⟩
        have z17 := x.size
        replace E := E.trans x
        replace cB2_0 := cell_ext (x) cB2_0
        replace cB2_1 := cell_ext (x) cB2_1
        replace cB2_2 := cell_ext (x) cB2_2
        replace HX := HX.trans x
        replace D4 := cell_ext (x) D4
        replace D5 := cell_ext (x) D5
        replace D6 := cell_ext (x) D6
        replace RB9 := RB9.ext x
        replace cB9_0 := cell_ext (x) cB9_0
        replace cB9_1 := cell_ext (x) cB9_1
        replace cB9_3 := cell_ext (x) cB9_3
        clear x
        go_wp2_with fail
        exact ⟨⟨k + 1, by omega, by rw [HFK.out], by go_num, HEK.out, HX⟩, by simp [intOf]; omega⟩
      · obtain ⟨b, q, eb, hPC⟩ := HB.out k hlt h2 h1 h3
        obtain ⟨hP, -⟩ := hPC _ E
        have D4 := hP.c0
        have D5 := hP.c1
        have D6 := hP.c2
        have hbb := World.block_lt_of_cell? _ _ D4
        have cs := fun w' hx => (hPC w' hx).2
        clear hPC hP
        obtain ⟨a, ea, hI⟩ := HI.out _ E k hlt
        subst ea
        have D0 := hI.c0
        have D1 := hI.c1
        have D2 := hI.c2
        have D3 := hI.c3
        have hHE := HE1.out k HU.out
        have hHF := HF1.out k
        clear hI
        generalize ZS k = zk at *
        generalize hx : IT k = x at *
        clear hx
        obtain ⟨kd, nm, ch, bA, bn, bc⟩ := x
        simp only [stE] at *
        try simp only at eb h1 h2 h3
        subst h3
        rw [eb] at D3
        have e53 : (kd != fl) = false := by simpa using h1
        have e57 : (kd == 2) = true := by simpa using h2
        have e82 : (kd != 0) = true := by simpa using (show ¬ kd = 0 by omega)
        subst h4
        rw [if_neg (fun h => h.elim (fun h => h h1) (fun h => h.2 rfl)), if_pos h2] at hHE
        rw [h5, decide_eq_true (show ¬ kd = 0 by omega)] at hHF
        have HFK : Hid (FF (k + 1) = false) := hHF
        rw [h5]
        clear hHF h1 h2 h5
        have HEK : Hid (EF (k + 1) = 0) := hHE
        clear hHE
        have TB9 : True := trivial
        have TG19 : True := trivial
        go_wp2_with (first | (clear TB9; refine allocsI rfl rfl ?_; intro B9 w9 bB9 cB9 XB9 LB9 RB9; have z18 := XB9.size; replace E := E.trans XB9; replace cB2_0 := cell_ext (XB9) cB2_0; replace cB2_1 := cell_ext (XB9) cB2_1; replace cB2_2 := cell_ext (XB9) cB2_2; replace HX := HX.trans XB9; replace D4 := cell_ext (XB9) D4; replace D5 := cell_ext (XB9) D5; replace D6 := cell_ext (XB9) D6; have cB9_0 := lay_cell LB9 (j := 0) rfl; have cB9_1 := lay_cell LB9 (j := 1) rfl; have cB9_3 := lay_cell LB9 (j := 3) rfl; clear LB9) | (clear TG19; have hRl := (RB9).lt (Nat.zero_lt_succ _); refine storesI (B := B9) rfl rfl rfl (v := (.agg #[.int .i64 kd, .float .f64 nm, .int .i32 ch, .slice (some b) 1 bc])) rfl RB9 (it_flat kd nm ch (some b) 1 bc) ?_; clear cB9_0; clear cB9_1; clear cB9_3; intro s19 G19 LB9 RQ; have z20 := G19.size; replace E := grown_ext E G19 (by omega); replace cB2_0 := cell_grown (G19) cB2_0 (by show B2 ≠ _; omega); replace cB2_1 := cell_grown (G19) cB2_1 (by show B2 ≠ _; omega); replace cB2_2 := cell_grown (G19) cB2_2 (by show B2 ≠ _; omega); replace HX := grown_ext HX G19 (by omega); replace D4 := cell_grown (G19) D4 (by first | omega | (dsimp only; omega)); replace D5 := cell_grown (G19) D5 (by first | omega | (dsimp only; omega)); replace D6 := cell_grown (G19) D6 (by first | omega | (dsimp only; omega)); clear RB9; have RB9 := RQ; clear RQ hRl; have cB9_0 := lay_cell LB9 (j := 0) rfl; have cB9_1 := lay_cell LB9 (j := 1) rfl; have cB9_3 := lay_cell LB9 (j := 3) rfl; clear LB9))
        refine (cs _ E).mono ?_
        rintro e w74 ⟨rfl, x⟩
        have z21 := x.size
        replace E := E.trans x
        replace cB2_0 := cell_ext (x) cB2_0
        replace cB2_1 := cell_ext (x) cB2_1
        replace cB2_2 := cell_ext (x) cB2_2
        replace HX := HX.trans x
        replace D4 := cell_ext (x) D4
        replace D5 := cell_ext (x) D5
        replace D6 := cell_ext (x) D6
        replace RB9 := RB9.ext x
        replace cB9_0 := cell_ext (x) cB9_0
        replace cB9_1 := cell_ext (x) cB9_1
        replace cB9_3 := cell_ext (x) cB9_3
        clear x
        go_wp2_with fail
        exact ⟨⟨k + 1, by omega, by rw [HFK.out], by go_num, HEK.out, HX⟩, by simp [intOf]; omega⟩
      · obtain ⟨a, ea, hI⟩ := HI.out _ E k hlt
        subst ea
        have D0 := hI.c0
        have D1 := hI.c1
        have D2 := hI.c2
        have D3 := hI.c3
        have hHE := HE1.out k HU.out
        have hHF := HF1.out k
        clear hI
        generalize ZS k = zk at *
        generalize hx : IT k = x at *
        clear hx
        obtain ⟨kd, nm, ch, bA, bn, bc⟩ := x
        simp only [stE] at *
        have e53 : (kd != fl) = false := by simpa using h1
        have e57 : (kd == 2) = false := by simpa using h2
        rw [if_neg (fun h => h.elim (fun h => h h1) (fun h => h2 h.1)), if_neg h2] at hHE
        rw [h5, Bool.false_and] at hHF
        have HFK : Hid (FF (k + 1) = false) := hHF
        rw [h5]
        clear hHF h1 h2 h5
        have HEK : Hid (EF (k + 1) = 0) := hHE
        clear hHE
        have TB9 : True := trivial
        have TG23 : True := trivial
        go_wp2_with (first | (clear TB9; refine allocsI rfl rfl ?_; intro B9 w9 bB9 cB9 XB9 LB9 RB9; have z22 := XB9.size; replace E := E.trans XB9; replace cB2_0 := cell_ext (XB9) cB2_0; replace cB2_1 := cell_ext (XB9) cB2_1; replace cB2_2 := cell_ext (XB9) cB2_2; replace HX := HX.trans XB9; have cB9_0 := lay_cell LB9 (j := 0) rfl; have cB9_1 := lay_cell LB9 (j := 1) rfl; have cB9_3 := lay_cell LB9 (j := 3) rfl; clear LB9) | (clear TG23; have hRl := (RB9).lt (Nat.zero_lt_succ _); refine storesI (B := B9) rfl rfl rfl (v := (.agg #[.int .i64 kd, .float .f64 nm, .int .i32 ch, .slice bA bn bc])) rfl RB9 (it_flat kd nm ch bA bn bc) ?_; clear cB9_0; clear cB9_1; clear cB9_3; intro s23 G23 LB9 RQ; have z24 := G23.size; replace E := grown_ext E G23 (by omega); replace cB2_0 := cell_grown (G23) cB2_0 (by show B2 ≠ _; omega); replace cB2_1 := cell_grown (G23) cB2_1 (by show B2 ≠ _; omega); replace cB2_2 := cell_grown (G23) cB2_2 (by show B2 ≠ _; omega); replace HX := grown_ext HX G23 (by omega); clear RB9; have RB9 := RQ; clear RQ hRl; have cB9_0 := lay_cell LB9 (j := 0) rfl; have cB9_1 := lay_cell LB9 (j := 1) rfl; have cB9_3 := lay_cell LB9 (j := 3) rfl; clear LB9))
        exact ⟨⟨k + 1, by omega, by rw [HFK.out], by go_num, HEK.out, HX⟩, by simp [intOf]; omega⟩
      · obtain ⟨a, ea, hI⟩ := HI.out _ E k hlt
        subst ea
        have D0 := hI.c0
        have D1 := hI.c1
        have D2 := hI.c2
        have D3 := hI.c3
        have hHE := HE1.out k HU.out
        have hHF := HF1.out k
        clear hI
        generalize ZS k = zk at *
        generalize hx : IT k = x at *
        clear hx
        obtain ⟨kd, nm, ch, bA, bn, bc⟩ := x
        simp only [stE] at *
        have e53 : (kd != fl) = false := by simpa using h1
        have e57 : (kd == 2) = false := by simpa using h2
        rw [if_neg (fun h => h.elim (fun h => h h1) (fun h => h2 h.1)), if_neg h2] at hHE
        have e82 : (kd != 0) = true := by simpa using h6
        rw [h5, decide_eq_true h6] at hHF
        have HFK : Hid (FF (k + 1) = true) := hHF
        rw [h5]
        clear hHF h1 h2 h5 h6
        have HEK : Hid (EF (k + 1) = 0) := hHE
        clear hHE
        have TB9 : True := trivial
        have TG26 : True := trivial
        go_wp2_with (first | (clear TB9; refine allocsI rfl rfl ?_; intro B9 w9 bB9 cB9 XB9 LB9 RB9; have z25 := XB9.size; replace E := E.trans XB9; replace cB2_0 := cell_ext (XB9) cB2_0; replace cB2_1 := cell_ext (XB9) cB2_1; replace cB2_2 := cell_ext (XB9) cB2_2; replace HX := HX.trans XB9; have cB9_0 := lay_cell LB9 (j := 0) rfl; have cB9_1 := lay_cell LB9 (j := 1) rfl; have cB9_3 := lay_cell LB9 (j := 3) rfl; clear LB9) | (clear TG26; have hRl := (RB9).lt (Nat.zero_lt_succ _); refine storesI (B := B9) rfl rfl rfl (v := (.agg #[.int .i64 kd, .float .f64 nm, .int .i32 ch, .slice bA bn bc])) rfl RB9 (it_flat kd nm ch bA bn bc) ?_; clear cB9_0; clear cB9_1; clear cB9_3; intro s26 G26 LB9 RQ; have z27 := G26.size; replace E := grown_ext E G26 (by omega); replace cB2_0 := cell_grown (G26) cB2_0 (by show B2 ≠ _; omega); replace cB2_1 := cell_grown (G26) cB2_1 (by show B2 ≠ _; omega); replace cB2_2 := cell_grown (G26) cB2_2 (by show B2 ≠ _; omega); replace HX := grown_ext HX G26 (by omega); clear RB9; have RB9 := RQ; clear RQ hRl; have cB9_0 := lay_cell LB9 (j := 0) rfl; have cB9_1 := lay_cell LB9 (j := 1) rfl; have cB9_3 := lay_cell LB9 (j := 3) rfl; clear LB9))
        exact ⟨⟨k + 1, by omega, by rw [HFK.out], by go_num, HEK.out, HX⟩, by simp [intOf]; omega⟩
      · obtain ⟨a, ea, hI⟩ := HI.out _ E k hlt
        subst ea
        have D0 := hI.c0
        have D1 := hI.c1
        have D2 := hI.c2
        have D3 := hI.c3
        have hHE := HE1.out k HU.out
        have hHF := HF1.out k
        clear hI
        generalize ZS k = zk at *
        generalize hx : IT k = x at *
        clear hx
        obtain ⟨kd, nm, ch, bA, bn, bc⟩ := x
        simp only [stE] at *
        have e53 : (kd != fl) = false := by simpa using h1
        have e57 : (kd == 2) = false := by simpa using h2
        rw [if_neg (fun h => h.elim (fun h => h h1) (fun h => h2 h.1)), if_neg h2] at hHE
        have e82 : (kd != 0) = false := by simpa using h6
        rw [h5, decide_eq_false (fun h => h h6), Bool.true_and, Bool.false_or] at hHF
        have HFK : Hid (FF (k + 1) = decide (fin nm)) := hHF
        rw [h5]
        have cfx := fun w => cf nm w
        generalize decide (fin nm) = fb at *
        clear hHF h1 h2 h5 h6
        have HEK : Hid (EF (k + 1) = 0) := hHE
        clear hHE
        have TB9 : True := trivial
        have TG29 : True := trivial
        go_wp2_with (first | (clear TB9; refine allocsI rfl rfl ?_; intro B9 w9 bB9 cB9 XB9 LB9 RB9; have z28 := XB9.size; replace E := E.trans XB9; replace cB2_0 := cell_ext (XB9) cB2_0; replace cB2_1 := cell_ext (XB9) cB2_1; replace cB2_2 := cell_ext (XB9) cB2_2; replace HX := HX.trans XB9; have cB9_0 := lay_cell LB9 (j := 0) rfl; have cB9_1 := lay_cell LB9 (j := 1) rfl; have cB9_3 := lay_cell LB9 (j := 3) rfl; clear LB9) | (clear TG29; have hRl := (RB9).lt (Nat.zero_lt_succ _); refine storesI (B := B9) rfl rfl rfl (v := (.agg #[.int .i64 kd, .float .f64 nm, .int .i32 ch, .slice bA bn bc])) rfl RB9 (it_flat kd nm ch bA bn bc) ?_; clear cB9_0; clear cB9_1; clear cB9_3; intro s29 G29 LB9 RQ; have z30 := G29.size; replace E := grown_ext E G29 (by omega); replace cB2_0 := cell_grown (G29) cB2_0 (by show B2 ≠ _; omega); replace cB2_1 := cell_grown (G29) cB2_1 (by show B2 ≠ _; omega); replace cB2_2 := cell_grown (G29) cB2_2 (by show B2 ≠ _; omega); replace HX := grown_ext HX G29 (by omega); clear RB9; have RB9 := RQ; clear RQ hRl; have cB9_0 := lay_cell LB9 (j := 0) rfl; have cB9_1 := lay_cell LB9 (j := 1) rfl; have cB9_3 := lay_cell LB9 (j := 3) rfl; clear LB9 RB9))
        refine (cfx _).mono ?_
        rintro e w86 ⟨rfl, x⟩
        have z31 := x.size
        replace E := E.trans x
        replace cB2_0 := cell_ext (x) cB2_0
        replace cB2_1 := cell_ext (x) cB2_1
        replace cB2_2 := cell_ext (x) cB2_2
        replace HX := HX.trans x
        replace cB9_0 := cell_ext (x) cB9_0
        replace cB9_1 := cell_ext (x) cB9_1
        replace cB9_3 := cell_ext (x) cB9_3
        clear x
        go_wp2_with fail
        exact ⟨⟨k + 1, by omega, by rw [HFK.out], by go_num, HEK.out, HX⟩, by simp [intOf]; omega⟩
      · have hkm : k = m := by omega
        rw [hkm] at HU ⊢
        have hR := HR2.out HU.out
        rw [hR.1]
        have HRR := Lib.hid hR.2
        clear hkm hR HU
        go_wp2_with fail
        go_ret
        exact ⟨by rw [HRR.out]; rfl, E⟩
end
end Go.Proofs.Ytdfhefnjoekgbaa

namespace Go.Proofs.Ytdfhefnjoekgbaa
open Go.ChangeShapes Go.WideShapes Go.RowKit Bv Fl
set_option maxHeartbeats 4000000
set_option maxRecDepth 100000
theorem plcheck : ∀ (n : Nat) (w : World) (p : Pl) (dp : Int), 0 ≤ dp → dp ≤ 40 → Deep n w p → ∃ z : Int, (z = 0 → GoodD dp.toNat w p) ∧ ∀ w1, Ext w w1 → Calls Try.prog 95 #[p.val, .int .i64 dp] w1 fun e w' => e = .returned (.int .i64 z) ∧ Ext w1 w' := by
  intro n
  induction n with
  | zero => intro w p dp _ _ h; exact h.elim
  | succ n ih =>
    intro w p dp hd0 hd1 h
    by_cases h1 : dp = 0
    · exact ⟨1, fun h => absurd h (by decide), fun w1 hx => chk_a _ _ _ _ _ _ _ _ _ h1⟩
    have h1' : (dp == 0) = false := by simpa using h1
    by_cases h2 : p.fill < 0
    · exact ⟨1, fun h => absurd h (by decide), fun w1 hx => chk_b _ _ _ _ _ _ _ _ _ h1' h2⟩
    by_cases h3 : 2 < p.fill
    · exact ⟨1, fun h => absurd h (by decide), fun w1 hx => chk_c _ _ _ _ _ _ _ _ _ h1' h2 h3⟩
    have cp := fun w1 (hx : Ext w w1) => fun w' (hy : Ext w1 w') => rprod_any p.sA p.sh p.sh.length rfl p.sc w' (h.1.shS.ext (hx.trans hy))
    by_cases h4 : prE p.sh = 0
    · by_cases h5 : prV p.sh = p.its.length
      · have h4' : (prE p.sh != 0) = false := by simpa using h4
        have h5' : ((prV p.sh : Int) != (p.its.length : Int)) = false := by simpa using (show (prV p.sh : Int) = (p.its.length : Int) by omega)
        have hm2 : p.its.length ≤ 1048576 := by rw [← h5]; exact prV_le _
        have hz : ∀ k, ∃ z : Int, k < p.its.length → (p.its.getD k default).bn = 1 → ∃ b q, (p.its.getD k default).bA = some b ∧ Sl w 3 (some b) 1 (plc [q]) ∧ (z = 0 → GoodD (dp - 1).toNat w q) ∧ ∀ w1, Ext w w1 → Calls Try.prog 95 #[q.val, .int .i64 (dp - 1)] w1 fun e w' => e = .returned (.int .i64 z) ∧ Ext w1 w' := fun k => by
          by_cases hk : k < p.its.length ∧ (p.its.getD k default).bn = 1
          · obtain ⟨qs, e1, e2, e3⟩ := h.2 _ (getD_memA hk.1)
            rw [hk.2] at e1 e2
            match qs, e1 with
            | [q], _ =>
              obtain ⟨b, eb, _⟩ := pl_at rfl e2 (show 0 < 1 by omega)
              obtain ⟨z, hz1, hz2⟩ := ih w q (dp - 1) (by omega) (by omega) (e3 q (by simp))
              exact ⟨z, fun _ _ => ⟨b, q, eb, eb ▸ e2, hz1, hz2⟩⟩
          · exact ⟨0, fun a b => absurd ⟨a, b⟩ hk⟩
        obtain ⟨ZS, hZS⟩ : ∃ ZS : Nat → Int, ∀ k, k < p.its.length → (p.its.getD k default).bn = 1 → ∃ b q, (p.its.getD k default).bA = some b ∧ Sl w 3 (some b) 1 (plc [q]) ∧ (ZS k = 0 → GoodD (dp - 1).toNat w q) ∧ ∀ w1, Ext w w1 → Calls Try.prog 95 #[q.val, .int .i64 (dp - 1)] w1 fun e w' => e = .returned (.int .i64 (ZS k)) ∧ Ext w1 w' :=
          ⟨fun k => Classical.choose (hz k), fun k => Classical.choose_spec (hz k)⟩
        refine ⟨if chE p.fill (fun k => p.its.getD k default) ZS p.its.length ≠ 0 then chE p.fill (fun k => p.its.getD k default) ZS p.its.length else if chF (fun k => p.its.getD k default) p.its.length then 0 else 1, fun hz0 => ?_, fun w1 hx => ?_⟩
        · split at hz0
          · exact absurd hz0 (by assumption)
          · rename_i he
            have he := Decidable.not_not.1 he
            split at hz0
            · rename_i hf
              obtain ⟨d1, hd1⟩ : ∃ d1, dp.toNat = d1 + 1 := ⟨dp.toNat - 1, by omega⟩
              rw [show (dp - 1).toNat = d1 by omega] at hZS
              rw [hd1]
              refine ⟨h.1, by omega, by omega, h4, h5, fun x hx => ?_⟩
              obtain ⟨k, hk, rfl⟩ := List.getElem_of_mem hx
              have hg : p.its.getD k default = p.its[k] := by simp [List.getD, hk]
              have hst := chE_zero he k hk
              have hfk := chF_all hf k hk
              try simp only at hst hfk
              have hZk := hZS k hk
              rw [hg] at hst hfk hZk
              unfold stE at hst
              split at hst
              · cases hst
              · rename_i hn
                have hk1 : p.its[k].kind = p.fill := Decidable.not_not.1 fun e => hn (.inl e)
                refine ⟨hk1, fun e => hfk (by rw [hk1]; exact e), fun e => ?_⟩
                have hk2 : p.its[k].kind = 2 := by rw [hk1]; exact e
                have hb : p.its[k].bn = 1 := Decidable.not_not.1 fun e => hn (.inr ⟨hk2, e⟩)
                rw [if_pos hk2] at hst
                obtain ⟨b, q, eb, e2, e3, _⟩ := hZk hb
                exact ⟨b, q, hb, eb, eb ▸ e2, e3 hst⟩
            · cases hz0
        · refine chk_f p.sA p.sh.length p.sc p.iA p.its.length p.ic p.fill dp w1 h1' h2 h3 (prV p.sh) (prE p.sh) (cp w1 hx) h4' h5' (by omega) hm2 (fun k => p.its.getD k default) ZS _ (chF (fun k => p.its.getD k default) p.its.length) ?_ ?_ ?_ ?_
          · intro w' hy k hk
            exact it_at rfl (h.1.itS.ext (hx.trans hy)) hk
          · intro k hk _ _ hb
            obtain ⟨b, q, eb, e2, _, e4⟩ := hZS k hk hb
            refine ⟨b, q, eb, fun w' hy => ⟨?_, e4 w' (hx.trans hy)⟩⟩
            obtain ⟨b', eb', hP⟩ := pl_at rfl (e2.ext (hx.trans hy)) (show 0 < 1 by omega)
            cases eb'
            exact hP
          · intro k hk hne
            have := chE_stay hne hk
            rw [if_pos (by rw [this]; exact hne), this]
          · intro he
            refine ⟨rfl, ?_⟩
            rw [if_neg (by rw [he]; decide)]
      · have h4' : (prE p.sh != 0) = false := by simpa using h4
        have h5' : ((prV p.sh : Int) != (p.its.length : Int)) = true := by simpa using (show ¬ (prV p.sh : Int) = (p.its.length : Int) by omega)
        exact ⟨23, fun h => absurd h (by decide), fun w1 hx => chk_e _ _ _ _ _ _ _ _ _ h1' h2 h3 (prV p.sh) (prE p.sh) (cp w1 hx) h4' h5'⟩
    · have h4' : (prE p.sh != 0) = true := by simpa using h4
      exact ⟨prE p.sh, fun h => absurd h h4, fun w1 hx => chk_d _ _ _ _ _ _ _ _ _ h1' h2 h3 (prV p.sh) (prE p.sh) (cp w1 hx) h4'⟩
theorem plCheck (n : Nat) (w : World) (p : Pl) (h : Deep n w p) : ∃ z : Int, (z = 0 → GoodD 40 w p) ∧ ∀ w1, Ext w w1 → Calls Try.prog 83 #[p.val] w1 fun e w' => e = .returned (.int .i64 z) ∧ Ext w1 w' := by
  obtain ⟨z, h1, h2⟩ := plcheck n w p 40 (by omega) (by omega) h
  refine ⟨z, h1, fun w1 hx => ?_⟩
  have hF : Flat 3 p.val := pl_flat _ _ _ _ _ _ _
  clear h h1
  generalize p.val = pv at *
  have cc := fun w' (hy : Ext w1 w') => h2 w' (hx.trans hy)
  clear h2 hx
  have E := Ext.refl w1
  go_enter Try.func83, Try.ntmps83
  have TB1 : True := trivial
  go_wp2_with (first | (clear TB1; refine boxsP (v := pv) rfl rfl rfl hF ?_; intro B1 w1 bB1 cB1 XB1 LB1 RB1; have z1 := XB1.size; replace E := E.trans XB1; clear RB1) | (refine loadsP (B := B1) (by rfl) rfl rfl LB1 ?_))
  clear LB1
  refine (cc _ E).mono ?_
  rintro e w4 ⟨rfl, x⟩
  have z2 := x.size
  replace E := E.trans x
  clear x
  go_wp2_with fail
  go_ret
  exact ⟨rfl, E⟩
end Go.Proofs.Ytdfhefnjoekgbaa
