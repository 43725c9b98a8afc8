/- VecApart, whole. -/
import Derived.Test.YtmjikdkdccnbaaaKf
import Derived.Test.YtmjikdkdccnbaaaVn
namespace Go.Proofs.Ytmjikdkdccnbaaa
open Go.ChangeShapes Go.WideShapes Go.RowKit Bv Fl
set_option maxHeartbeats 1000000
set_option maxRecDepth 100000
theorem whls_ints (l : List Int) : (VD.ints l).whls = l := by
  apply List.ext_getElem (by rw [VD.whls_length]; rfl)
  intro j h1 h2
  simp only [VD.whls, List.getElem_map, List.getElem_range]
  show l.getD j 0 = l[j]
  simp [List.getD, h2]
theorem fi_same (x : Int) (hx : -128 ≤ x ∧ x ≤ 127) : FloatKind.f64.format.order (fi x) (floatOfInt FloatKind.f64 x) = some .eq := by
  rw [fi_conv]
  have hf : fin (fi x) := fi_fin (by omega) (by omega)
  have h := c_eq hf.nn hf.nn
  simpa using h
theorem vapart_l1 (A : Option Addr) (n c : Nat) (A' : Option Addr) (m c' : Nat) (A'' : Option Addr) (q c'' : Nat) (w : World) (h1 : ¬ n ≤ 200) : Calls Try.prog 4 #[.slice A n c, .slice A' m c', .slice A'' q c''] w fun e w' => e = .returned (.bool true) ∧ Ext w w' := by
  have aw := awake_any
  have E := Ext.refl w
  go_enter Try.func4, Try.ntmps4
  go_wp2_with fail
  refine (aw _).mono ?_
  rintro e w44 ⟨rfl, x⟩
  have z1 := x.size
  replace E := E.trans x
  clear x
  go_wp2_with fail
  go_ret
  exact ⟨rfl, E⟩
theorem vapart_l2 (A : Option Addr) (n c : Nat) (A' : Option Addr) (m c' : Nat) (A'' : Option Addr) (q c'' : Nat) (w : World) (h1 : n ≤ 200) (h2 : ¬ m ≤ 200) : Calls Try.prog 4 #[.slice A n c, .slice A' m c', .slice A'' q c''] w fun e w' => e = .returned (.bool true) ∧ Ext w w' := by
  have aw := awake_any
  have E := Ext.refl w
  go_enter Try.func4, Try.ntmps4
  go_wp2_with fail
  refine (aw _).mono ?_
  rintro e w44 ⟨rfl, x⟩
  have z1 := x.size
  replace E := E.trans x
  clear x
  go_wp2_with fail
  go_ret
  exact ⟨rfl, E⟩
theorem vapart_l3 (A : Option Addr) (n c : Nat) (A' : Option Addr) (m c' : Nat) (A'' : Option Addr) (q c'' : Nat) (w : World) (h1 : n ≤ 200) (h2 : m ≤ 200) (h3 : ¬ q ≤ 200) : Calls Try.prog 4 #[.slice A n c, .slice A' m c', .slice A'' q c''] w fun e w' => e = .returned (.bool true) ∧ Ext w w' := by
  have aw := awake_any
  have E := Ext.refl w
  go_enter Try.func4, Try.ntmps4
  go_wp2_with fail
  refine (aw _).mono ?_
  rintro e w44 ⟨rfl, x⟩
  have z1 := x.size
  replace E := E.trans x
  clear x
  go_wp2_with fail
  go_ret
  exact ⟨rfl, E⟩
theorem vapart_l4 (A : Option Addr) (n c : Nat) (A' : Option Addr) (m c' : Nat) (A'' : Option Addr) (q c'' : Nat) (w : World) (h1 : n ≤ 200) (h2 : m ≤ 200) (h3 : q ≤ 200) (cs : ∀ w', Ext w w' → Calls Try.prog 19 #[.slice A'' q c''] w' fun e w2 => e = .returned (.bool false) ∧ Ext w' w2) : Calls Try.prog 4 #[.slice A n c, .slice A' m c', .slice A'' q c''] w fun e w' => e = .returned (.bool true) ∧ Ext w w' := by
  have aw := awake_any
  have E := Ext.refl w
  go_enter Try.func4, Try.ntmps4
  go_wp2_with fail
  refine (cs _ E).mono ?_
  rintro e w41 ⟨rfl, x⟩
  have z1 := x.size
  replace E := E.trans x
  clear x
  go_wp2_with fail
  refine (aw _).mono ?_
  rintro e w44 ⟨rfl, x⟩
  have z2 := x.size
  replace E := E.trans x
  clear x
  go_wp2_with fail
  go_ret
  exact ⟨rfl, E⟩
theorem vecApart_walk (w : World) (A : Option Addr) (s : List Int) (c : Nat) (_ : s.length ≤ c) (_ : c ≤ maxLen) (hs : Sl w 1 A s.length (i8s s)) (hw : ∀ x ∈ s, (Lit.int .i8 x).wf = true) (A' : Option Addr) (r : List Int) (c' : Nat) (_ : r.length ≤ c') (_ : c' ≤ maxLen) (hs' : Sl w 1 A' r.length (i32s r)) (_ : ∀ x ∈ r, (Lit.int .i32 x).wf = true) (A'' : Option Addr) (l : List Int) (c'' : Nat) (_ : l.length ≤ c'') (_ : c'' ≤ maxLen) (hs'' : Sl w 1 A'' l.length (i64s l)) (_ : ∀ x ∈ l, (Lit.int .i64 x).wf = true) :
    Calls Try.prog 4 #[.slice A s.length c, .slice A' r.length c', .slice A'' l.length c''] w fun e w' => e = .returned (.bool true) ∧ Ext w w' := by
  by_cases h1 : s.length ≤ 200
  · by_cases h2 : r.length ≤ 200
    · by_cases h3 : l.length ≤ 200
      · have cs : ∀ w', Ext w w' → Calls Try.prog 19 #[.slice A'' l.length c''] w' fun e w2 => e = .returned (.bool (allG l)) ∧ Ext w' w2 := fun w' hx => (rsmallL_any A'' l l.length rfl c'' w' (by omega) (hs''.ext hx)).mono fun e w2 h => ⟨h.1, h.2 ▸ Ext.refl _⟩
        cases hg : allG l
        · rw [hg] at cs
          exact vapart_l4 _ _ _ _ _ _ _ _ _ w h1 h2 h3 cs
        · rw [hg] at cs
          have hb : ∀ x ∈ s, -128 ≤ x ∧ x ≤ 127 := fun x hx => by
            have h : IntKind.i8.min ≤ x ∧ x ≤ IntKind.i8.max := by simpa [Lit.wf] using hw x hx
            have e1 : IntKind.i8.min = -128 := rfl
            have e2 : IntKind.i8.max = 127 := rfl
            omega
          have one : ∀ {B : Option Addr} {n b base : Nat} {w : World} {T : TypeId} {xs : List Value}, w.ownsRow base T 1 (.slice B n b) n xs → ∀ a, B = some a → New base a.block := fun ho a ha => by
            subst ha
            exact (World.ownsRow.lt ho a.block rfl).1
          have cU : ∀ B b w' S, SlS w' 1 B s.length (i8s s) S → Calls Try.prog 20 #[.slice B s.length b] w' fun e w2 => ∃ v, e = .returned v ∧ VecS w2 v (VD.smalls s) (New w'.heap.size) ∧ Ext w' w2 := fun B b w' S h => by
            refine (vsmalls_own B s s.length rfl b w' (by omega) h.is).mono ?_
            rintro e w2 ⟨B2, cb, rfl, hown, hx⟩
            exact ⟨_, rfl, VecS.mk (.inr (.inr (.inl ⟨s, B2, cb, rfl, by omega, hb, rfl, Sl.own hown⟩))) (In.one (A := B2) (n := s.length) (c := cb) (one hown) (.inr rfl) ⟨_, rfl⟩ (.inl rfl) (.inr rfl) (.inr rfl) (.inr rfl) (.inr rfl)), hx⟩
          have cV : ∀ B b w' S, SlS w' 1 B r.length (i32s r) S → Calls Try.prog 9 #[.slice B r.length b] w' fun e w2 => ∃ v, e = .returned v ∧ VecS w2 v (VD.chars r) (New w'.heap.size) ∧ Ext w' w2 := fun B b w' S h => by
            refine (vchars_own B r r.length rfl b w' (by omega) h.is).mono ?_
            rintro e w2 ⟨B2, cb, rfl, hown, hx⟩
            exact ⟨_, rfl, VecS.mk (.inr (.inr (.inr (.inr (.inr (.inl ⟨r, B2, cb, rfl, by omega, rfl, Sl.own hown⟩)))))) (In.one (A := B2) (n := r.length) (c := cb) (one hown) (.inr rfl) ⟨_, rfl⟩ (.inr rfl) (.inr rfl) (.inr rfl) (.inl rfl) (.inr rfl)), hx⟩
          have cW : ∀ B b w' S, SlS w' 1 B l.length (i64s l) S → Calls Try.prog 21 #[.slice B l.length b] w' fun e w2 => ∃ v, e = .returned (.tuple #[v, .bool true]) ∧ VecS w2 v (VD.ints l) (New w'.heap.size) ∧ Ext w' w2 := fun B b w' S h => by
            refine (vints_own B l l.length rfl b w' (by omega) h.is).mono ?_
            rw [hg]
            rintro e w2 ⟨B2, cb, rfl, hown, hx⟩
            exact ⟨_, rfl, VecS.mk (.inr (.inr (.inr (.inl ⟨l, B2, cb, rfl, by omega, allG_true hg, rfl, Sl.own (hown rfl)⟩)))) (In.one (A := B2) (n := l.length) (c := cb) (one (hown rfl)) (.inr rfl) ⟨_, rfl⟩ (.inr rfl) (.inl rfl) (.inr rfl) (.inr rfl) (.inr rfl)), hx⟩
          have cT : ∀ v w', IsVec w' v (VD.chars r) → Calls Try.prog 18 #[v] w' fun e w2 => ∃ B b g, e = .returned (.slice B r.length b) ∧ w'.heap.size ≤ g ∧ g ≤ w2.heap.size ∧ RowN 21 w2 g B r.length b ∧ SlS w2 1 B r.length (i32s r) (New w'.heap.size) ∧ Ext w' w2 := fun v w' h => (vtext_any v r w' h).mono fun e w2 ⟨v', h1, h2, h3⟩ => by
            obtain ⟨B, b, g, rfl, k1, k2, k3, k4⟩ := RowN.of h2 h3.size
            exact ⟨B, b, g, h1, k1, k2, k3, k4, h3⟩
          have cM : ∀ v w', IsVec w' v (VD.ints l) → Calls Try.prog 22 #[v] w' fun e w2 => ∃ B b g, e = .returned (.tuple #[.slice B l.length b, .bool true]) ∧ w'.heap.size ≤ g ∧ g ≤ w2.heap.size ∧ RowN 2 w2 g B l.length b ∧ SlS w2 1 B l.length (i64s l) (New w'.heap.size) ∧ Ext w' w2 := fun v w' h => (vwholes_any v (VD.ints l) w' h rfl).mono fun e w2 ⟨v', h1, h2, h3⟩ => by
            rw [show (VD.ints l).whls = l from whls_ints l] at h2
            obtain ⟨B, b, g, rfl, k1, k2, k3, k4⟩ := RowN.of (n := l.length) h2 h3.size
            exact ⟨B, b, g, h1, k1, k2, k3, k4, h3⟩
          exact vapart_main A s.length c A' r.length c' A'' l.length c'' s r l w rfl rfl hs hs' hs'' (i8s_one s) (i32s_one r) (i64s_one l) cs cU cV cW cT cM
            (fun v w' h => vlen_any v (VD.smalls s) w' h) (fun B b w' h h' => runes_yes B A' r r.length b c' rfl w' (by omega) h h')
            (fun v w' k h hk => vnum_in v (VD.smalls s) k w' h hk) awake_any (fun k hk => fi_same _ (hb _ (getD_mem hk))) h1 h2 h3
      · exact vapart_l3 _ _ _ _ _ _ _ _ _ w h1 h2 h3
    · exact vapart_l2 _ _ _ _ _ _ _ _ _ w h1 h2
  · exact vapart_l1 _ _ _ _ _ _ _ _ _ w h1
end Go.Proofs.Ytmjikdkdccnbaaa
