/- relate.Apply of what plain arrays hold, in one contract. -/
import Derived.Test.YtdfhefnjoekgbaaRm
import Derived.Test.YtdfhefnjoekgbaaYl
namespace Go.Proofs.Ytdfhefnjoekgbaa
open Go.ChangeShapes Go.WideShapes Go.RowKit Bv Fl
set_option maxHeartbeats 2000000
set_option maxRecDepth 100000
/-- a relation of two items of the classes x and y -/
def itB (f x y : Int) (a b : Nat) (c d : Int) : Bool := if x = 0 ∧ y = 0 then relB f a b else ((x == y && c == d) == (f == 13))
/-- the error of two lists of items -/
def itE (f : Int) (m n : Nat) (x y : Int) : Int := if f < 11 ∨ 16 < f then 1 else if lenOk (m : Int) (n : Int) = false then 23 else if x = 2 ∨ y = 2 ∨ ((x ≠ 0 ∨ y ≠ 0) ∧ f ≠ 13 ∧ f ≠ 16) then 24 else 0
def itL (f x y : Int) (m n : Nat) (P Q : List Nat) (C D : List Int) : List Bool := tabL (lenV (m : Int) (n : Int)).toNat fun k => itB f x y (P.getD (ixN m k) 0) (Q.getD (ixN n k) 0) (C.getD (ixN m k) 0) (D.getD (ixN n k) 0)
/-- what is told: nothing, or the truths -/
def erL (E : Int) (L : List Bool) : List Bool := if E = 0 then L else []
def erD (E : Int) (L : List Bool) : VD := if E = 0 then VD.bits L else VD.none
theorem erD_cases (E : Int) (L : List Bool) : erD E L = VD.none ∨ ∃ b, erD E L = VD.bits b := by
  unfold erD; split
  · exact .inr ⟨_, rfl⟩
  · exact .inl rfl
theorem erD_kind (E : Int) (L : List Bool) : ((erD E L).kind == 1) = (E == 0) := by
  unfold erD; split
  · rename_i h; rw [h]; rfl
  · rename_i h
    rw [show (E == 0) = false by simpa using h]; rfl
theorem erD_bits (E : Int) (L : List Bool) : bitsOf (erD E L) = erL E L := by
  unfold erD erL; split
  · exact bitsOf_bits _
  · exact bitsOf_none
theorem erL_le {E : Int} {L : List Bool} {k : Nat} (h : L.length ≤ k) : (erL E L).length ≤ k := by
  unfold erL; split
  · exact h
  · exact Nat.zero_le _
theorem lenV_le {m n k : Nat} (hm : m ≤ k) (hn : n ≤ k) : (lenV (m : Int) (n : Int)).toNat ≤ k := by
  unfold lenV; repeat (first | split | omega)
theorem OfP.len {p : Pl} {v : Value} {w : World} (h0 : 0 ≤ p.fill) (h2 : p.fill ≤ 2) (h : OfP p v w) (w' : World) (hx : Ext w w') : Calls Try.prog 30 #[v] w' fun e w2 => e = .returned (.int .i64 (p.its.length : Int)) ∧ Ext w' w2 := by
  have h3 : p.fill = 0 ∨ p.fill = 1 ∨ p.fill = 2 := by omega
  rcases h3 with e | e | e
  · have := nlen_any v _ _ w' ((h.1 e).ext hx)
    rwa [plN_len] at this
  · have := vlen_any v _ w' ((h.2.1 e).ext hx)
    rwa [show (VD.chars (plC p)).len = p.its.length from plC_len p] at this
  · obtain ⟨cs, hl, hv⟩ := h.2.2 e
    have := vlen_any v _ w' (hv.ext hx)
    rwa [show (VD.boxes cs).len = p.its.length by show cs.length / 9 = _; omega] at this
theorem chrI_chars (X : List Int) (i : Nat) (h : i < X.length) : (VD.chars X).chrI (i : Int) = X.getD i 0 := by
  have hl : (VD.chars X).len = X.length := rfl
  unfold VD.chrI
  rw [if_pos ⟨by omega, by rw [hl]; omega, rfl⟩, Int.toNat_natCast]
  rfl
theorem tabL_ext2 (n : Nat) (f g : Nat → Bool) (h : ∀ j, j < n → f j = g j) : VD.bits (tabL n f) = VD.bits (tabL n g) := by rw [tabL_ext n f g h]
theorem rapply_pl (f : Int) (v u : Value) (p q : Pl) (w : World) (a0 : 0 ≤ p.fill) (a2 : p.fill ≤ 2) (b0 : 0 ≤ q.fill) (b2 : q.fill ≤ 2) (hm : p.its.length ≤ 1048576) (hn : q.its.length ≤ 1048576) (hv : OfP p v w) (hu : OfP q u w) :
    Calls Try.prog 49 #[.int .i64 f, v, u] w (AppU (itE f p.its.length q.its.length p.fill q.fill) (erD (itE f p.its.length q.its.length p.fill q.fill) (itL f p.fill q.fill p.its.length q.its.length (plN p) (plN q) (plC p) (plC q))) w) := by
  have hF := hv.flat a0 a2
  have hG := hu.flat b0 b2
  have ca := hv.len a0 a2
  have cb := hu.len b0 b2
  have da := hv.cls a0 a2
  have db := hu.cls b0 b2
  have err : ∀ k : Int, k ≠ 0 → itE f p.its.length q.its.length p.fill q.fill = k → Calls Try.prog 49 #[.int .i64 f, v, u] w (fun e w' => e = .returned (.tuple #[zeroVec, .int .i64 k]) ∧ Ext w w') → Calls Try.prog 49 #[.int .i64 f, v, u] w (AppU (itE f p.its.length q.its.length p.fill q.fill) (erD (itE f p.its.length q.its.length p.fill q.fill) (itL f p.fill q.fill p.its.length q.its.length (plN p) (plN q) (plC p) (plC q))) w) := by
    intro k hk hE h
    refine h.mono ?_
    rintro e w' ⟨rfl, hx⟩
    refine ⟨_, by rw [hE], ?_, hx⟩
    unfold erD
    rw [if_neg (by rw [hE]; exact hk)]
    exact VecS.zero
  by_cases h1 : f < 11
  · exact err 1 (by decide) (by unfold itE; rw [if_pos (.inl h1)]) (rapp_bad1 f v u w h1 hF hG)
  by_cases h2 : 16 < f
  · exact err 1 (by decide) (by unfold itE; rw [if_pos (.inr h2)]) (rapp_bad2 f v u w h1 h2 hF hG)
  have hf : 11 ≤ f ∧ f ≤ 16 := by omega
  cases hle : lenOk (p.its.length : Int) (q.its.length : Int)
  · exact err 23 (by decide) (by unfold itE; rw [if_neg (by omega), if_pos hle]) (rapp_len f v u w hf _ _ ca cb hle hF hG)
  obtain ⟨N, hN, hNm, hNn, hNo⟩ := lenV_pos hle
  have hN2 : N ≤ 1048576 := by omega
  have hL : itL f p.fill q.fill p.its.length q.its.length (plN p) (plN q) (plC p) (plC q) = tabL N fun k => itB f p.fill q.fill ((plN p).getD (ixN p.its.length k) 0) ((plN q).getD (ixN q.its.length k) 0) ((plC p).getD (ixN p.its.length k) 0) ((plC q).getD (ixN q.its.length k) 0) := by
    unfold itL; rw [hN, Int.toNat_natCast]
  by_cases p2 : p.fill = 2
  · exact err 24 (by decide) (by unfold itE; rw [if_neg (by omega), if_neg (by rw [hle]; decide), if_pos (.inl p2)]) (rapp_box1 f v u w hf _ _ ca cb hle N hN _ da (by simp [p2]) hF hG)
  by_cases q2 : q.fill = 2
  · exact err 24 (by decide) (by unfold itE; rw [if_neg (by omega), if_neg (by rw [hle]; decide), if_pos (.inr (.inl q2))]) (rapp_box2 f v u w hf _ _ ca cb hle N hN _ _ da db (by simp [p2]) (by simp [q2]) hF hG)
  by_cases h0 : p.fill = 0 ∧ q.fill = 0
  · obtain ⟨p0, q0⟩ := h0
    have hE : itE f p.its.length q.its.length p.fill q.fill = 0 := by unfold itE; rw [if_neg (by omega), if_neg (by rw [hle]; decide), if_neg (by omega)]
    have h := rapply_num f v u _ _ (plN p) (plN q) (by rw [plN_len]; exact hm) (by rw [plN_len]; exact hn) w (hv.1 p0) (hu.1 q0)
    have hE' : relE f (plN p).length (plN q).length = 0 := by unfold relE; rw [plN_len, plN_len, if_neg (by omega), if_neg (by rw [hle]; decide)]
    rw [hE'] at h
    rw [hE]
    have hD : relD f (plN p) (plN q) = erD 0 (itL f p.fill q.fill p.its.length q.its.length (plN p) (plN q) (plC p) (plC q)) := by
      unfold relD relLL erD
      rw [if_pos hE', if_pos hE', if_pos rfl, hL, plN_len, plN_len, hN, Int.toNat_natCast]
      unfold relL
      apply tabL_ext2
      intro j _
      unfold itB pkN
      rw [if_pos ⟨p0, q0⟩, plN_len, plN_len]
    rwa [hD] at h
  have hxy : p.fill ≠ 0 ∨ q.fill ≠ 0 := by omega
  by_cases hdom : f ≠ 13 ∧ f ≠ 16
  · have hE : itE f p.its.length q.its.length p.fill q.fill = 24 := by unfold itE; rw [if_neg (by omega), if_neg (by rw [hle]; decide), if_pos (.inr (.inr ⟨hxy, hdom⟩))]
    have cc : ∀ w', Ext w w' → Calls Try.prog 78 #[.int .i64 f, .int .i64 (N : Int), v, u] w' fun e w2 => e = .returned (.tuple #[zeroVec, .int .i64 24]) ∧ Ext w' w2 := fun w' _ => chars_dom f v u w' (by simpa using hdom.1) (by simpa using hdom.2) N hF hG
    refine err 24 (by decide) hE ?_
    by_cases e : p.fill = q.fill
    · exact rapp_chars2 f v u w hf _ _ ca cb hle N hN _ _ da db (by simp [p2]) (by simp [q2]) (by simp [e]) (by simp; omega) cc hF hG
    · exact rapp_chars1 f v u w hf _ _ ca cb hle N hN _ _ da db (by simp [p2]) (by simp [q2]) (by simpa using e) cc hF hG
  have hE : itE f p.its.length q.its.length p.fill q.fill = 0 := by unfold itE; rw [if_neg (by omega), if_neg (by rw [hle]; decide), if_neg (by omega)]
  rw [hE]
  have hD : erD 0 (itL f p.fill q.fill p.its.length q.its.length (plN p) (plN q) (plC p) (plC q)) = VD.bits (tabL N fun k => itB f p.fill q.fill ((plN p).getD (ixN p.its.length k) 0) ((plN q).getD (ixN q.its.length k) 0) ((plC p).getD (ixN p.its.length k) 0) ((plC q).getD (ixN q.its.length k) 0)) := by
    unfold erD; rw [if_pos rfl, hL]
  rw [hD]
  by_cases e : p.fill = q.fill
  · have p1 : p.fill = 1 := by omega
    have q1 : q.fill = 1 := by omega
    have hv1 := hv.2.1 p1
    have hu1 := hu.2.1 q1
    have ck : ∀ w', Ext w w' → ∀ k : Nat, k < N → ∃ i j : Int, (∀ w2, Ext w' w2 → Calls Try.prog 94 #[v, .int .i64 (k : Nat)] w2 fun e w3 => e = .returned (.int .i64 i) ∧ Ext w2 w3) ∧ (∀ w2, Ext w' w2 → Calls Try.prog 93 #[v, .int .i64 i] w2 fun e w3 => e = .returned (.int .i32 ((plC p).getD (ixN p.its.length k) 0)) ∧ Ext w2 w3) ∧ (∀ w2, Ext w' w2 → Calls Try.prog 94 #[u, .int .i64 (k : Nat)] w2 fun e w3 => e = .returned (.int .i64 j) ∧ Ext w2 w3) ∧ (∀ w2, Ext w' w2 → Calls Try.prog 93 #[u, .int .i64 j] w2 fun e w3 => e = .returned (.int .i32 ((plC q).getD (ixN q.its.length k) 0)) ∧ Ext w2 w3) := fun w' hx k hk => by
      have eP : (VD.chars (plC p)).chrI ((ixN (VD.chars (plC p)).len k : Nat) : Int) = (plC p).getD (ixN p.its.length k) 0 := by
        rw [show (VD.chars (plC p)).len = p.its.length from plC_len p]
        have hi : ixN p.its.length k < p.its.length := ixN_lt (by omega) hk
        exact chrI_chars _ _ (by rw [plC_len]; exact hi)
      have eQ : (VD.chars (plC q)).chrI ((ixN (VD.chars (plC q)).len k : Nat) : Int) = (plC q).getD (ixN q.its.length k) 0 := by
        rw [show (VD.chars (plC q)).len = q.its.length from plC_len q]
        have hi : ixN q.its.length k < q.its.length := ixN_lt (by omega) hk
        exact chrI_chars _ _ (by rw [plC_len]; exact hi)
      refine ⟨_, _, fun w2 h2 => at_r v _ k w2 (hv1.ext (hx.trans h2)), fun w2 h2 => ?_, fun w2 h2 => at_r u _ k w2 (hu1.ext (hx.trans h2)), fun w2 h2 => ?_⟩
      · have := vchar_any v _ ((ixN (VD.chars (plC p)).len k : Nat) : Int) w2 (hv1.ext (hx.trans h2))
        rwa [eP] at this
      · have := vchar_any u _ ((ixN (VD.chars (plC q)).len k : Nat) : Int) w2 (hu1.ext (hx.trans h2))
        rwa [eQ] at this
    by_cases f13 : f = 13
    · subst f13
      refine (rapp_chars2_yes 13 v u w (by omega) _ _ ca cb hle N hN _ _ da db (by simp [p2]) (by simp [q2]) (by simp [e]) (by simp [p1]) _ (fun w' h => chars_eq v u w' N hN2 hF hG _ _ (fun w2 h2 => da w2 (h.trans h2)) (fun w2 h2 => db w2 (h.trans h2)) (by simp [e]) _ _ (ck w' h)) hF hG).mono ?_
      rintro e2 w2 ⟨r, rfl, hr, hx⟩
      refine ⟨r, rfl, ?_, hx⟩
      rw [tabL_ext2 N _ _ fun j _ => show itB 13 p.fill q.fill _ _ _ _ = ((plC p).getD (ixN p.its.length j) 0 == (plC q).getD (ixN q.its.length j) 0) by unfold itB; rw [if_neg (by omega)]; simp [e]]
      exact hr
    · have f16 : f = 16 := by omega
      subst f16
      refine (rapp_chars2_yes 16 v u w (by omega) _ _ ca cb hle N hN _ _ da db (by simp [p2]) (by simp [q2]) (by simp [e]) (by simp [p1]) _ (fun w' h => chars_ne v u w' N hN2 hF hG _ _ (fun w2 h2 => da w2 (h.trans h2)) (fun w2 h2 => db w2 (h.trans h2)) (by simp [e]) _ _ (ck w' h)) hF hG).mono ?_
      rintro e2 w2 ⟨r, rfl, hr, hx⟩
      refine ⟨r, rfl, ?_, hx⟩
      rw [tabL_ext2 N _ _ fun j _ => show itB 16 p.fill q.fill _ _ _ _ = ((plC p).getD (ixN p.its.length j) 0 != (plC q).getD (ixN q.its.length j) 0) by unfold itB; rw [if_neg (by omega)]; simp [e, bne]]
      exact hr
  · have en : (p.fill == q.fill) = false := by simpa using e
    by_cases f13 : f = 13
    · subst f13
      refine (rapp_chars1_yes 13 v u w (by omega) _ _ ca cb hle N hN _ _ da db (by simp [p2]) (by simp [q2]) (by simpa using e) _ (fun w' h => chars_eq_not v u w' N hN2 hF hG _ _ (fun w2 h2 => da w2 (h.trans h2)) (fun w2 h2 => db w2 (h.trans h2)) en) hF hG).mono ?_
      rintro e2 w2 ⟨r, rfl, hr, hx⟩
      refine ⟨r, rfl, ?_, hx⟩
      rw [tabL_ext2 N _ _ fun j _ => show itB 13 p.fill q.fill _ _ _ _ = false by unfold itB; rw [if_neg (by omega)]; simp [en]]
      exact hr
    · have f16 : f = 16 := by omega
      subst f16
      refine (rapp_chars1_yes 16 v u w (by omega) _ _ ca cb hle N hN _ _ da db (by simp [p2]) (by simp [q2]) (by simpa using e) _ (fun w' h => chars_ne_not v u w' N hN2 hF hG _ _ (fun w2 h2 => da w2 (h.trans h2)) (fun w2 h2 => db w2 (h.trans h2)) en) hF hG).mono ?_
      rintro e2 w2 ⟨r, rfl, hr, hx⟩
      refine ⟨r, rfl, ?_, hx⟩
      rw [tabL_ext2 N _ _ fun j _ => show itB 16 p.fill q.fill _ _ _ _ = true by unfold itB; rw [if_neg (by omega)]; simp [en]]
      exact hr
end Go.Proofs.Ytdfhefnjoekgbaa
