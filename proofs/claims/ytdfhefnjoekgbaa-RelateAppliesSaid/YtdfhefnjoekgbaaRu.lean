/- rebusref11.Apply whole; RelateApplies. -/
import Derived.Test.YtdfhefnjoekgbaaRs
import Derived.Test.YtdfhefnjoekgbaaRt
namespace Go.Proofs.Ytdfhefnjoekgbaa
open Go.ChangeShapes Go.WideShapes Go.RowKit Bv Fl
set_option maxHeartbeats 2000000
set_option maxRecDepth 100000
section
variable (f : Int) (aA : Option Addr) (m ac : Nat) (x : Int) (bA : Option Addr) (n bc : Nat) (y : Int) (w : World)
theorem r11_bad1 (h : f < 11) : Calls Try.prog 53 #[.int .i64 f, .slice aA m ac, .int .i64 x, .slice bA n bc, .int .i64 y] w fun e w' => e = .returned (.tuple #[.slice none 0 0, .int .i64 1]) ∧ Ext w w' := by
  have E := Ext.refl w
  go_enter Try.func53, Try.ntmps53
  go_wp2_with fail
  go_ret2
  exact ⟨rfl, E⟩
theorem r11_bad2 (h : ¬ f < 11) (h2 : 16 < f) : Calls Try.prog 53 #[.int .i64 f, .slice aA m ac, .int .i64 x, .slice bA n bc, .int .i64 y] w fun e w' => e = .returned (.tuple #[.slice none 0 0, .int .i64 1]) ∧ Ext w w' := by
  have E := Ext.refl w
  go_enter Try.func53, Try.ntmps53
  go_wp2_with fail
  go_ret2
  exact ⟨rfl, E⟩
theorem r11_len (h1 : 11 ≤ f) (h2 : f ≤ 16) (cl : ∀ w', Calls Try.prog 75 #[.int .i64 (m : Int), .int .i64 (n : Int)] w' fun e w2 => e = .returned (.int .i64 (-1)) ∧ Ext w' w2)  : Calls Try.prog 53 #[.int .i64 f, .slice aA m ac, .int .i64 x, .slice bA n bc, .int .i64 y] w fun e w' => e = .returned (.tuple #[.slice none 0 0, .int .i64 23]) ∧ Ext w w' := by
  have E := Ext.refl w
  go_enter Try.func53, Try.ntmps53
  go_wp2_with fail
  refine (cl _).mono ?_
  rintro e w29 ⟨rfl, x⟩
  have z1 := x.size
  replace E := E.trans x
  clear x
  go_wp2_with fail
  go_ret2
  exact ⟨rfl, E⟩
theorem r11_dom1 (h1 : 11 ≤ f) (h2 : f ≤ 16) (N : Nat) (cl : ∀ w', Calls Try.prog 75 #[.int .i64 (m : Int), .int .i64 (n : Int)] w' fun e w2 => e = .returned (.int .i64 ((N : Int))) ∧ Ext w' w2) (hx : (x == 2) = true) : Calls Try.prog 53 #[.int .i64 f, .slice aA m ac, .int .i64 x, .slice bA n bc, .int .i64 y] w fun e w' => e = .returned (.tuple #[.slice none 0 0, .int .i64 24]) ∧ Ext w w' := by
  have E := Ext.refl w
  go_enter Try.func53, Try.ntmps53
  go_wp2_with fail
  refine (cl _).mono ?_
  rintro e w29 ⟨rfl, x⟩
  have z1 := x.size
  replace E := E.trans x
  clear x
  go_wp2_with fail
  go_ret2
  exact ⟨rfl, E⟩
theorem r11_dom2 (h1 : 11 ≤ f) (h2 : f ≤ 16) (N : Nat) (cl : ∀ w', Calls Try.prog 75 #[.int .i64 (m : Int), .int .i64 (n : Int)] w' fun e w2 => e = .returned (.int .i64 ((N : Int))) ∧ Ext w' w2) (hx : (x == 2) = false) (hy : (y == 2) = true) : Calls Try.prog 53 #[.int .i64 f, .slice aA m ac, .int .i64 x, .slice bA n bc, .int .i64 y] w fun e w' => e = .returned (.tuple #[.slice none 0 0, .int .i64 24]) ∧ Ext w w' := by
  have E := Ext.refl w
  go_enter Try.func53, Try.ntmps53
  go_wp2_with fail
  refine (cl _).mono ?_
  rintro e w29 ⟨rfl, x⟩
  have z1 := x.size
  replace E := E.trans x
  clear x
  go_wp2_with fail
  go_ret2
  exact ⟨rfl, E⟩
theorem r11_dom3 (h1 : 11 ≤ f) (h2 : f ≤ 16) (N : Nat) (cl : ∀ w', Calls Try.prog 75 #[.int .i64 (m : Int), .int .i64 (n : Int)] w' fun e w2 => e = .returned (.int .i64 ((N : Int))) ∧ Ext w' w2) (hx : (x == 2) = false) (hy : (y == 2) = false) (hz : (x != 0) = true) (h13 : (f != 13) = true) (h16 : (f != 16) = true)  : Calls Try.prog 53 #[.int .i64 f, .slice aA m ac, .int .i64 x, .slice bA n bc, .int .i64 y] w fun e w' => e = .returned (.tuple #[.slice none 0 0, .int .i64 24]) ∧ Ext w w' := by
  have E := Ext.refl w
  go_enter Try.func53, Try.ntmps53
  go_wp2_with fail
  refine (cl _).mono ?_
  rintro e w29 ⟨rfl, x⟩
  have z1 := x.size
  replace E := E.trans x
  clear x
  go_wp2_with fail
  go_ret2
  exact ⟨rfl, E⟩
theorem r11_dom4 (h1 : 11 ≤ f) (h2 : f ≤ 16) (N : Nat) (cl : ∀ w', Calls Try.prog 75 #[.int .i64 (m : Int), .int .i64 (n : Int)] w' fun e w2 => e = .returned (.int .i64 ((N : Int))) ∧ Ext w' w2) (hx : (x == 2) = false) (hy : (y == 2) = false) (hz : (x != 0) = false) (hz2 : (y != 0) = true) (h13 : (f != 13) = true) (h16 : (f != 16) = true)  : Calls Try.prog 53 #[.int .i64 f, .slice aA m ac, .int .i64 x, .slice bA n bc, .int .i64 y] w fun e w' => e = .returned (.tuple #[.slice none 0 0, .int .i64 24]) ∧ Ext w w' := by
  have E := Ext.refl w
  go_enter Try.func53, Try.ntmps53
  go_wp2_with fail
  refine (cl _).mono ?_
  rintro e w29 ⟨rfl, x⟩
  have z1 := x.size
  replace E := E.trans x
  clear x
  go_wp2_with fail
  go_ret2
  exact ⟨rfl, E⟩
end
theorem bools_tab (n : Nat) (g : Nat → Bool) : bools (tabL n g) = pre (fun k => .bool (g k)) n := by simp [bools, tabL, pre]
theorem pre_congr {n : Nat} {g h : Nat → Value} (e : ∀ k, k < n → g k = h k) : pre g n = pre h n := by
  unfold pre
  exact List.map_congr_left fun k hk => e k (List.mem_range.1 hk)
/-- Tidy's items -/
def TdL (p : Pl) (L : List It) : Prop := L.length = p.its.length ∧ ∀ k, k < p.its.length → TdX p k (L.getD k default)
theorem TdL.num {p : Pl} {L : List It} (h : TdL p L) (hp : p.fill = 0) {k : Nat} (hk : k < p.its.length) : (L.getD k default).num = (plN p).getD k 0 := by rw [(h.2 k hk).1 hp, plN_get p hk]
theorem TdL.chr {p : Pl} {L : List It} (h : TdL p L) (hp : p.fill = 1) {k : Nat} (hk : k < p.its.length) : (L.getD k default).chr = (plC p).getD k 0 := by rw [(h.2 k hk).2 hp, plC_get p hk]
theorem TdL.nn {p : Pl} {w : World} {L : List It} (h : TdL p L) (hF : Flt w p) (h0 : 0 ≤ p.fill) (h2 : p.fill ≤ 2) (hp : p.fill ≠ 2) {k : Nat} (hk : k < p.its.length) : Fl.nn (L.getD k default).num := by
  have h3 : p.fill = 0 ∨ p.fill = 1 := by omega
  rcases h3 with e | e
  · rw [(h.2 k hk).1 e]
    exact (dn_tidy _ (by simpa [Lit.wf] using (hF.itW _ (getD_memA hk)).num)).1.nn
  · rw [(h.2 k hk).2 e]
    exact (by decide : Fl.nn 0)
def R11 (f : Int) (p q : Pl) : List Bool := erL (itE f p.its.length q.its.length p.fill q.fill) (itL f p.fill q.fill p.its.length q.its.length (plN p) (plN q) (plC p) (plC q))
theorem GoodD.len {n : Nat} {w : World} {p : Pl} (h : GoodD n w p) : p.its.length ≤ 1048576 := by
  cases n with
  | zero => exact h.elim
  | succ n =>
    obtain ⟨_, _, _, _, hp2, _⟩ := h
    rw [← hp2]
    exact prV_le _
theorem r11_all (f : Int) (p q : Pl) (w0 w1 : World) (hFp : Flt w0 p) (hFq : Flt w1 q) (a0 : 0 ≤ p.fill) (a2 : p.fill ≤ 2) (b0 : 0 ≤ q.fill) (b2 : q.fill ≤ 2) (hm : p.its.length ≤ 1048576) (hn : q.its.length ≤ 1048576)
    (A : Option Addr) (c : Nat) (L : List It) (B : Option Addr) (d : Nat) (M : List It) (w : World) (S S' : Nat → Prop) (hL : TdL p L) (hM : TdL q M) (hA : SlS w 4 A p.its.length (itc L) S) (hB : SlS w 4 B q.its.length (itc M) S') :
    Calls Try.prog 53 #[.int .i64 f, .slice A p.its.length c, .int .i64 p.fill, .slice B q.its.length d, .int .i64 q.fill] w fun e w2 => ∃ R c, e = .returned (.tuple #[.slice R (R11 f p q).length c, .int .i64 (itE f p.its.length q.its.length p.fill q.fill)]) ∧ SlS w2 1 R (R11 f p q).length (bools (R11 f p q)) (New w.heap.size) ∧ Ext w w2 := by
  have err : ∀ k : Int, k ≠ 0 → itE f p.its.length q.its.length p.fill q.fill = k → Calls Try.prog 53 #[.int .i64 f, .slice A p.its.length c, .int .i64 p.fill, .slice B q.its.length d, .int .i64 q.fill] w (fun e w' => e = .returned (.tuple #[.slice none 0 0, .int .i64 k]) ∧ Ext w w') → Calls Try.prog 53 #[.int .i64 f, .slice A p.its.length c, .int .i64 p.fill, .slice B q.its.length d, .int .i64 q.fill] w fun e w2 => ∃ R c, e = .returned (.tuple #[.slice R (R11 f p q).length c, .int .i64 (itE f p.its.length q.its.length p.fill q.fill)]) ∧ SlS w2 1 R (R11 f p q).length (bools (R11 f p q)) (New w.heap.size) ∧ Ext w w2 := by
    intro k hk hE h
    have h0 : R11 f p q = [] := by unfold R11 erL; rw [if_neg (by rw [hE]; exact hk)]
    rw [h0, hE]
    refine h.mono ?_
    rintro e w' ⟨rfl, hx⟩
    exact ⟨none, 0, rfl, fun w2 _ _ => Sl.nil _ _ _, hx⟩
  by_cases h1 : f < 11
  · exact err 1 (by decide) (by unfold itE; rw [if_pos (.inl h1)]) (r11_bad1 f _ _ _ _ _ _ _ _ w h1)
  by_cases h2 : 16 < f
  · exact err 1 (by decide) (by unfold itE; rw [if_pos (.inr h2)]) (r11_bad2 f _ _ _ _ _ _ _ _ w h1 h2)
  have f1 : 11 ≤ f := by omega
  have f2 : f ≤ 16 := by omega
  have cl0 : ∀ w', Calls Try.prog 75 #[.int .i64 (p.its.length : Int), .int .i64 (q.its.length : Int)] w' fun e w2 => e = .returned (.int .i64 (rlenV p.its.length q.its.length)) ∧ Ext w' w2 := fun w' => (rlength_any _ _ w').mono fun e w2 h => ⟨h.1, h.2 ▸ Ext.refl _⟩
  cases hle : lenOk (p.its.length : Int) (q.its.length : Int)
  · rw [(rlen_no hle).1] at cl0
    exact err 23 (by decide) (by unfold itE; rw [if_neg (by omega), if_pos hle]) (r11_len f _ _ _ _ _ _ _ _ w f1 f2 cl0)
  obtain ⟨N, hN, hNm, hNn, hNo⟩ := lenV_pos hle
  rw [rlen_ok hle, hN] at cl0
  by_cases p2 : p.fill = 2
  · exact err 24 (by decide) (by unfold itE; rw [if_neg (by omega), if_neg (by rw [hle]; decide), if_pos (.inl p2)]) (r11_dom1 f _ _ _ _ _ _ _ _ w f1 f2 N cl0 (by simp [p2]))
  by_cases q2 : q.fill = 2
  · exact err 24 (by decide) (by unfold itE; rw [if_neg (by omega), if_neg (by rw [hle]; decide), if_pos (.inr (.inl q2))]) (r11_dom2 f _ _ _ _ _ _ _ _ w f1 f2 N cl0 (by simp [p2]) (by simp [q2]))
  by_cases hdm : (p.fill ≠ 0 ∨ q.fill ≠ 0) ∧ f ≠ 13 ∧ f ≠ 16
  · have hE : itE f p.its.length q.its.length p.fill q.fill = 24 := by unfold itE; rw [if_neg (by omega), if_neg (by rw [hle]; decide), if_pos (.inr (.inr hdm))]
    obtain ⟨hxy, n13, n16⟩ := hdm
    by_cases e : p.fill = 0
    · exact err 24 (by decide) hE (r11_dom4 f _ _ _ _ _ _ _ _ w f1 f2 N cl0 (by simp [p2]) (by simp [q2]) (by simp [e]) (by simp; omega) (by simpa using n13) (by simpa using n16))
    · exact err 24 (by decide) hE (r11_dom3 f _ _ _ _ _ _ _ _ w f1 f2 N cl0 (by simp [p2]) (by simp [q2]) (by simpa using e) (by simpa using n13) (by simpa using n16))
  have hE : itE f p.its.length q.its.length p.fill q.fill = 0 := by unfold itE; rw [if_neg (by omega), if_neg (by rw [hle]; decide), if_neg (by omega)]
  have hR : R11 f p q = tabL N fun k => itB f p.fill q.fill ((plN p).getD (ixN p.its.length k) 0) ((plN q).getD (ixN q.its.length k) 0) ((plC p).getD (ixN p.its.length k) 0) ((plC q).getD (ixN q.its.length k) 0) := by
    unfold R11 erL itL
    rw [if_pos hE, hN, Int.toNat_natCast]
  have hRl : (R11 f p q).length = N := by rw [hR]; exact tabL_length _ _
  have hx : ∀ k, k < N → ixN p.its.length k < p.its.length := fun k hk => ixN_lt (by omega) hk
  have hy : ∀ k, k < N → ixN q.its.length k < q.its.length := fun k hk => ixN_lt (by omega) hk
  have cr : ∀ i j w', i < p.its.length → j < q.its.length → Calls Try.prog 48 #[.int .i64 f, .float .f64 (L.getD i default).num, .float .f64 (M.getD j default).num] w' fun e w2 => e = .returned (.tuple #[.bool (relB f (L.getD i default).num (M.getD j default).num), .int .i64 0]) ∧ Ext w' w2 := fun i j w' hi hj => (rro_any f _ _ (hL.nn hFp a0 a2 p2 hi) (hM.nn hFq b0 b2 q2 hj) w').mono fun e w2 h => ⟨by rw [h.1, if_pos (show okR f = true from decide_eq_true ⟨f1, f2⟩)], h.2 ▸ Ext.refl _⟩
  have HA : Hid (∀ k, k < p.its.length → ∃ a, A = some a ∧ Rd (fun w' => ItAt w' (a.add (k * 4)) (L.getD k default)) w (fun i => i < w.heap.size)) := fun k hk => by
    obtain ⟨a, e, h⟩ := hA.item hL.1 hk
    exact ⟨a, e, h.now.mono fun i hi h => hi⟩
  have HB : Hid (∀ k, k < q.its.length → ∃ a, B = some a ∧ Rd (fun w' => ItAt w' (a.add (k * 4)) (M.getD k default)) w (fun i => i < w.heap.size)) := fun k hk => by
    obtain ⟨a, e, h⟩ := hB.item hM.1 hk
    exact ⟨a, e, h.now.mono fun i hi h => hi⟩
  have fin : ∀ g : Nat → Bool, (∀ k, k < N → g k = itB f p.fill q.fill ((plN p).getD (ixN p.its.length k) 0) ((plN q).getD (ixN q.its.length k) 0) ((plC p).getD (ixN p.its.length k) 0) ((plC q).getD (ixN q.its.length k) 0)) → Calls Try.prog 53 #[.int .i64 f, .slice A p.its.length c, .int .i64 p.fill, .slice B q.its.length d, .int .i64 q.fill] w (fun e w' => ∃ A c, e = .returned (.tuple #[.slice A N c, .int .i64 0]) ∧ SlS w' 1 A N (pre (fun k => .bool (g k)) N) (New w.heap.size) ∧ Ext w w') → Calls Try.prog 53 #[.int .i64 f, .slice A p.its.length c, .int .i64 p.fill, .slice B q.its.length d, .int .i64 q.fill] w fun e w2 => ∃ R c, e = .returned (.tuple #[.slice R (R11 f p q).length c, .int .i64 (itE f p.its.length q.its.length p.fill q.fill)]) ∧ SlS w2 1 R (R11 f p q).length (bools (R11 f p q)) (New w.heap.size) ∧ Ext w w2 := by
    intro g hg h
    have hb : bools (R11 f p q) = pre (fun k => .bool (g k)) N := by
      rw [hR, bools_tab]
      exact pre_congr fun k hk => by rw [hg k hk]
    rw [hRl, hE, hb]
    exact h
  by_cases h0 : p.fill = 0 ∧ q.fill = 0
  · obtain ⟨p0, q0⟩ := h0
    have := r11app_num A p.its.length c B q.its.length d w N (by omega) _ _ HA HB cl0 hNm hNn f f1 f2 cr
    refine fin _ (fun k hk => ?_) (by rw [p0, q0]; exact this)
    rw [hL.num p0 (hx k hk), hM.num q0 (hy k hk)]
    unfold itB
    rw [if_pos ⟨p0, q0⟩]
  have hf : f = 13 ∨ f = 16 := by omega
  by_cases e : p.fill = q.fill
  · have p1 : p.fill = 1 := by omega
    have q1 : q.fill = 1 := by omega
    have key : ∀ k, k < N → itB f p.fill q.fill ((plN p).getD (ixN p.its.length k) 0) ((plN q).getD (ixN q.its.length k) 0) ((plC p).getD (ixN p.its.length k) 0) ((plC q).getD (ixN q.its.length k) 0) = (((L.getD (ixN p.its.length k) default).chr == (M.getD (ixN q.its.length k) default).chr) == (f == 13)) := fun k hk => by
      rw [hL.chr p1 (hx k hk), hM.chr q1 (hy k hk)]
      unfold itB
      rw [if_neg (by omega), p1, q1]
      simp
    rcases hf with rfl | rfl
    · refine fin _ (fun k hk => ?_) (by rw [p1, q1]; exact r11app_chr13 A p.its.length c B q.its.length d w N (by omega) _ _ HA HB cl0 hNm hNn cr)
      rw [key k hk]; simp
    · refine fin _ (fun k hk => ?_) (by rw [p1, q1]; exact r11app_chr16 A p.its.length c B q.its.length d w N (by omega) _ _ HA HB cl0 hNm hNn cr)
      rw [key k hk]; simp
  · have key : ∀ k, k < N → itB f p.fill q.fill ((plN p).getD (ixN p.its.length k) 0) ((plN q).getD (ixN q.its.length k) 0) ((plC p).getD (ixN p.its.length k) 0) ((plC q).getD (ixN q.its.length k) 0) = (false == (f == 13)) := fun k hk => by
      unfold itB
      rw [if_neg (by omega), show (p.fill == q.fill) = false by simpa using e, Bool.false_and]
    have hz : (p.fill = 0 ∧ q.fill = 1) ∨ (p.fill = 1 ∧ q.fill = 0) := by omega
    rcases hf with rfl | rfl <;> rcases hz with ⟨z1, z2⟩ | ⟨z1, z2⟩
    · exact fin _ (fun k hk => (key k hk).symm) (by rw [z1, z2]; exact r11app_mix1301 A p.its.length c B q.its.length d w N (by omega) _ _ HA HB cl0 hNm hNn cr)
    · exact fin _ (fun k hk => (key k hk).symm) (by rw [z1, z2]; exact r11app_mix1310 A p.its.length c B q.its.length d w N (by omega) _ _ HA HB cl0 hNm hNn cr)
    · exact fin _ (fun k hk => (key k hk).symm) (by rw [z1, z2]; exact r11app_mix1601 A p.its.length c B q.its.length d w N (by omega) _ _ HA HB cl0 hNm hNn cr)
    · exact fin _ (fun k hk => (key k hk).symm) (by rw [z1, z2]; exact r11app_mix1610 A p.its.length c B q.its.length d w N (by omega) _ _ HA HB cl0 hNm hNn cr)
theorem relateApplies_walk (w : World) (f : Int) (_ : (Lit.int .i64 f).wf = true) (p : Pl) (n : Nat) (hp : Deep n w p) (q : Pl) (n' : Nat) (hq : Deep n' w q) :
    Calls Try.prog 12 #[.int .i64 f, p.val, q.val] w fun e w' => e = .returned (.bool true) ∧ Ext w w' := by
  obtain ⟨zc, hg, hck⟩ := plCheck n w p hp
  obtain ⟨zd, hg', hck'⟩ := plCheck n' w q hq
  have cn := fun w' (hx : Ext w w') => plcount_any n w' p 3000 (hp.ext hx)
  have dn' := fun w' (hx : Ext w w') => plcount_any n' w' q 3000 (hq.ext hx)
  have rg1 := fun w' (hx : Ext w w') => rgood_any p.sA p.sh.length p.sc p.iA p.its.length p.ic p.fill zc w' (fun w2 h2 => cn w2 (hx.trans h2)) (fun w2 h2 => hck w2 (hx.trans h2))
  have rg2 := fun w' (hx : Ext w w') => rgood_any q.sA q.sh.length q.sc q.iA q.its.length q.ic q.fill zd w' (fun w2 h2 => dn' w2 (hx.trans h2)) (fun w2 h2 => hck' w2 (hx.trans h2))
  by_cases h : zc = 0 ∧ zd = 0
  · obtain ⟨h1, h3⟩ := h
    have G := hg h1
    have G' := hg' h3
    obtain ⟨hF, a0, a2⟩ := G.fills
    obtain ⟨hF', b0, b2⟩ := G'.fills
    have hm : p.its.length ≤ 1048576 := G.len
    have hn : q.its.length ≤ 1048576 := G'.len
    have ct : ∀ w', Ext w w' → Calls Try.prog 51 #[p.val] w' fun e w2 => ∃ A c L, e = .returned (.agg #[.slice p.sA p.sh.length p.sc, .slice A p.its.length c, .int .i64 p.fill]) ∧ TdL p L ∧ SlS w2 4 A p.its.length (itc L) (New w'.heap.size) ∧ Ext w' w2 := fun w' hx => (tidy_its 40 w w' p G hx).mono fun e w2 ⟨A, c, L, h1, h2, h3, h4, h5⟩ => ⟨A, c, L, h1, ⟨h2, h3⟩, h4, h5⟩
    have cu : ∀ w', Ext w w' → Calls Try.prog 51 #[q.val] w' fun e w2 => ∃ A c L, e = .returned (.agg #[.slice q.sA q.sh.length q.sc, .slice A q.its.length c, .int .i64 q.fill]) ∧ TdL q L ∧ SlS w2 4 A q.its.length (itc L) (New w'.heap.size) ∧ Ext w' w2 := fun w' hx => (tidy_its 40 w w' q G' hx).mono fun e w2 ⟨A, c, L, h1, h2, h3, h4, h5⟩ => ⟨A, c, L, h1, ⟨h2, h3⟩, h4, h5⟩
    have co := fun w' (hx : Ext w w') => lOf_all w w' p G hx
    have cv := fun w' (hx : Ext w w') => lOf_all w w' q G' hx
    have ca := fun v u w' (hv : OfP p v w') (hu : OfP q u w') => rapply_pl f v u p q w' a0 a2 b0 b2 hm hn hv hu
    have cr := fun A c L B d M w' S S' (h1 : TdL p L) (h2 : TdL q M) (h3 : SlS w' 4 A p.its.length (itc L) S) (h4 : SlS w' 4 B q.its.length (itc M) S') => r11_all f p q w w hF hF' a0 a2 b0 b2 hm hn A c L B d M w' S S' h1 h2 h3 h4
    have cpk : ∀ v w, IsVec w v (erD (itE f p.its.length q.its.length p.fill q.fill) (itL f p.fill q.fill p.its.length q.its.length (plN p) (plN q) (plC p) (plC q))) → Calls Try.prog 36 #[v] w fun e w' => ∃ u, e = .returned (.tuple #[u, .bool (itE f p.its.length q.its.length p.fill q.fill == 0)]) ∧ (∀ S, VecS w v (erD (itE f p.its.length q.its.length p.fill q.fill) (itL f p.fill q.fill p.its.length q.its.length (plN p) (plN q) (plC p) (plC q))) S → BitS w' u (R11 f p q) S) ∧ Ext w w' := fun v w h => by
      have := packed_u v _ (erD_cases _ _) w h
      unfold PackedU at this
      rw [erD_kind, erD_bits] at this
      exact this
    have hl : (R11 f p q).length ≤ 1048576 := erL_le (by unfold itL; rw [tabL_length]; exact lenV_le hm hn)
    exact rappl_main _ _ _ _ _ _ _ _ _ _ _ _ _ _ f w _ rg1 _ rg2 _ _ _ _ ct cu co cv _ _ _ _ ca cr _ rfl cpk rfl hl
  · exact rappl_out _ _ _ _ _ _ _ _ _ _ _ _ _ _ f w _ rg1 _ rg2 fun h1 h2 => h ⟨h1, h2⟩
end Go.Proofs.Ytdfhefnjoekgbaa
