/- order.Invert. -/
import Derived.Test.YtidnikndjhfgaaaTa
import Derived.Test.YtidnikndjhfgaaaTb
namespace Go.Proofs.Ytidnikndjhfgaaa
open Go.ChangeShapes Go.WideShapes Go.RowKit Bv Fl
set_option maxHeartbeats 2000000
set_option maxRecDepth 100000
theorem i64s_get' {l : List Int} {k : Nat} (h : k < l.length) : (i64s l)[k]? = some (.int .i64 (l.getD k 0)) := i64s_get h
theorem split_inv (A : Prop) (x : Int) (n : Nat) (p : Int) : (A ∧ 0 ≤ x ∧ x < (n : Int) ∧ p < 0) ∨ (A ∧ x < 0) ∨ (A ∧ 0 ≤ x ∧ (n : Int) ≤ x) ∨ (A ∧ 0 ≤ x ∧ x < (n : Int) ∧ 0 ≤ p) ∨ ¬A := by
  by_cases a : A
  · by_cases h1 : x < 0
    · exact .inr (.inl ⟨a, h1⟩)
    · by_cases h2 : x < (n : Int)
      · by_cases h3 : p < 0
        · exact .inl ⟨a, by omega, h2, h3⟩
        · exact .inr (.inr (.inr (.inl ⟨a, by omega, h2, by omega⟩)))
      · exact .inr (.inr (.inl ⟨a, by omega, by omega⟩))
  · exact .inr (.inr (.inr (.inr a)))
theorem okI_stay {a : List Int} {k n : Nat} (h : okI a k = false) (hk : k ≤ n) : okI a n = false := by
  induction hk with
  | refl => exact h
  | step _ ih => show (_ && _) = false; rw [ih]; rfl
def InvP (b : Bool) (n : Nat) (L : List Int) (w : World) (e : Ending) (w' : World) : Prop := ∃ A m c, e = .returned (.tuple #[.slice A m c, .bool b]) ∧ (b = true → m = n ∧ Sl w' 1 A m (i64s L)) ∧ (b = false → m = 0) ∧ Ext w w'
theorem invert_any (A : Option Addr) (a : List Int) (n : Nat) (hn : n = a.length) (c : Nat) (w : World) (hN2 : n ≤ 1048576) (hs : Sl w 1 A n (i64s a)) : Calls Try.prog 12 #[.slice A n c] w (InvP (okI a n) n (posL a n) w) := by
  have HN := Lib.hid hn
  have HS := Lib.hid hs
  have HR0 : Hid (fillL (fun _ => .int .i64 (-1)) (.int .i64 0) n n = i64s (posL a 0)) := by
    show _ = _
    rw [fillL_full, posL_zero, ← hn]
    apply List.ext_getElem (by simp [i64s])
    intro i h1 h2
    simp [i64s]
  clear hn hs
  unfold InvP
  obtain ⟨b, hb⟩ : ∃ b, okI a n = b := ⟨_, rfl⟩
  rw [hb]
  have HB := Lib.hid hb
  clear hb
  have E := Ext.refl w
  go_enter Try.func12, Try.ntmps12
  have TM10 : True := trivial
  go_wp2_with (clear TM10; refine maker_int rfl rfl (n := n) rfl hN2 ?_; intro g10 w10 bg10 cg10 X10 Og10; have z1 := X10.size; replace E := E.trans X10; clear X10)
  go_loopw [13] (fun i wr => ∃ k : Nat, k ≤ n ∧ i = .int .i64 k ∧ Grw w10 g10 wr ∧ RowO 3 wr g10 n (fillL (fun _ => .int .i64 (-1)) (.int .i64 0) n k)) (fun i _ => n - (intOf i).toNat)
  case atStart => exact ⟨0, Nat.zero_le _, rfl, Grw.refl _ _, by rw [fillL_zero]; exact Og10⟩
  case round =>
    obtain ⟨k, hk, rfl, HG, O2⟩ := hrel
    clear Og10
    have Og10 := O2
    clear O2
    have z2 := HG.out.size
    replace E := grown_ext E HG.out (by omega)
    by_cases hlt : k < n
    · have HFK := Lib.hid (fillL_set (fun _ => .int .i64 (-1)) (.int .i64 0) hlt)
      have TG3 : True := trivial
      go_wp2_with (clear TG3; have hRl := Og10.lt; refine storesr_int rfl rfl (g := g10) (k := k) (n := n) (by rfl) rfl (by rfl) Og10 hlt ?_; clear Og10; intro s3 G3 Og10; have z4 := G3.size; replace E := grown_ext E G3 (by omega); replace HG := HG.grown G3 (by omega); clear hRl G3)
      exact ⟨⟨k + 1, by omega, by go_num, HG, by rw [← HFK.out]; exact Og10⟩, by simp [intOf]; omega⟩
    · have hkN : k = n := by omega
      rw [hkN, HR0.out] at Og10
      clear HG hkN
      go_wp2_with fail
      generalize wr = wq5 at *
      go_loopw [22] (fun i wr => ∃ k : Nat, k ≤ n ∧ i = .int .i64 k ∧ okI a k = true ∧ Grw wq5 g10 wr ∧ RowO 3 wr g10 n (i64s (posL a k))) (fun i _ => n - (intOf i).toNat)
      case atStart => exact ⟨0, Nat.zero_le _, rfl, rfl, Grw.refl _ _, Og10⟩
      case round =>
        obtain ⟨k, hk, rfl, hup, HG, O2⟩ := hrel
        clear Og10
        have Og10 := O2
        clear O2
        have z6 := HG.out.size
        replace E := grown_ext E HG.out (by omega)
        rcases split_inv (k < n) (a.getD k 0) n (posI a k (a.getD k 0)) with ⟨hlt, h1, h2, h3⟩ | ⟨hlt, h1⟩ | ⟨hlt, h1, h2⟩ | ⟨hlt, h1, h2, h3⟩ | hlt
        · obtain ⟨ad, u1, rfl, -, hu1, D0⟩ := (HS.out.ext E).at1 hlt
          rw [i64s_get' (by rw [← HN.out]; exact hlt)] at hu1
          cases hu1
          have HUk := Lib.hid hup
          clear hup
          obtain ⟨q, hqq⟩ : ∃ q : Nat, a.getD k 0 = (q : Int) := ⟨(a.getD k 0).toNat, by omega⟩
          have HSET : Hid ((i64s (posL a k)).set q (.int .i64 (k : Int)) = i64s (posL a (k + 1))) := by show _ = _; rw [← posL_set a k ⟨h1, by rw [← HN.out]; exact h2⟩, hqq, Int.toNat_natCast]; simp [i64s, List.map_set]
          have HK : Hid (okI a (k + 1) = true) := by show okI a (k + 1) = true; unfold okI; rw [HUk.out, decide_eq_true ⟨h1, by rw [← HN.out]; exact h2⟩, decide_eq_true h3]; rfl
          rw [hqq] at D0 h1 h2 h3
          have hq : q < n := by omega
          have D1 : wr.cell? ⟨g10, q, none⟩ = some (.int .i64 (posI a k (q : Int))) := by rw [World.ownsRow.cellAt Og10 q (by omega), i64s_get' (by rw [posL_length, ← HN.out]; exact hq), posL_get a k (by rw [← HN.out]; exact hq)]
          clear hqq
          generalize posI a k (q : Int) = pq at *
          have TG7 : True := trivial
          go_wp2_with (clear TG7; have hRl := Og10.lt; refine storesr_int rfl rfl (g := g10) (k := q) (n := n) (by rfl) rfl (by rfl) Og10 hq ?_; clear Og10; intro s7 G7 Og10; have z8 := G7.size; replace E := grown_ext E G7 (by omega); replace HG := HG.grown G7 (by omega); clear hRl G7)
          exact ⟨⟨k + 1, by omega, by go_num, HK.out, HG, by rw [← HSET.out]; exact Og10⟩, by simp [intOf]; omega⟩
        · obtain ⟨ad, u1, rfl, -, hu1, D0⟩ := (HS.out.ext E).at1 hlt
          rw [i64s_get' (by rw [← HN.out]; exact hlt)] at hu1
          cases hu1
          have HUk := Lib.hid hup
          clear hup
          have HK : Hid (okI a (k + 1) = false) := by show okI a (k + 1) = false; unfold okI; rw [decide_eq_false (fun h => absurd h.1 (by omega)), Bool.false_and, Bool.and_false]
          generalize a.getD k 0 = x at *
          go_wp2_with fail
          go_ret2
          exact ⟨none, 0, 0, by rw [show b = false from HB.out ▸ okI_stay (k := k + 1) HK.out (by omega)]; rfl, fun h => absurd h (by rw [show b = false from HB.out ▸ okI_stay (k := k + 1) HK.out (by omega)]; decide), fun _ => rfl, E⟩
        · obtain ⟨ad, u1, rfl, -, hu1, D0⟩ := (HS.out.ext E).at1 hlt
          rw [i64s_get' (by rw [← HN.out]; exact hlt)] at hu1
          cases hu1
          have HUk := Lib.hid hup
          clear hup
          have HK : Hid (okI a (k + 1) = false) := by show okI a (k + 1) = false; unfold okI; rw [decide_eq_false (fun h => absurd h.2 (by rw [← HN.out]; omega)), Bool.false_and, Bool.and_false]
          generalize a.getD k 0 = x at *
          go_wp2_with fail
          go_ret2
          exact ⟨none, 0, 0, by rw [show b = false from HB.out ▸ okI_stay (k := k + 1) HK.out (by omega)]; rfl, fun h => absurd h (by rw [show b = false from HB.out ▸ okI_stay (k := k + 1) HK.out (by omega)]; decide), fun _ => rfl, E⟩
        · obtain ⟨ad, u1, rfl, -, hu1, D0⟩ := (HS.out.ext E).at1 hlt
          rw [i64s_get' (by rw [← HN.out]; exact hlt)] at hu1
          cases hu1
          have HUk := Lib.hid hup
          clear hup
          have HK : Hid (okI a (k + 1) = false) := by show okI a (k + 1) = false; unfold okI; rw [decide_eq_false (p := posI a k (a.getD k 0) < 0) (by omega), Bool.and_false, Bool.and_false]
          obtain ⟨q, hqq⟩ : ∃ q : Nat, a.getD k 0 = (q : Int) := ⟨(a.getD k 0).toNat, by omega⟩
          rw [hqq] at D0 h1 h2 h3
          have hq : q < n := by omega
          have D1 : wr.cell? ⟨g10, q, none⟩ = some (.int .i64 (posI a k (q : Int))) := by rw [World.ownsRow.cellAt Og10 q (by omega), i64s_get' (by rw [posL_length, ← HN.out]; exact hq), posL_get a k (by rw [← HN.out]; exact hq)]
          clear hqq
          generalize posI a k (q : Int) = pq at *
          go_wp2_with fail
          go_ret2
          exact ⟨none, 0, 0, by rw [show b = false from HB.out ▸ okI_stay (k := k + 1) HK.out (by omega)]; rfl, fun h => absurd h (by rw [show b = false from HB.out ▸ okI_stay (k := k + 1) HK.out (by omega)]; decide), fun _ => rfl, E⟩
        · have hkN : k = n := by omega
          rw [hkN] at Og10 hup
          have HUN := Lib.hid hup
          clear HG hkN hup
          go_wp2_with fail
          go_ret2
          exact ⟨_, _, _, by rw [show b = true from HB.out ▸ HUN.out]; rfl, fun _ => ⟨rfl, Og10.sl⟩, fun h => absurd h (by rw [show b = true from HB.out ▸ HUN.out]; decide), E⟩
end Go.Proofs.Ytidnikndjhfgaaa
