/- What a Vec holds: plain words.
   Contracts of vec: in, Num, Whole, Char, Packed.
   Contracts of vec: Char, Packed, Nums, Wholes, Text, Arrays.
   Contracts of vec: Nums of others, Wholes, Packed, Text, Arrays.
   Contracts of vec: the makers.
   Contracts of vec: Ints, Floats, None, Packed.
   Contracts of vec: Floats, None, Packed. -/
import Derived.Test.YtdkgiklbmbkdaaaB
import Derived.Test.YtdkgiklbmbkdaaaN
namespace Go.Proofs.Ytdkgiklbmbkdaaa
open Go.RowKit Bv Fl

/-- a Vec's content: its store, and the elements in that store -/
structure VD where
  kind : Nat
  bs : List Bool
  ns : List Int
  fs : List Nat
  cs : List Value
namespace VD
def none : VD := ⟨0, [], [], [], []⟩
def bits (l : List Bool) : VD := ⟨1, l, [], [], []⟩
def smalls (l : List Int) : VD := ⟨2, [], l, [], []⟩
def ints (l : List Int) : VD := ⟨3, [], l, [], []⟩
def floats (l : List Nat) : VD := ⟨4, [], [], l, []⟩
def chars (l : List Int) : VD := ⟨5, [], l, [], []⟩
def boxes (cs : List Value) : VD := ⟨6, [], [], [], cs⟩
def len (d : VD) : Nat :=
  match d.kind with
  | 1 => d.bs.length
  | 2 => d.ns.length
  | 3 => d.ns.length
  | 4 => d.fs.length
  | 5 => d.ns.length
  | 6 => d.cs.length / 9
  | _ => 0
/-- 0: numbers, 1: characters, 2: boxes -/
def cls (d : VD) : Nat :=
  match d.kind with
  | 5 => 1
  | 6 => 2
  | _ => 0
/-- the number at a place, as a word -/
def num (d : VD) (i : Nat) : Nat :=
  match d.kind with
  | 1 => bitW (d.bs.getD i false)
  | 2 => fi (d.ns.getD i 0)
  | 3 => fi (d.ns.getD i 0)
  | 4 => d.fs.getD i 0
  | _ => 0
/-- the whole number at a place of a store of whole ones -/
def whl (d : VD) (i : Nat) : Int :=
  match d.kind with
  | 1 => if d.bs.getD i false then 1 else 0
  | 2 => d.ns.getD i 0
  | 3 => d.ns.getD i 0
  | _ => 0
def isWhl (d : VD) : Bool :=
  match d.kind with
  | 1 => true
  | 2 => true
  | 3 => true
  | _ => false
def nums (d : VD) : List Nat := (List.range d.len).map d.num
def whls (d : VD) : List Int := (List.range d.len).map d.whl
end VD

def i8s (l : List Int) : List Value := l.map fun x => .int .i8 x
def i32s (l : List Int) : List Value := l.map fun x => .int .i32 x
def i64s (l : List Int) : List Value := l.map fun x => .int .i64 x
def f64s (l : List Nat) : List Value := l.map fun x => .float .f64 x
theorem i8s_length (l : List Int) : (i8s l).length = l.length := by simp [i8s]
theorem i8s_get {l : List Int} {k : Nat} (h : k < l.length) : (i8s l)[k]? = some ((fun x : Int => ((.int .i8 x) : Value)) (l.getD k 0)) := by simp [i8s, List.getD, h]
theorem i8s_one (l : List Int) : ∀ u ∈ i8s l, u.oneCell' = true := by
  intro u hu
  simp only [i8s, List.mem_map] at hu
  obtain ⟨x, _, rfl⟩ := hu
  rfl
theorem i32s_length (l : List Int) : (i32s l).length = l.length := by simp [i32s]
theorem i32s_get {l : List Int} {k : Nat} (h : k < l.length) : (i32s l)[k]? = some ((fun x : Int => ((.int .i32 x) : Value)) (l.getD k 0)) := by simp [i32s, List.getD, h]
theorem i32s_one (l : List Int) : ∀ u ∈ i32s l, u.oneCell' = true := by
  intro u hu
  simp only [i32s, List.mem_map] at hu
  obtain ⟨x, _, rfl⟩ := hu
  rfl
theorem i64s_length (l : List Int) : (i64s l).length = l.length := by simp [i64s]
theorem i64s_get {l : List Int} {k : Nat} (h : k < l.length) : (i64s l)[k]? = some ((fun x : Int => ((.int .i64 x) : Value)) (l.getD k 0)) := by simp [i64s, List.getD, h]
theorem i64s_one (l : List Int) : ∀ u ∈ i64s l, u.oneCell' = true := by
  intro u hu
  simp only [i64s, List.mem_map] at hu
  obtain ⟨x, _, rfl⟩ := hu
  rfl
theorem f64s_length (l : List Nat) : (f64s l).length = l.length := by simp [f64s]
theorem f64s_get {l : List Nat} {k : Nat} (h : k < l.length) : (f64s l)[k]? = some ((fun x : Nat => ((.float .f64 x) : Value)) (l.getD k 0)) := by simp [f64s, List.getD, h]
theorem f64s_one (l : List Nat) : ∀ u ∈ f64s l, u.oneCell' = true := by
  intro u hu
  simp only [f64s, List.mem_map] at hu
  obtain ⟨x, _, rfl⟩ := hu
  rfl

/-- the value v is a Vec that holds d -/
def IsVec (w : World) (v : Value) (d : VD) : Prop :=
  (d = VD.none ∧ v = .agg #[.int .i64 0, .slice none 0 0, .int .i64 0, .slice none 0 0, .slice none 0 0, .slice none 0 0, .slice none 0 0, .slice none 0 0]) ∨
  (∃ l A c, d = VD.bits l ∧ l.length ≤ 1048576 ∧ v = .agg #[.int .i64 1, .slice A (wc l.length) c, .int .i64 (l.length : Int), .slice none 0 0, .slice none 0 0, .slice none 0 0, .slice none 0 0, .slice none 0 0] ∧ Sl w 1 A (wc l.length) (u64s (words l))) ∨
  (∃ l A c, d = VD.smalls l ∧ l.length ≤ 1048576 ∧ (∀ x ∈ l, -128 ≤ x ∧ x ≤ 127) ∧ v = .agg #[.int .i64 2, .slice none 0 0, .int .i64 0, .slice A l.length c, .slice none 0 0, .slice none 0 0, .slice none 0 0, .slice none 0 0] ∧ Sl w 1 A l.length (i8s l)) ∨
  (∃ l A c, d = VD.ints l ∧ l.length ≤ 1048576 ∧ (∀ x ∈ l, G x) ∧ v = .agg #[.int .i64 3, .slice none 0 0, .int .i64 0, .slice none 0 0, .slice A l.length c, .slice none 0 0, .slice none 0 0, .slice none 0 0] ∧ Sl w 1 A l.length (i64s l)) ∨
  (∃ l A c, d = VD.floats l ∧ l.length ≤ 1048576 ∧ (∀ x ∈ l, tidy x) ∧ v = .agg #[.int .i64 4, .slice none 0 0, .int .i64 0, .slice none 0 0, .slice none 0 0, .slice A l.length c, .slice none 0 0, .slice none 0 0] ∧ Sl w 1 A l.length (f64s l)) ∨
  (∃ l A c, d = VD.chars l ∧ l.length ≤ 1048576 ∧ v = .agg #[.int .i64 5, .slice none 0 0, .int .i64 0, .slice none 0 0, .slice none 0 0, .slice none 0 0, .slice A l.length c, .slice none 0 0] ∧ Sl w 1 A l.length (i32s l)) ∨
  (∃ n cs A c, d = VD.boxes cs ∧ n ≤ 1048576 ∧ cs.length = n * 9 ∧ (∀ u ∈ cs, u.oneCell' = true) ∧ v = .agg #[.int .i64 6, .slice none 0 0, .int .i64 0, .slice none 0 0, .slice none 0 0, .slice none 0 0, .slice none 0 0, .slice A n c] ∧ Sl w 9 A n cs)
theorem IsVec.ext {w w' : World} {v : Value} {d : VD} (h : IsVec w v d) (he : Ext w w') : IsVec w' v d := by
  rcases h with h | ⟨l, A, c, h1, h2, h3, h4⟩ | ⟨l, A, c, h1, h2, h3, h4, h5⟩ | ⟨l, A, c, h1, h2, h3, h4, h5⟩ | ⟨l, A, c, h1, h2, h3, h4, h5⟩ | ⟨l, A, c, h1, h2, h3, h4⟩ | ⟨n, cs, A, c, h1, h2, h3, h4, h5, h6⟩
  · exact .inl h
  · exact .inr (.inl ⟨l, A, c, h1, h2, h3, h4.ext he⟩)
  · exact .inr (.inr (.inl ⟨l, A, c, h1, h2, h3, h4, h5.ext he⟩))
  · exact .inr (.inr (.inr (.inl ⟨l, A, c, h1, h2, h3, h4, h5.ext he⟩)))
  · exact .inr (.inr (.inr (.inr (.inl ⟨l, A, c, h1, h2, h3, h4, h5.ext he⟩))))
  · exact .inr (.inr (.inr (.inr (.inr (.inl ⟨l, A, c, h1, h2, h3, h4.ext he⟩)))))
  · exact .inr (.inr (.inr (.inr (.inr (.inr ⟨n, cs, A, c, h1, h2, h3, h4, h5, h6.ext he⟩)))))
theorem VD.len_boxes (cs : List Value) (n : Nat) (h : cs.length = n * 9) : (VD.boxes cs).len = n := by
  show cs.length / 9 = n
  omega
theorem IsVec.lim {w : World} {v : Value} {d : VD} (h : IsVec w v d) : d.len ≤ 1048576 := by
  rcases h with ⟨rfl, _⟩ | ⟨l, A, c, rfl, h2, _⟩ | ⟨l, A, c, rfl, h2, _⟩ | ⟨l, A, c, rfl, h2, _⟩ | ⟨l, A, c, rfl, h2, _⟩ | ⟨l, A, c, rfl, h2, _⟩ | ⟨n, cs, A, c, rfl, h2, h3, _⟩
  · decide
  · exact h2
  · exact h2
  · exact h2
  · exact h2
  · exact h2
  · rw [VD.len_boxes cs n h3]; exact h2

set_option maxHeartbeats 1000000
theorem vkind_any (v : Value) (d : VD) (w : World) (h : IsVec w v d) : Calls Try.prog 57 #[v] w fun e w' => e = .returned (.int .i64 (d.kind : Int)) ∧ Ext w w' := by
  rcases h with ⟨rfl, rfl⟩ | ⟨l, A, c, rfl, _, rfl, _⟩ | ⟨l, A, c, rfl, _, _, rfl, _⟩ | ⟨l, A, c, rfl, _, _, rfl, _⟩ | ⟨l, A, c, rfl, _, _, rfl, _⟩ | ⟨l, A, c, rfl, _, rfl, _⟩ | ⟨n, cs, A, c, rfl, _, _, _, rfl, _⟩
  all_goals
    go_enter Try.func57, Try.ntmps57
    go_wp2
    go_ret
    exact ⟨rfl, (Ext.refl w).alloc _⟩
theorem vclass_any (v : Value) (d : VD) (w : World) (h : IsVec w v d) : Calls Try.prog 58 #[v] w fun e w' => e = .returned (.int .i64 (d.cls : Int)) ∧ Ext w w' := by
  rcases h with ⟨rfl, rfl⟩ | ⟨l, A, c, rfl, _, rfl, _⟩ | ⟨l, A, c, rfl, _, _, rfl, _⟩ | ⟨l, A, c, rfl, _, _, rfl, _⟩ | ⟨l, A, c, rfl, _, _, rfl, _⟩ | ⟨l, A, c, rfl, _, rfl, _⟩ | ⟨n, cs, A, c, rfl, _, _, _, rfl, _⟩
  all_goals
    go_enter Try.func58, Try.ntmps58
    go_wp2
    go_ret
    exact ⟨rfl, (Ext.refl w).alloc _⟩
theorem vlen_any (v : Value) (d : VD) (w : World) (h : IsVec w v d) : Calls Try.prog 38 #[v] w fun e w' => e = .returned (.int .i64 (d.len : Int)) ∧ Ext w w' := by
  rcases h with ⟨rfl, rfl⟩ | ⟨l, A, c, rfl, hl, rfl, hs⟩ | ⟨l, A, c, rfl, _, _, rfl, _⟩ | ⟨l, A, c, rfl, _, _, rfl, _⟩ | ⟨l, A, c, rfl, _, _, rfl, _⟩ | ⟨l, A, c, rfl, _, rfl, _⟩ | ⟨n, cs, A, c, rfl, _, hn, _, rfl, _⟩
  · go_enter Try.func38, Try.ntmps38
    go_wp2
    go_ret
    exact ⟨rfl, (Ext.refl w).alloc _⟩
  · have hb : IsB w (.agg #[.slice A (wc l.length) c, .int .i64 (l.length : Int)]) l := ⟨hl, A, c, rfl, hs⟩
    have c1 := blen_any _ l _ (hb.ext ((Ext.refl w).alloc (.cells #[.int .i64 1, .slice A (wc l.length) c, .int .i64 (l.length : Int), .slice none 0 0, .slice none 0 0, .slice none 0 0, .slice none 0 0, .slice none 0 0] 47)))
    have hx0 := Lib.hid ((Ext.refl w).alloc (.cells #[.int .i64 1, .slice A (wc l.length) c, .int .i64 (l.length : Int), .slice none 0 0, .slice none 0 0, .slice none 0 0, .slice none 0 0, .slice none 0 0] 47))
    clear hb hs
    generalize wc l.length = m at *
    go_enter Try.func38, Try.ntmps38
    go_wp2_with fail
    refine c1.mono ?_
    rintro e w1 ⟨rfl, hx⟩
    have HX := Lib.hid hx
    clear hx
    go_wp2
    go_ret
    exact ⟨rfl, hx0.out.trans HX.out⟩
  · go_enter Try.func38, Try.ntmps38
    go_wp2
    go_ret
    exact ⟨rfl, (Ext.refl w).alloc _⟩
  · go_enter Try.func38, Try.ntmps38
    go_wp2
    go_ret
    exact ⟨rfl, (Ext.refl w).alloc _⟩
  · go_enter Try.func38, Try.ntmps38
    go_wp2
    go_ret
    exact ⟨rfl, (Ext.refl w).alloc _⟩
  · go_enter Try.func38, Try.ntmps38
    go_wp2
    go_ret
    exact ⟨rfl, (Ext.refl w).alloc _⟩
  · rw [VD.len_boxes cs n hn]
    clear hn
    go_enter Try.func38, Try.ntmps38
    go_wp2
    go_ret
    exact ⟨rfl, (Ext.refl w).alloc _⟩
end Go.Proofs.Ytdkgiklbmbkdaaa

namespace Go.Proofs.Ytdkgiklbmbkdaaa
open Go.RowKit Bv Fl

theorem IsVec.form {w : World} {v : Value} {d : VD} (h : IsVec w v d) : ∃ c1 bn c3 c4 c5 c6 c7, v = .agg #[.int .i64 (d.kind : Int), c1, .int .i64 bn, c3, c4, c5, c6, c7] ∧ d.kind ≤ 6 := by
  rcases h with ⟨rfl, rfl⟩ | ⟨l, A, c, rfl, _, rfl, _⟩ | ⟨l, A, c, rfl, _, _, rfl, _⟩ | ⟨l, A, c, rfl, _, _, rfl, _⟩ | ⟨l, A, c, rfl, _, _, rfl, _⟩ | ⟨l, A, c, rfl, _, rfl, _⟩ | ⟨n, cs, A, c, rfl, _, _, _, rfl, _⟩
  all_goals exact ⟨_, _, _, _, _, _, _, rfl, Nat.le_of_ble_eq_true rfl⟩

theorem getD_mem {l : List Int} {k : Nat} (h : k < l.length) : l.getD k 0 ∈ l := by
  have : l.getD k 0 = l[k] := by simp [List.getD, h]
  rw [this]; exact List.getElem_mem h
theorem getD_memN {l : List Nat} {k : Nat} (h : k < l.length) : l.getD k 0 ∈ l := by
  have : l.getD k 0 = l[k] := by simp [List.getD, h]
  rw [this]; exact List.getElem_mem h
set_option maxHeartbeats 1000000
theorem vin_any (v : Value) (d : VD) (i : Int) (w : World) (h : IsVec w v d) : Calls Try.prog 29 #[v, .int .i64 i] w fun e w' => e = .returned (.bool (decide (0 ≤ i ∧ i < (d.len : Int)))) ∧ Ext w w' := by
  obtain ⟨c1, bn, c3, c4, c5, c6, c7, rfl, _⟩ := h.form
  have HV := Lib.hid h
  have hlim := h.lim
  clear h
  by_cases h0 : 0 ≤ i
  · rw [show decide (0 ≤ i ∧ i < (d.len : Int)) = decide (i < (d.len : Int)) by simp [h0]]
    go_enter Try.func29, Try.ntmps29
    go_wp2_with fail
    refine (vlen_any _ d _ (by exact HV.out.ext ((Ext.refl w).alloc _))).mono ?_
    rintro e w1 ⟨rfl, hx⟩
    have HX := Lib.hid (((Ext.refl w).alloc _).trans hx)
    clear hx
    go_wp2
    go_ret
    exact ⟨rfl, HX.out⟩
  · rw [decide_eq_false (fun h => h0 h.1)]
    go_enter Try.func29, Try.ntmps29
    go_wp2
    go_ret
    exact ⟨rfl, (Ext.refl w).alloc _⟩

/-- the number at a place, 0 where there is none -/
def VD.numI (d : VD) (i : Int) : Nat := if 0 ≤ i ∧ i < (d.len : Int) then d.num i.toNat else 0
theorem vnum_out (v : Value) (d : VD) (i : Int) (w : World) (h : IsVec w v d) (hi : ¬ (0 ≤ i ∧ i < (d.len : Int))) : Calls Try.prog 22 #[v, .int .i64 i] w fun e w' => e = .returned (.float .f64 0) ∧ Ext w w' := by
  obtain ⟨c1, bn, c3, c4, c5, c6, c7, rfl, _⟩ := h.form
  have HV := Lib.hid h
  clear h
  have hd := decide_eq_false hi
  clear hi
  go_enter Try.func22, Try.ntmps22
  go_wp2_with fail
  refine (vin_any _ d i _ (by exact HV.out.ext ((Ext.refl w).alloc _))).mono ?_
  rintro e w1 ⟨rfl, hx⟩
  have HX := Lib.hid (((Ext.refl w).alloc _).trans hx)
  clear hx
  rw [hd]
  go_wp2
  go_ret
  exact ⟨rfl, HX.out⟩
theorem vnum_in (v : Value) (d : VD) (k : Nat) (w : World) (h : IsVec w v d) (hk : k < d.len) : Calls Try.prog 22 #[v, .int .i64 (k : Int)] w fun e w' => e = .returned (.float .f64 (d.num k)) ∧ Ext w w' := by
  have HV := Lib.hid h
  have hd : decide (0 ≤ (k : Int) ∧ (k : Int) < (d.len : Int)) = true := decide_eq_true ⟨by omega, by omega⟩
  have hlim := h.lim
  rcases h with ⟨rfl, rfl⟩ | ⟨l, A, c, rfl, hl, rfl, hs⟩ | ⟨l, A, c, rfl, _, _, rfl, hs⟩ | ⟨l, A, c, rfl, _, _, rfl, hs⟩ | ⟨l, A, c, rfl, _, _, rfl, hs⟩ | ⟨l, A, c, rfl, _, rfl, hs⟩ | ⟨n, cs, A, c, rfl, _, hn, _, rfl, hs⟩
  · exact absurd hk (by show ¬ k < 0; omega)
  · have hb : IsB w (.agg #[.slice A (wc l.length) c, .int .i64 (l.length : Int)]) l := ⟨hl, A, c, rfl, hs⟩
    have HB := Lib.hid hb
    have hg : bget l (k : Int) = l.getD k false := by unfold bget; rw [if_pos (by omega), Int.toNat_natCast]
    have hr : (VD.bits l).num k = bitW (l.getD k false) := rfl
    rw [hr]
    clear hr hb hs hlim hl hk
    generalize wc l.length = m at *
    generalize VD.bits l = d at *
    generalize (l.length : Int) = n at *
    go_enter Try.func22, Try.ntmps22
    go_wp2_with fail
    refine (vin_any _ d _ _ (by exact HV.out.ext ((Ext.refl w).alloc _))).mono ?_
    rintro e w1 ⟨rfl, hx⟩
    obtain ⟨hc, hf⟩ := hx.cells
    have HX := Lib.hid (((Ext.refl w).alloc _).trans hx)
    clear hx
    rw [hd]
    go_wp2_with fail
    refine (at_any _ l _ _ (by exact HB.out.ext HX.out)).mono ?_
    rintro e w2 ⟨rfl, hx⟩
    have HY := Lib.hid (HX.out.trans hx)
    clear hx hc hf
    rw [hg]
    go_wp2_with fail
    refine (flag_any _ _).mono ?_
    rintro e w3 ⟨rfl, rfl⟩
    go_wp2
    go_ret
    exact ⟨rfl, HY.out⟩
  · obtain ⟨a, u, rfl, hab, hu, hcell⟩ := hs.at1 (show k < l.length from hk)
    rw [i8s_get (show k < l.length from hk)] at hu
    cases hu
    rw [show (VD.smalls l).num k = fi (l.getD k 0) from rfl]
    have hk' : k < l.length := hk
    clear hs hlim hk
    generalize VD.smalls l = d at *
    generalize hx : l.getD k 0 = x at *
    have HX0 := Lib.hid hx
    clear hx HX0
    generalize l.length = n at *
    go_enter Try.func22, Try.ntmps22
    go_wp2_with fail
    refine (vin_any _ d _ _ (by exact HV.out.ext ((Ext.refl w).alloc _))).mono ?_
    rintro e w1 ⟨rfl, hx⟩
    obtain ⟨hc, hf⟩ := hx.cells
    have HX := Lib.hid (((Ext.refl w).alloc _).trans hx)
    have hcell' := (Below.cell HX.out (by rw [addr_block]; exact hab)).trans hcell
    clear hx hcell
    rw [hd]
    go_wp2
    go_ret
    exact ⟨rfl, HX.out⟩
  · obtain ⟨a, u, rfl, hab, hu, hcell⟩ := hs.at1 (show k < l.length from hk)
    rw [i64s_get (show k < l.length from hk)] at hu
    cases hu
    rw [show (VD.ints l).num k = fi (l.getD k 0) from rfl]
    have hk' : k < l.length := hk
    clear hs hlim hk
    generalize VD.ints l = d at *
    generalize hx : l.getD k 0 = x at *
    have HX0 := Lib.hid hx
    clear hx HX0
    generalize l.length = n at *
    go_enter Try.func22, Try.ntmps22
    go_wp2_with fail
    refine (vin_any _ d _ _ (by exact HV.out.ext ((Ext.refl w).alloc _))).mono ?_
    rintro e w1 ⟨rfl, hx⟩
    obtain ⟨hc, hf⟩ := hx.cells
    have HX := Lib.hid (((Ext.refl w).alloc _).trans hx)
    have hcell' := (Below.cell HX.out (by rw [addr_block]; exact hab)).trans hcell
    clear hx hcell
    rw [hd]
    go_wp2
    go_ret
    exact ⟨rfl, HX.out⟩
  · obtain ⟨a, u, rfl, hab, hu, hcell⟩ := hs.at1 (show k < l.length from hk)
    rw [f64s_get (show k < l.length from hk)] at hu
    cases hu
    rw [show (VD.floats l).num k = l.getD k 0 from rfl]
    have hk' : k < l.length := hk
    clear hs hlim hk
    generalize VD.floats l = d at *
    generalize hx : l.getD k 0 = x at *
    have HX0 := Lib.hid hx
    clear hx HX0
    generalize l.length = n at *
    go_enter Try.func22, Try.ntmps22
    go_wp2_with fail
    refine (vin_any _ d _ _ (by exact HV.out.ext ((Ext.refl w).alloc _))).mono ?_
    rintro e w1 ⟨rfl, hx⟩
    obtain ⟨hc, hf⟩ := hx.cells
    have HX := Lib.hid (((Ext.refl w).alloc _).trans hx)
    have hcell' := (Below.cell HX.out (by rw [addr_block]; exact hab)).trans hcell
    clear hx hcell
    rw [hd]
    go_wp2
    go_ret
    exact ⟨rfl, HX.out⟩
  · rw [show (VD.chars l).num k = 0 from rfl]
    clear hs hlim hk
    generalize VD.chars l = d at *
    go_enter Try.func22, Try.ntmps22
    go_wp2_with fail
    refine (vin_any _ d _ _ (by exact HV.out.ext ((Ext.refl w).alloc _))).mono ?_
    rintro e w1 ⟨rfl, hx⟩
    obtain ⟨hc, hf⟩ := hx.cells
    have HX := Lib.hid (((Ext.refl w).alloc _).trans hx)
    clear hx
    rw [hd]
    go_wp2
    go_ret
    exact ⟨rfl, HX.out⟩
  · rw [show (VD.boxes cs).num k = 0 from rfl]
    clear hs hlim hk
    generalize VD.boxes cs = d at *
    go_enter Try.func22, Try.ntmps22
    go_wp2_with fail
    refine (vin_any _ d _ _ (by exact HV.out.ext ((Ext.refl w).alloc _))).mono ?_
    rintro e w1 ⟨rfl, hx⟩
    obtain ⟨hc, hf⟩ := hx.cells
    have HX := Lib.hid (((Ext.refl w).alloc _).trans hx)
    clear hx
    rw [hd]
    go_wp2
    go_ret
    exact ⟨rfl, HX.out⟩
theorem vnum_any (v : Value) (d : VD) (i : Int) (w : World) (h : IsVec w v d) : Calls Try.prog 22 #[v, .int .i64 i] w fun e w' => e = .returned (.float .f64 (d.numI i)) ∧ Ext w w' := by
  unfold VD.numI
  by_cases hi : 0 ≤ i ∧ i < (d.len : Int)
  · rw [if_pos hi]
    obtain ⟨k, rfl⟩ := Int.eq_ofNat_of_zero_le hi.1
    rw [Int.toNat_natCast]
    exact vnum_in v d k w h (by omega)
  · rw [if_neg hi]
    exact vnum_out v d i w h hi

theorem vwhole_in (v : Value) (d : VD) (k : Nat) (w : World) (h : IsVec w v d) (hk : k < d.len) : Calls Try.prog 64 #[v, .int .i64 (k : Int)] w fun e w' => e = .returned (.tuple #[.int .i64 (d.whl k), .bool d.isWhl]) ∧ Ext w w' := by
  have HV := Lib.hid h
  have hd : decide (0 ≤ (k : Int) ∧ (k : Int) < (d.len : Int)) = true := decide_eq_true ⟨by omega, by omega⟩
  have hlim := h.lim
  rcases h with ⟨rfl, rfl⟩ | ⟨l, A, c, rfl, hl, rfl, hs⟩ | ⟨l, A, c, rfl, _, hbd, rfl, hs⟩ | ⟨l, A, c, rfl, _, _, rfl, hs⟩ | ⟨l, A, c, rfl, _, _, rfl, hs⟩ | ⟨l, A, c, rfl, _, rfl, hs⟩ | ⟨n, cs, A, c, rfl, _, hn, _, rfl, hs⟩
  · exact absurd hk (by show ¬ k < 0; omega)
  · have hb : IsB w (.agg #[.slice A (wc l.length) c, .int .i64 (l.length : Int)]) l := ⟨hl, A, c, rfl, hs⟩
    have HB := Lib.hid hb
    have hg : bget l (k : Int) = l.getD k false := by unfold bget; rw [if_pos (by omega), Int.toNat_natCast]
    have hr : (VD.bits l).whl k = if l.getD k false then 1 else 0 := rfl
    rw [hr, show (VD.bits l).isWhl = true from rfl]
    clear hr hb hs hlim hl hk
    generalize wc l.length = m at *
    generalize VD.bits l = d at *
    generalize (l.length : Int) = n at *
    generalize l.getD k false = y at *
    cases y
    all_goals
     go_enter Try.func64, Try.ntmps64
     go_wp2_with fail
     refine (vin_any _ d _ _ (by exact HV.out.ext ((Ext.refl w).alloc _))).mono ?_
     rintro e w1 ⟨rfl, hx⟩
     obtain ⟨hc, hf⟩ := hx.cells
     have HX := Lib.hid (((Ext.refl w).alloc _).trans hx)
     clear hx
     rw [hd]
     go_wp2_with fail
     refine (at_any _ l _ _ (by exact HB.out.ext HX.out)).mono ?_
     rintro e w2 ⟨rfl, hx⟩
     have HY := Lib.hid (HX.out.trans hx)
     clear hx hc hf
     rw [hg]
     go_wp2
     go_ret2
     exact ⟨rfl, HY.out⟩
  · obtain ⟨a, u, rfl, hab, hu, hcell⟩ := hs.at1 (show k < l.length from hk)
    rw [i8s_get (show k < l.length from hk)] at hu
    cases hu
    rw [show (VD.smalls l).isWhl = true from rfl, show (VD.smalls l).whl k = l.getD k 0 from rfl]
    have hk' : k < l.length := hk
    obtain ⟨hb1, hb2⟩ := hbd _ (getD_mem hk')
    clear hs hlim hk hbd
    generalize VD.smalls l = d at *
    generalize hx : l.getD k 0 = x at *
    have HX0 := Lib.hid hx
    clear hx HX0
    generalize l.length = n at *
    go_enter Try.func64, Try.ntmps64
    go_wp2_with fail
    refine (vin_any _ d _ _ (by exact HV.out.ext ((Ext.refl w).alloc _))).mono ?_
    rintro e w1 ⟨rfl, hx⟩
    obtain ⟨hc, hf⟩ := hx.cells
    have HX := Lib.hid (((Ext.refl w).alloc _).trans hx)
    have hcell' := (Below.cell HX.out (by rw [addr_block]; exact hab)).trans hcell
    clear hx hcell
    rw [hd]
    go_wp2
    go_ret2
    exact ⟨rfl, HX.out⟩
  · obtain ⟨a, u, rfl, hab, hu, hcell⟩ := hs.at1 (show k < l.length from hk)
    rw [i64s_get (show k < l.length from hk)] at hu
    cases hu
    rw [show (VD.ints l).isWhl = true from rfl, show (VD.ints l).whl k = l.getD k 0 from rfl]
    have hk' : k < l.length := hk
    clear hs hlim hk
    generalize VD.ints l = d at *
    generalize hx : l.getD k 0 = x at *
    have HX0 := Lib.hid hx
    clear hx HX0
    generalize l.length = n at *
    go_enter Try.func64, Try.ntmps64
    go_wp2_with fail
    refine (vin_any _ d _ _ (by exact HV.out.ext ((Ext.refl w).alloc _))).mono ?_
    rintro e w1 ⟨rfl, hx⟩
    obtain ⟨hc, hf⟩ := hx.cells
    have HX := Lib.hid (((Ext.refl w).alloc _).trans hx)
    have hcell' := (Below.cell HX.out (by rw [addr_block]; exact hab)).trans hcell
    clear hx hcell
    rw [hd]
    go_wp2
    go_ret2
    exact ⟨rfl, HX.out⟩
  · rw [show (VD.floats l).isWhl = false from rfl, show (VD.floats l).whl k = 0 from rfl]
    clear hs hlim hk
    generalize VD.floats l = d at *
    go_enter Try.func64, Try.ntmps64
    go_wp2_with fail
    refine (vin_any _ d _ _ (by exact HV.out.ext ((Ext.refl w).alloc _))).mono ?_
    rintro e w1 ⟨rfl, hx⟩
    obtain ⟨hc, hf⟩ := hx.cells
    have HX := Lib.hid (((Ext.refl w).alloc _).trans hx)
    clear hx
    rw [hd]
    go_wp2
    go_ret2
    exact ⟨rfl, HX.out⟩
  · rw [show (VD.chars l).isWhl = false from rfl, show (VD.chars l).whl k = 0 from rfl]
    clear hs hlim hk
    generalize VD.chars l = d at *
    go_enter Try.func64, Try.ntmps64
    go_wp2_with fail
    refine (vin_any _ d _ _ (by exact HV.out.ext ((Ext.refl w).alloc _))).mono ?_
    rintro e w1 ⟨rfl, hx⟩
    obtain ⟨hc, hf⟩ := hx.cells
    have HX := Lib.hid (((Ext.refl w).alloc _).trans hx)
    clear hx
    rw [hd]
    go_wp2
    go_ret2
    exact ⟨rfl, HX.out⟩
  · rw [show (VD.boxes cs).isWhl = false from rfl, show (VD.boxes cs).whl k = 0 from rfl]
    clear hs hlim hk
    generalize VD.boxes cs = d at *
    go_enter Try.func64, Try.ntmps64
    go_wp2_with fail
    refine (vin_any _ d _ _ (by exact HV.out.ext ((Ext.refl w).alloc _))).mono ?_
    rintro e w1 ⟨rfl, hx⟩
    obtain ⟨hc, hf⟩ := hx.cells
    have HX := Lib.hid (((Ext.refl w).alloc _).trans hx)
    clear hx
    rw [hd]
    go_wp2
    go_ret2
    exact ⟨rfl, HX.out⟩
end Go.Proofs.Ytdkgiklbmbkdaaa

namespace Go.Proofs.Ytdkgiklbmbkdaaa
open Go.RowKit Bv Fl

theorem run_store_f64 (P : Program) (w : World) (a : Addr) (m : Mode) (b : Nat) : (store a (.float .f64 b) m).run P w = stored P w a (.float .f64 b) m := run_store P w a _ m rfl
attribute [local go_sem] run_store_f64

/-- a list of n cells of which the first k are filled -/
def fillL (f : Nat → Value) (z : Value) (n k : Nat) : List Value := (List.range k).map f ++ List.replicate (n - k) z
theorem fillL_length (f : Nat → Value) (z : Value) {n k : Nat} (h : k ≤ n) : (fillL f z n k).length = n := by simp [fillL]; omega
theorem fillL_zero (f : Nat → Value) (z : Value) (n : Nat) : fillL f z n 0 = List.replicate n z := by simp [fillL]
theorem fillL_full (f : Nat → Value) (z : Value) (n : Nat) : fillL f z n n = (List.range n).map f := by simp [fillL]
theorem fillL_get (f : Nat → Value) (z : Value) {n k : Nat} (h : k < n) : (fillL f z n k)[k]? = some z := by
  rw [fillL, List.getElem?_append_right (by simp)]
  simp [List.getElem?_replicate]
  omega
theorem fillL_set (f : Nat → Value) (z : Value) {n k : Nat} (h : k < n) : (fillL f z n k).set k (f k) = fillL f z n (k + 1) := by
  apply List.ext_getElem?
  intro j
  rw [List.getElem?_set, fillL_length f z (by omega)]
  by_cases hj : k = j
  · subst hj
    rw [if_pos rfl, if_pos h, fillL, List.getElem?_append_left (by simp)]
    simp
  · rw [if_neg hj, fillL, fillL]
    by_cases hjk : j < k
    · rw [List.getElem?_append_left (by simp; omega), List.getElem?_append_left (by simp; omega)]
      simp only [List.getElem?_map, List.getElem?_range hjk, List.getElem?_range (show j < k + 1 by omega)]
    · rw [List.getElem?_append_right (by simp; omega), List.getElem?_append_right (by simp; omega)]
      simp only [List.length_map, List.length_range, List.getElem?_replicate]
      by_cases hjl : j < n
      · rw [if_pos (by omega), if_pos (by omega)]
      · rw [if_neg (by omega), if_neg (by omega)]
theorem made_zero (z : Value) (n : Nat) (f : Nat → Value) : (madeCells #[z] n).toList = fillL f z n 0 := by
  rw [fillL_zero]
  exact toList_madeCells_one _ _

theorem infoF : (Try.prog.info? 75).map (fun i => (i.zero, i.size, i.bytes)) = some (some (.float .f64 0), 1, 8) := by kernel_rfl
theorem infoI : (Try.prog.info? 2).map (fun i => (i.zero, i.size, i.bytes)) = some (some (.int .i64 0), 1, 8) := by kernel_rfl

set_option maxHeartbeats 1000000
/-- the character at a place, 0 where there is none -/
def VD.chrI (d : VD) (i : Int) : Int := if 0 ≤ i ∧ i < (d.len : Int) ∧ d.kind = 5 then d.ns.getD i.toNat 0 else 0
/-- all numbers -/
theorem vnums_any (v : Value) (d : VD) (w : World) (h : IsVec w v d) (hc : d.cls = 0) : Calls Try.prog 63 #[v] w fun e w' => ∃ v', e = .returned v' ∧ w'.ownsRow w.heap.size 75 1 v' d.len (f64s d.nums) ∧ Ext w w' := by
  obtain ⟨c1, bn, c3, c4, c5, c6, c7, rfl, _⟩ := h.form
  have HV := Lib.hid h
  have hlim := h.lim
  have hc0 : ((d.cls : Int) != 0) = false := by rw [hc]; rfl
  clear h
  obtain ⟨i0, hi0, hz0, hz1, hz2⟩ := info_parts infoF
  have hsz : i0.bytes * d.len ≤ 281474976710656 := by rw [hz2]; omega
  have hfull : f64s d.nums = fillL (fun k => .float .f64 (d.num k)) (.float .f64 0) d.len d.len := by
    rw [fillL_full]; simp [f64s, VD.nums]
  rw [hfull]
  have HC := Lib.hid hc
  clear hfull hc
  go_enter Try.func63, Try.ntmps63
  go_wp2_with fail
  refine (vclass_any _ d _ (by exact HV.out.ext ((Ext.refl w).alloc _))).mono ?_
  rintro e w1 ⟨rfl, hx⟩
  obtain ⟨hc1, hf1⟩ := hx.cells
  have HX := Lib.hid (((Ext.refl w).alloc _).trans hx)
  have HB := Lib.hid hx
  clear hx
  go_wp2_with fail
  refine (vlen_any _ d _ (by exact HV.out.ext HX.out)).mono ?_
  rintro e w2 ⟨rfl, hx⟩
  have HX2 := Lib.hid (HX.out.trans hx)
  have HB2 := Lib.hid (HB.out.trans hx)
  clear hx hc1 hf1
  go_wp2_with (at_make; refine wpList_make_full _ rfl _ _ 43 rfl w2.heap.size 75 i0 (.float .f64 0) 1 Try.underlying43 hi0 hz0 hz1 .i64 .i64 _ _ d.len rfl rfl rfl rfl hsz (by simp only [maxLen]; omega) (by simp) ?_)
  intro w3 hown hg
  have hx3 := ext_none hg
  have HR : Hid (w3.ownsRow w2.heap.size 75 1 (.slice (some ⟨w2.heap.size, 0, none⟩) d.len d.len) d.len (fillL (fun k => .float .f64 (d.num k)) (.float .f64 0) d.len 0)) := by
    have e := made_zero (.float .f64 0) d.len (fun k => .float .f64 (d.num k))
    rw [e] at hown; exact hown
  have HB3 := Lib.hid (HB2.out.trans hx3)
  have hs3 : w.heap.size + 1 ≤ w2.heap.size := by have := HB2.out.size; simpa using this
  have HX3 := Lib.hid (HX2.out.trans hx3)
  have hs4 : w2.heap.size ≤ w3.heap.size := hx3.size
  clear hown hg hx3 hsz
  go_wp2_with fail
  go_loopw [13] (fun i wr => ∃ k : Nat, k ≤ d.len ∧ i = .int .i64 k ∧ wr.ownsRow w2.heap.size 75 1 (.slice (some ⟨w2.heap.size, 0, none⟩) d.len d.len) d.len (fillL (fun k => .float .f64 (d.num k)) (.float .f64 0) d.len k) ∧ Below w2.heap.size w3 wr) (fun i _ => d.len - (intOf i).toNat)
  case atStart => exact ⟨0, Nat.zero_le _, rfl, HR.out, Below.refl _ _⟩
  case round =>
    obtain ⟨k, hk, rfl, hown, hbel⟩ := hrel
    have hbx : Below (w.heap.size + 1) (w.alloc (.cells #[.int .i64 (d.kind : Int), c1, .int .i64 bn, c3, c4, c5, c6, c7] 47)) wr := (HB3.out.mono (by simp)).trans (hbel.mono (by omega))
    have hxr : Ext w wr := ((Ext.refl w).alloc _).trans' (hbx.mono (by omega))
    by_cases hlt : k < d.len
    · have hnum := vnum_in _ d k wr (HV.out.ext hxr) hlt
      have hcB := (Below.cell (p := ⟨w.heap.size, 0, none⟩) hbx (by simp))
      have hcs : ∀ o, wr.cell? ⟨w.heap.size, o, none⟩ = (w.alloc (.cells #[.int .i64 (d.kind : Int), c1, .int .i64 bn, c3, c4, c5, c6, c7] 47)).cell? ⟨w.heap.size, o, none⟩ := fun o => Below.cell (p := ⟨w.heap.size, o, none⟩) hbx (by simp)
      have HBX := Lib.hid hbx
      clear hbx hcB hxr
      go_wp2_with fail
      refine hnum.mono ?_
      rintro e w4 ⟨rfl, hx4⟩
      have hown4 := own_ext hown hx4
      have F0 : w4.cell? ⟨w2.heap.size, k, none⟩ = some (.float .f64 0) := by
        rw [hown4.cellAt k (by omega)]; exact fillL_get _ _ hlt
      have F1 : w4.frozen? ⟨w2.heap.size, k, none⟩ = false := hown4.frozenAt k
      have hst := (hown4.stored k (.float .f64 (d.num k))).1
      rw [fillL_set (fun k => .float .f64 (d.num k)) (.float .f64 0) hlt] at hst
      have H1 := Lib.hid hst
      have H2 := Lib.hid ((hbel.trans (hx4.mono (Nat.le_trans hs4 hbel.size))).setCell (p := ⟨w2.heap.size, k, none⟩) (Nat.le_refl _) (.float .f64 (d.num k)))
      clear hst hown4 hown hbel hx4 hnum hcs
      go_wp2
      exact ⟨⟨k + 1, by omega, by go_num, H1.out, H2.out⟩, by simp [intOf]; omega⟩
    · have hkl : k = d.len := by omega
      subst hkl
      have H1 := Lib.hid (own_base hown (show w.heap.size ≤ w2.heap.size by omega))
      have H2 := Lib.hid hxr
      clear hown hbel hbx hxr
      go_wp2
      go_ret
      exact ⟨_, rfl, H1.out, H2.out⟩
end Go.Proofs.Ytdkgiklbmbkdaaa

namespace Go.Proofs.Ytdkgiklbmbkdaaa
open Go.RowKit Bv Fl

set_option maxHeartbeats 1000000
/-! ### Text, Arrays -/
end Go.Proofs.Ytdkgiklbmbkdaaa

namespace Go.Proofs.Ytdkgiklbmbkdaaa
open Go.RowKit Bv Fl

/-- the zero Vec's cells -/
def zeroVec : Value := .agg #[.int .i64 0, .slice none 0 0, .int .i64 0, .slice none 0 0, .slice none 0 0, .slice none 0 0, .slice none 0 0, .slice none 0 0]
theorem IsVec.zero (w : World) : IsVec w zeroVec VD.none := .inl ⟨rfl, rfl⟩

set_option maxHeartbeats 1000000
theorem vsmalls_own (A : Option Addr) (l : List Int) (n : Nat) (hn : n = l.length) (c : Nat) (w : World) (hl : n ≤ 1048576) (hs : Sl w 1 A n (i8s l)) : Calls Try.prog 77 #[.slice A n c] w fun e w' => ∃ B cb, e = .returned (.agg #[.int .i64 2, .slice none 0 0, .int .i64 0, .slice B n cb, .slice none 0 0, .slice none 0 0, .slice none 0 0, .slice none 0 0]) ∧ w'.ownsRow w.heap.size 92 1 (.slice B n cb) n (i8s l) ∧ Ext w w' := by
  have hc := cloneI8 A n c (i8s l) (w.alloc (.cells #[.int .i64 0, .slice none 0 0, .int .i64 0, .slice none 0 0, .slice none 0 0, .slice none 0 0, .slice none 0 0, .slice none 0 0] 47)) (hs.alloc _) (i8s_one l) (by omega)
  clear hs hn
  go_enter Try.func77, Try.ntmps77
  go_wp2_with fail
  refine hc.mono ?_
  rintro e w1 ⟨v, rfl, hown, hx⟩
  obtain ⟨B, cb, rfl, hcap, hB⟩ := own_form hown
  obtain ⟨hc1, hf1⟩ := hx.cells
  have HO := Lib.hid hown
  have HX := Lib.hid (((Ext.refl w).alloc _).trans hx)
  have hsz : w.heap.size + 1 ≤ w1.heap.size := by have := hx.size; simpa using this
  clear hown hx hB hc
  go_wp2
  refine bodyPost_ret (v := .agg #[.int .i64 2, .slice none 0 0, .int .i64 0, .slice B n cb, .slice none 0 0, .slice none 0 0, .slice none 0 0, .slice none 0 0]) (by simp [results, Try.results77, go_sem, hc1]) rfl ⟨B, cb, rfl, ?_, ?_⟩
  · refine own_base (base := w.heap.size + 1) ?_ (Nat.le_succ _)
    repeat (refine ownsRow_setCell_below ?_ (by simp) _)
    simpa using HO.out
  · repeat (refine Ext.setCell ?_ (Nat.le_refl _) _)
    exact HX.out
end Go.Proofs.Ytdkgiklbmbkdaaa

namespace Go.Proofs.Ytdkgiklbmbkdaaa
open Go.RowKit Bv Fl

attribute [local go_sem] run_store_f64
/-- are all numbers of a size of at most 2^53? -/
def allG (l : List Int) : Bool := l.all fun x => decide (G x)
theorem allG_true {l : List Int} (h : allG l = true) : ∀ x ∈ l, G x := by
  intro x hx
  unfold allG at h
  rw [List.all_eq_true] at h
  simpa using h x hx
theorem allG_false {l : List Int} {k : Nat} (hk : k < l.length) (h : ¬ G (l.getD k 0)) : allG l = false := by
  rw [Bool.eq_false_iff]
  intro ht
  exact h (allG_true ht _ (getD_mem hk))
def upG (l : List Int) (k : Nat) : Prop := ∀ j, j < k → G (l.getD j 0)
theorem upG_all {l : List Int} (h : upG l l.length) : allG l = true := by
  unfold allG
  rw [List.all_eq_true]
  intro x hx
  obtain ⟨j, hj, rfl⟩ := List.mem_iff_getElem.1 hx
  have := h j hj
  have e : l.getD j 0 = l[j] := by simp [List.getD, hj]
  rw [e] at this
  simpa using this
theorem upG_step {l : List Int} {k : Nat} (h : upG l k) (g : G (l.getD k 0)) : upG l (k + 1) := by
  intro j hj
  by_cases e : j = k
  · subst e; exact g
  · exact h j (by omega)

set_option maxHeartbeats 1000000
def IntsPost (b : Bool) (l : List Int) (n : Nat) (w : World) (e : Ending) (w' : World) : Prop :=
  ∃ B cb, e = .returned (.tuple #[if b then .agg #[.int .i64 3, .slice none 0 0, .int .i64 0, .slice none 0 0, .slice B n cb, .slice none 0 0, .slice none 0 0, .slice none 0 0] else zeroVec, .bool b]) ∧ (b = true → w'.ownsRow w.heap.size 2 1 (.slice B n cb) n (i64s l)) ∧ Ext w w'
theorem vints_own (A : Option Addr) (l : List Int) (n : Nat) (hn : n = l.length) (c : Nat) (w : World) (hl : n ≤ 1048576) (hs : Sl w 1 A n (i64s l)) : Calls Try.prog 62 #[.slice A n c] w (IntsPost (allG l) l n w) := by
  have hc := cloneI64 A n c (i64s l) (w.alloc (.cells #[.int .i64 0, .slice none 0 0, .int .i64 0, .slice none 0 0, .slice none 0 0, .slice none 0 0, .slice none 0 0, .slice none 0 0] 47)) (hs.alloc _) (i64s_one l) (by omega)
  have HS := Lib.hid hs
  have HN := Lib.hid hn
  clear hs hn
  obtain ⟨b, hb⟩ : ∃ b, allG l = b := ⟨_, rfl⟩
  rw [hb]
  have HB := Lib.hid hb
  clear hb
  go_enter Try.func62, Try.ntmps62
  go_wp2_with fail
  go_loop [8] (fun i => ∃ k : Nat, k ≤ n ∧ i = .int .i64 k ∧ upG l k) (fun i => n - (intOf i).toNat)
  case atStart => exact ⟨0, Nat.zero_le _, rfl, fun j hj => absurd hj (by omega)⟩
  case round =>
    obtain ⟨k, hk, rfl, hup⟩ := hrel
    have HU := Lib.hid hup
    clear hup
    by_cases hlt : k < n
    · obtain ⟨a, u, rfl, hab, hu, hcell⟩ := HS.out.at1 hlt
      rw [i64s_get (by rw [← HN.out]; exact hlt)] at hu
      cases hu
      have L0 : ∀ o, (w.alloc o).cell? (a.add k) = some (.int .i64 (l.getD k 0)) := fun o => (World.cell?_alloc_lt w o _ (by rw [addr_block]; exact hab)).trans hcell
      clear hcell
      by_cases hg : G (l.getD k 0)
      · have hup := Lib.hid (upG_step HU.out hg)
        obtain ⟨g1, g2⟩ := hg
        generalize l.getD k 0 = x at *
        clear HU hc
        go_wp2
        exact ⟨⟨k + 1, by omega, by go_num, hup.out⟩, by simp [intOf]; omega⟩
      · have hf := allG_false (by rw [← HN.out]; exact hlt) hg
        rw [HB.out] at hf
        subst hf
        have hor : 9007199254740992 < l.getD k 0 ∨ l.getD k 0 < -9007199254740992 := by unfold G at hg; omega
        clear hg hc
        generalize l.getD k 0 = x at *
        rcases hor with hx | hx
        all_goals
          go_wp2
          refine bodyPost_ret (v := .tuple #[.agg #[.int .i64 0, .slice none 0 0, .int .i64 0, .slice none 0 0, .slice none 0 0, .slice none 0 0, .slice none 0 0, .slice none 0 0], .bool false]) (by simp [results, Try.results62, go_sem]) rfl ⟨none, 0, rfl, (fun h => absurd h (by decide)), ?_⟩
          first | exact (Ext.refl w).alloc _ | (repeat (first | exact Ext.refl w | refine Ext.setCell ?_ (Nat.le_refl _) _ | refine Ext.alloc ?_ _))
    · have hkn : k = n := by omega
      subst hkn
      have hup := HU.out
      rw [HN.out] at hup
      have ht := upG_all hup
      rw [HB.out] at ht
      subst ht
      clear hup
      go_wp2_with fail
      refine hc.mono ?_
      rintro e w1 ⟨v, rfl, hown, hx⟩
      obtain ⟨B, cb, rfl, hcap, hB⟩ := own_form hown
      obtain ⟨hc1, hf1⟩ := hx.cells
      have HO := Lib.hid hown
      have HX := Lib.hid (((Ext.refl w).alloc _).trans hx)
      have hsz : w.heap.size + 1 ≤ w1.heap.size := by have := hx.size; simpa using this
      clear hown hx hB hc
      go_wp2
      refine bodyPost_ret (v := .tuple #[.agg #[.int .i64 3, .slice none 0 0, .int .i64 0, .slice none 0 0, .slice B k cb, .slice none 0 0, .slice none 0 0, .slice none 0 0], .bool true]) (by simp [results, Try.results62, go_sem, hc1]) rfl ⟨B, cb, rfl, fun _ => ?_, ?_⟩
      · refine own_base (base := w.heap.size + 1) ?_ (Nat.le_succ _)
        repeat (refine ownsRow_setCell_below ?_ (by simp) _)
        simpa using HO.out
      · repeat (refine Ext.setCell ?_ (Nat.le_refl _) _)
        exact HX.out
end Go.Proofs.Ytdkgiklbmbkdaaa

namespace Go.Proofs.Ytdkgiklbmbkdaaa
open Go.RowKit Bv Fl

attribute [local go_sem] run_store_f64
/-- are all words numbers? -/
def allF (l : List Nat) : Bool := l.all fun x => decide (fin x)
theorem allF_true {l : List Nat} (h : allF l = true) : ∀ x ∈ l, fin x := by
  intro x hx
  unfold allF at h
  rw [List.all_eq_true] at h
  simpa using h x hx
theorem allF_false {l : List Nat} {k : Nat} (hk : k < l.length) (h : ¬ fin (l.getD k 0)) : allF l = false := by
  rw [Bool.eq_false_iff]
  intro ht
  exact h (allF_true ht _ (getD_memN hk))
def upF (l : List Nat) (k : Nat) : Prop := ∀ j, j < k → fin (l.getD j 0)
theorem upF_all {l : List Nat} (h : upF l l.length) : allF l = true := by
  unfold allF
  rw [List.all_eq_true]
  intro x hx
  obtain ⟨j, hj, rfl⟩ := List.mem_iff_getElem.1 hx
  have := h j hj
  have e : l.getD j 0 = l[j] := by simp [List.getD, hj]
  rw [e] at this
  simpa using this
theorem upF_step {l : List Nat} {k : Nat} (h : upF l k) (g : fin (l.getD k 0)) : upF l (k + 1) := by
  intro j hj
  by_cases e : j = k
  · subst e; exact g
  · exact h j (by omega)
def dnL (l : List Nat) : List Nat := l.map dn
theorem dnL_length (l : List Nat) : (dnL l).length = l.length := by simp [dnL]
theorem dnL_fill (l : List Nat) : f64s (dnL l) = fillL (fun k => .float .f64 (dn (l.getD k 0))) (.float .f64 0) l.length l.length := by
  rw [fillL_full]
  apply List.ext_getElem?
  intro i
  by_cases h : i < l.length
  · simp [f64s, dnL, h]
  · rw [List.getElem?_eq_none (by simp [f64s, dnL]; omega), List.getElem?_eq_none (by simp; omega)]
theorem dnL_tidy {l : List Nat} (h : ∀ x ∈ l, x < 18446744073709551616) : ∀ x ∈ dnL l, tidy x := by
  intro x hx
  unfold dnL at hx
  rw [List.mem_map] at hx
  obtain ⟨y, hy, rfl⟩ := hx
  exact dn_tidy y (h y hy)

set_option maxHeartbeats 1000000
def FloatsPost (b : Bool) (l : List Nat) (n : Nat) (w : World) (e : Ending) (w' : World) : Prop :=
  ∃ B cb, e = .returned (.tuple #[if b then .agg #[.int .i64 4, .slice none 0 0, .int .i64 0, .slice none 0 0, .slice none 0 0, .slice B n cb, .slice none 0 0, .slice none 0 0] else zeroVec, .bool b]) ∧ (b = true → w'.ownsRow w.heap.size 75 1 (.slice B n cb) n (f64s (dnL l))) ∧ Ext w w'
theorem vfloats_own (A : Option Addr) (l : List Nat) (n : Nat) (hn : n = l.length) (c : Nat) (w : World) (hl : n ≤ 1048576) (hs : Sl w 1 A n (f64s l)) : Calls Try.prog 36 #[.slice A n c] w (FloatsPost (allF l) l n w) := by
  obtain ⟨i0, hi0, hz0, hz1, hz2⟩ := info_parts infoF
  have hsz : i0.bytes * n ≤ 281474976710656 := by rw [hz2]; omega
  have hfull := dnL_fill l
  rw [← hn] at hfull
  have HS := Lib.hid hs
  have HN := Lib.hid hn
  have HF := Lib.hid hfull
  clear hs hn hfull
  obtain ⟨b, hb⟩ : ∃ b, allF l = b := ⟨_, rfl⟩
  rw [hb]
  have HB := Lib.hid hb
  clear hb
  go_enter Try.func36, Try.ntmps36
  go_wp2_with (at_make; refine wpList_make_full _ rfl _ _ 43 rfl (w.heap.size + 1) 75 i0 (.float .f64 0) 1 Try.underlying43 hi0 hz0 hz1 .i64 .i64 _ _ n rfl rfl rfl rfl hsz (by simp only [maxLen]; omega) (by simp) ?_)
  intro w1 hown hg
  have hx1 := ext_none hg
  have HR : Hid (w1.ownsRow (w.heap.size + 1) 75 1 (.slice (some ⟨w.heap.size + 1, 0, none⟩) n n) n (fillL (fun k => .float .f64 (dn (l.getD k 0))) (.float .f64 0) n 0)) := by
    have e := made_zero (.float .f64 0) n (fun k => .float .f64 (dn (l.getD k 0)))
    rw [e] at hown; exact hown
  have HB1 : Hid (Below (w.heap.size + 1) (w.alloc (.cells #[.int .i64 0, .slice none 0 0, .int .i64 0, .slice none 0 0, .slice none 0 0, .slice none 0 0, .slice none 0 0, .slice none 0 0] 47)) w1) := hx1.mono (by simp)
  clear hown hg hx1 hsz
  go_wp2_with fail
  go_loopw [14] (fun i wr => ∃ k : Nat, k ≤ n ∧ i = .int .i64 k ∧ upF l k ∧ wr.ownsRow (w.heap.size + 1) 75 1 (.slice (some ⟨w.heap.size + 1, 0, none⟩) n n) n (fillL (fun k => .float .f64 (dn (l.getD k 0))) (.float .f64 0) n k) ∧ Below (w.heap.size + 1) (w.alloc (.cells #[.int .i64 0, .slice none 0 0, .int .i64 0, .slice none 0 0, .slice none 0 0, .slice none 0 0, .slice none 0 0, .slice none 0 0] 47)) wr) (fun i _ => n - (intOf i).toNat)
  case atStart => exact ⟨0, Nat.zero_le _, rfl, fun j hj => absurd hj (by omega), HR.out, HB1.out⟩
  case round =>
    obtain ⟨k, hk, rfl, hup, hown, hbel⟩ := hrel
    have HU := Lib.hid hup
    clear hup
    have HX : Hid (Ext w wr) := ((Ext.refl w).alloc _).trans' (hbel.mono (by omega))
    have hcs : ∀ o, wr.cell? ⟨w.heap.size, o, none⟩ = (w.alloc (.cells #[.int .i64 0, .slice none 0 0, .int .i64 0, .slice none 0 0, .slice none 0 0, .slice none 0 0, .slice none 0 0, .slice none 0 0] 47)).cell? ⟨w.heap.size, o, none⟩ := fun o => Below.cell (p := ⟨w.heap.size, o, none⟩) hbel (by simp)
    have hfs : ∀ o, wr.frozen? ⟨w.heap.size, o, none⟩ = (w.alloc (.cells #[.int .i64 0, .slice none 0 0, .int .i64 0, .slice none 0 0, .slice none 0 0, .slice none 0 0, .slice none 0 0, .slice none 0 0] 47)).frozen? ⟨w.heap.size, o, none⟩ := fun o => Below.frozen (p := ⟨w.heap.size, o, none⟩) hbel (by simp)
    by_cases hlt : k < n
    · obtain ⟨a, u, rfl, hab, hu, hcell⟩ := HS.out.at1 hlt
      rw [f64s_get (by rw [← HN.out]; exact hlt)] at hu
      cases hu
      have L0 : wr.cell? (a.add k) = some (.float .f64 (l.getD k 0)) := (Below.cell HX.out (by rw [addr_block]; exact hab)).trans hcell
      have ct := tidy_any (l.getD k 0) wr
      clear hcell
      by_cases hg : fin (l.getD k 0)
      · have hup := Lib.hid (upF_step HU.out hg)
        rw [decide_eq_true hg] at ct
        have F0 : wr.cell? ⟨w.heap.size + 1, k, none⟩ = some (.float .f64 0) := by
          rw [hown.cellAt k (by omega)]; exact fillL_get _ _ hlt
        have F1 : wr.frozen? ⟨w.heap.size + 1, k, none⟩ = false := hown.frozenAt k
        have hst := (hown.stored k (.float .f64 (dn (l.getD k 0)))).1
        rw [fillL_set (fun k => .float .f64 (dn (l.getD k 0))) (.float .f64 0) hlt] at hst
        have H1 := Lib.hid hst
        have H2 := Lib.hid (hbel.setCell (p := ⟨w.heap.size + 1, k, none⟩) (Nat.le_refl _) (.float .f64 (dn (l.getD k 0))))
        clear hst hown hbel HU hg hcs hfs
        generalize l.getD k 0 = x at *
        go_wp2_with fail
        refine ct.mono ?_
        rintro e w4 ⟨rfl, rfl⟩
        go_wp2
        exact ⟨⟨k + 1, by omega, by go_num, hup.out, H1.out, H2.out⟩, by simp [intOf]; omega⟩
      · have hf := allF_false (by rw [← HN.out]; exact hlt) hg
        rw [HB.out] at hf
        subst hf
        rw [decide_eq_false hg] at ct
        clear hg hown hbel
        generalize l.getD k 0 = x at *
        go_wp2_with fail
        refine ct.mono ?_
        rintro e w4 ⟨rfl, rfl⟩
        go_wp2
        refine bodyPost_ret (v := .tuple #[.agg #[.int .i64 0, .slice none 0 0, .int .i64 0, .slice none 0 0, .slice none 0 0, .slice none 0 0, .slice none 0 0, .slice none 0 0], .bool false]) (by simp [results, Try.results36, go_sem, hcs]) rfl ⟨none, 0, rfl, (fun h => absurd h (by decide)), ?_⟩
        repeat (first | refine Ext.setCell ?_ (Nat.le_refl _) _ | refine Ext.alloc ?_ _)
        exact HX.out
    · have hkn : k = n := by omega
      subst hkn
      have hup := HU.out
      rw [HN.out] at hup
      have ht := upF_all hup
      rw [HB.out] at ht
      subst ht
      have HO := Lib.hid hown
      clear hup hown hbel
      go_wp2
      refine bodyPost_ret (v := .tuple #[.agg #[.int .i64 4, .slice none 0 0, .int .i64 0, .slice none 0 0, .slice none 0 0, .slice (some ⟨w.heap.size + 1, 0, none⟩) k k, .slice none 0 0, .slice none 0 0], .bool true]) (by simp [results, Try.results36, go_sem, hcs]) rfl ⟨_, k, rfl, fun _ => ?_, ?_⟩
      · refine own_base (base := w.heap.size + 1) ?_ (Nat.le_succ _)
        repeat (refine ownsRow_setCell_below ?_ (by simp) _)
        rw [HF.out]
        exact HO.out
      · repeat (refine Ext.setCell ?_ (Nat.le_refl _) _)
        exact HX.out
/-- what holds nothing holds nothing in every world -/
theorem IsVec.empty {w : World} {v : Value} {d : VD} (h : IsVec w v d) (hd : d = VD.chars [] ∨ d = VD.boxes [] ∨ d = VD.bits []) (w' : World) : IsVec w' v d := by
  rcases hd with rfl | rfl | rfl
  · rcases h with ⟨h, _⟩ | ⟨l, A, c, h, _⟩ | ⟨l, A, c, h, _⟩ | ⟨l, A, c, h, _⟩ | ⟨l, A, c, h, _⟩ | ⟨l, A, c, h, hl, hv, hs⟩ | ⟨n, cs, A, c, h, _⟩
    · cases h
    · cases h
    · cases h
    · cases h
    · cases h
    · obtain rfl : [] = l := by cases h; rfl
      exact .inr (.inr (.inr (.inr (.inr (.inl ⟨[], A, c, rfl, hl, hv, Sl.nil _ _ _⟩)))))
    · cases h
  · rcases h with ⟨h, _⟩ | ⟨l, A, c, h, _⟩ | ⟨l, A, c, h, _⟩ | ⟨l, A, c, h, _⟩ | ⟨l, A, c, h, _⟩ | ⟨l, A, c, h, _⟩ | ⟨n, cs, A, c, h, hn, hl, h1, hv, hs⟩
    · cases h
    · cases h
    · cases h
    · cases h
    · cases h
    · cases h
    · obtain rfl : [] = cs := by cases h; rfl
      have hn0 : n = 0 := by
        have h9 := hl
        simp at h9
        omega
      subst hn0
      exact .inr (.inr (.inr (.inr (.inr (.inr ⟨0, [], A, c, rfl, hn, hl, h1, hv, Sl.nil _ _ _⟩)))))
  · rcases h with ⟨h, _⟩ | ⟨l, A, c, h, hl, hv, hs⟩ | ⟨l, A, c, h, _⟩ | ⟨l, A, c, h, _⟩ | ⟨l, A, c, h, _⟩ | ⟨l, A, c, h, _⟩ | ⟨n, cs, A, c, h, _⟩
    · cases h
    · obtain rfl : [] = l := by cases h; rfl
      exact .inr (.inl ⟨[], A, c, rfl, hl, hv, Sl.nil _ _ _⟩)
    · cases h
    · cases h
    · cases h
    · cases h
    · cases h
/-- the fields' shapes -/
theorem IsVec.shape {w : World} {v : Value} {d : VD} (h : IsVec w v d) : ∃ a1 n1 k1 bn a3 n3 k3 a4 n4 k4 a5 n5 k5 a6 n6 k6 a7 n7 k7, v = .agg #[.int .i64 (d.kind : Int), .slice a1 n1 k1, .int .i64 bn, .slice a3 n3 k3, .slice a4 n4 k4, .slice a5 n5 k5, .slice a6 n6 k6, .slice a7 n7 k7] := by
  rcases h with ⟨rfl, rfl⟩ | ⟨l, A, c, rfl, _, rfl, _⟩ | ⟨l, A, c, rfl, _, _, rfl, _⟩ | ⟨l, A, c, rfl, _, _, rfl, _⟩ | ⟨l, A, c, rfl, _, _, rfl, _⟩ | ⟨l, A, c, rfl, _, rfl, _⟩ | ⟨n, cs, A, c, rfl, _, _, _, rfl, _⟩
  all_goals exact ⟨_, _, _, _, _, _, _, _, _, _, _, _, _, _, _, _, _, _, _, rfl⟩
/-- what None leaves -/
def NonePost (d : VD) (w : World) (e : Ending) (w' : World) : Prop := ∃ v, e = .returned v ∧ IsVec w' v d ∧ Ext w w'
/-- what None holds -/
def noneD (cls : Int) : VD := if cls = 1 then VD.chars [] else if cls = 2 then VD.boxes [] else VD.bits []
end Go.Proofs.Ytdkgiklbmbkdaaa
