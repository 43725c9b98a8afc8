/- What a Vec holds: plain words. -/
import Derived.Test.YtidnikndjhfgaaaB
import Derived.Test.YtidnikndjhfgaaaN
namespace Go.Proofs.Ytidnikndjhfgaaa
open Go.RowKit Bv Fl

/-- a Vec's content: its store, and the elements in that store -/
structure VD where
  kind : Nat
  bs : List Bool
  ns : List Int
  fs : List Nat
  cs : List Value
namespace VD
def none : VD := ⟨0, [], [], [], []⟩
def bits (l : List Bool) : VD := ⟨1, l, [], [], []⟩
def smalls (l : List Int) : VD := ⟨2, [], l, [], []⟩
def ints (l : List Int) : VD := ⟨3, [], l, [], []⟩
def floats (l : List Nat) : VD := ⟨4, [], [], l, []⟩
def chars (l : List Int) : VD := ⟨5, [], l, [], []⟩
def boxes (cs : List Value) : VD := ⟨6, [], [], [], cs⟩
def len (d : VD) : Nat :=
  match d.kind with
  | 1 => d.bs.length
  | 2 => d.ns.length
  | 3 => d.ns.length
  | 4 => d.fs.length
  | 5 => d.ns.length
  | 6 => d.cs.length / 9
  | _ => 0
/-- 0: numbers, 1: characters, 2: boxes -/
def cls (d : VD) : Nat :=
  match d.kind with
  | 5 => 1
  | 6 => 2
  | _ => 0
/-- the number at a place, as a word -/
def num (d : VD) (i : Nat) : Nat :=
  match d.kind with
  | 1 => bitW (d.bs.getD i false)
  | 2 => fi (d.ns.getD i 0)
  | 3 => fi (d.ns.getD i 0)
  | 4 => d.fs.getD i 0
  | _ => 0
/-- the whole number at a place of a store of whole ones -/
def whl (d : VD) (i : Nat) : Int :=
  match d.kind with
  | 1 => if d.bs.getD i false then 1 else 0
  | 2 => d.ns.getD i 0
  | 3 => d.ns.getD i 0
  | _ => 0
def isWhl (d : VD) : Bool :=
  match d.kind with
  | 1 => true
  | 2 => true
  | 3 => true
  | _ => false
def nums (d : VD) : List Nat := (List.range d.len).map d.num
def whls (d : VD) : List Int := (List.range d.len).map d.whl
end VD

def i8s (l : List Int) : List Value := l.map fun x => .int .i8 x
def i32s (l : List Int) : List Value := l.map fun x => .int .i32 x
def i64s (l : List Int) : List Value := l.map fun x => .int .i64 x
def f64s (l : List Nat) : List Value := l.map fun x => .float .f64 x
theorem i8s_length (l : List Int) : (i8s l).length = l.length := by simp [i8s]
theorem i8s_get {l : List Int} {k : Nat} (h : k < l.length) : (i8s l)[k]? = some ((fun x : Int => ((.int .i8 x) : Value)) (l.getD k 0)) := by simp [i8s, List.getD, h]
theorem i8s_one (l : List Int) : ∀ u ∈ i8s l, u.oneCell' = true := by
  intro u hu
  simp only [i8s, List.mem_map] at hu
  obtain ⟨x, _, rfl⟩ := hu
  rfl
theorem i32s_length (l : List Int) : (i32s l).length = l.length := by simp [i32s]
theorem i32s_get {l : List Int} {k : Nat} (h : k < l.length) : (i32s l)[k]? = some ((fun x : Int => ((.int .i32 x) : Value)) (l.getD k 0)) := by simp [i32s, List.getD, h]
theorem i32s_one (l : List Int) : ∀ u ∈ i32s l, u.oneCell' = true := by
  intro u hu
  simp only [i32s, List.mem_map] at hu
  obtain ⟨x, _, rfl⟩ := hu
  rfl
theorem i64s_length (l : List Int) : (i64s l).length = l.length := by simp [i64s]
theorem i64s_get {l : List Int} {k : Nat} (h : k < l.length) : (i64s l)[k]? = some ((fun x : Int => ((.int .i64 x) : Value)) (l.getD k 0)) := by simp [i64s, List.getD, h]
theorem i64s_one (l : List Int) : ∀ u ∈ i64s l, u.oneCell' = true := by
  intro u hu
  simp only [i64s, List.mem_map] at hu
  obtain ⟨x, _, rfl⟩ := hu
  rfl
theorem f64s_length (l : List Nat) : (f64s l).length = l.length := by simp [f64s]
theorem f64s_get {l : List Nat} {k : Nat} (h : k < l.length) : (f64s l)[k]? = some ((fun x : Nat => ((.float .f64 x) : Value)) (l.getD k 0)) := by simp [f64s, List.getD, h]
theorem f64s_one (l : List Nat) : ∀ u ∈ f64s l, u.oneCell' = true := by
  intro u hu
  simp only [f64s, List.mem_map] at hu
  obtain ⟨x, _, rfl⟩ := hu
  rfl

/-- the value v is a Vec that holds d -/
def IsVec (w : World) (v : Value) (d : VD) : Prop :=
  (d = VD.none ∧ v = .agg #[.int .i64 0, .slice none 0 0, .int .i64 0, .slice none 0 0, .slice none 0 0, .slice none 0 0, .slice none 0 0, .slice none 0 0]) ∨
  (∃ l A c, d = VD.bits l ∧ l.length ≤ 1048576 ∧ v = .agg #[.int .i64 1, .slice A (wc l.length) c, .int .i64 (l.length : Int), .slice none 0 0, .slice none 0 0, .slice none 0 0, .slice none 0 0, .slice none 0 0] ∧ Sl w 1 A (wc l.length) (u64s (words l))) ∨
  (∃ l A c, d = VD.smalls l ∧ l.length ≤ 1048576 ∧ (∀ x ∈ l, -128 ≤ x ∧ x ≤ 127) ∧ v = .agg #[.int .i64 2, .slice none 0 0, .int .i64 0, .slice A l.length c, .slice none 0 0, .slice none 0 0, .slice none 0 0, .slice none 0 0] ∧ Sl w 1 A l.length (i8s l)) ∨
  (∃ l A c, d = VD.ints l ∧ l.length ≤ 1048576 ∧ (∀ x ∈ l, G x) ∧ v = .agg #[.int .i64 3, .slice none 0 0, .int .i64 0, .slice none 0 0, .slice A l.length c, .slice none 0 0, .slice none 0 0, .slice none 0 0] ∧ Sl w 1 A l.length (i64s l)) ∨
  (∃ l A c, d = VD.floats l ∧ l.length ≤ 1048576 ∧ (∀ x ∈ l, tidy x) ∧ v = .agg #[.int .i64 4, .slice none 0 0, .int .i64 0, .slice none 0 0, .slice none 0 0, .slice A l.length c, .slice none 0 0, .slice none 0 0] ∧ Sl w 1 A l.length (f64s l)) ∨
  (∃ l A c, d = VD.chars l ∧ l.length ≤ 1048576 ∧ v = .agg #[.int .i64 5, .slice none 0 0, .int .i64 0, .slice none 0 0, .slice none 0 0, .slice none 0 0, .slice A l.length c, .slice none 0 0] ∧ Sl w 1 A l.length (i32s l)) ∨
  (∃ n cs A c, d = VD.boxes cs ∧ n ≤ 1048576 ∧ cs.length = n * 9 ∧ (∀ u ∈ cs, u.oneCell' = true) ∧ v = .agg #[.int .i64 6, .slice none 0 0, .int .i64 0, .slice none 0 0, .slice none 0 0, .slice none 0 0, .slice none 0 0, .slice A n c] ∧ Sl w 9 A n cs)
theorem IsVec.ext {w w' : World} {v : Value} {d : VD} (h : IsVec w v d) (he : Ext w w') : IsVec w' v d := by
  rcases h with h | ⟨l, A, c, h1, h2, h3, h4⟩ | ⟨l, A, c, h1, h2, h3, h4, h5⟩ | ⟨l, A, c, h1, h2, h3, h4, h5⟩ | ⟨l, A, c, h1, h2, h3, h4, h5⟩ | ⟨l, A, c, h1, h2, h3, h4⟩ | ⟨n, cs, A, c, h1, h2, h3, h4, h5, h6⟩
  · exact .inl h
  · exact .inr (.inl ⟨l, A, c, h1, h2, h3, h4.ext he⟩)
  · exact .inr (.inr (.inl ⟨l, A, c, h1, h2, h3, h4, h5.ext he⟩))
  · exact .inr (.inr (.inr (.inl ⟨l, A, c, h1, h2, h3, h4, h5.ext he⟩)))
  · exact .inr (.inr (.inr (.inr (.inl ⟨l, A, c, h1, h2, h3, h4, h5.ext he⟩))))
  · exact .inr (.inr (.inr (.inr (.inr (.inl ⟨l, A, c, h1, h2, h3, h4.ext he⟩)))))
  · exact .inr (.inr (.inr (.inr (.inr (.inr ⟨n, cs, A, c, h1, h2, h3, h4, h5, h6.ext he⟩)))))
theorem VD.len_boxes (cs : List Value) (n : Nat) (h : cs.length = n * 9) : (VD.boxes cs).len = n := by
  show cs.length / 9 = n
  omega
theorem IsVec.lim {w : World} {v : Value} {d : VD} (h : IsVec w v d) : d.len ≤ 1048576 := by
  rcases h with ⟨rfl, _⟩ | ⟨l, A, c, rfl, h2, _⟩ | ⟨l, A, c, rfl, h2, _⟩ | ⟨l, A, c, rfl, h2, _⟩ | ⟨l, A, c, rfl, h2, _⟩ | ⟨l, A, c, rfl, h2, _⟩ | ⟨n, cs, A, c, rfl, h2, h3, _⟩
  · decide
  · exact h2
  · exact h2
  · exact h2
  · exact h2
  · exact h2
  · rw [VD.len_boxes cs n h3]; exact h2

set_option maxHeartbeats 1000000
theorem vkind_any (v : Value) (d : VD) (w : World) (h : IsVec w v d) : Calls Try.prog 40 #[v] w fun e w' => e = .returned (.int .i64 (d.kind : Int)) ∧ Ext w w' := by
  rcases h with ⟨rfl, rfl⟩ | ⟨l, A, c, rfl, _, rfl, _⟩ | ⟨l, A, c, rfl, _, _, rfl, _⟩ | ⟨l, A, c, rfl, _, _, rfl, _⟩ | ⟨l, A, c, rfl, _, _, rfl, _⟩ | ⟨l, A, c, rfl, _, rfl, _⟩ | ⟨n, cs, A, c, rfl, _, _, _, rfl, _⟩
  all_goals
    go_enter Try.func40, Try.ntmps40
    go_wp2
    go_ret
    exact ⟨rfl, (Ext.refl w).alloc _⟩
theorem vclass_any (v : Value) (d : VD) (w : World) (h : IsVec w v d) : Calls Try.prog 49 #[v] w fun e w' => e = .returned (.int .i64 (d.cls : Int)) ∧ Ext w w' := by
  rcases h with ⟨rfl, rfl⟩ | ⟨l, A, c, rfl, _, rfl, _⟩ | ⟨l, A, c, rfl, _, _, rfl, _⟩ | ⟨l, A, c, rfl, _, _, rfl, _⟩ | ⟨l, A, c, rfl, _, _, rfl, _⟩ | ⟨l, A, c, rfl, _, rfl, _⟩ | ⟨n, cs, A, c, rfl, _, _, _, rfl, _⟩
  all_goals
    go_enter Try.func49, Try.ntmps49
    go_wp2
    go_ret
    exact ⟨rfl, (Ext.refl w).alloc _⟩
theorem vlen_any (v : Value) (d : VD) (w : World) (h : IsVec w v d) : Calls Try.prog 47 #[v] w fun e w' => e = .returned (.int .i64 (d.len : Int)) ∧ Ext w w' := by
  rcases h with ⟨rfl, rfl⟩ | ⟨l, A, c, rfl, hl, rfl, hs⟩ | ⟨l, A, c, rfl, _, _, rfl, _⟩ | ⟨l, A, c, rfl, _, _, rfl, _⟩ | ⟨l, A, c, rfl, _, _, rfl, _⟩ | ⟨l, A, c, rfl, _, rfl, _⟩ | ⟨n, cs, A, c, rfl, _, hn, _, rfl, _⟩
  · go_enter Try.func47, Try.ntmps47
    go_wp2
    go_ret
    exact ⟨rfl, (Ext.refl w).alloc _⟩
  · have hb : IsB w (.agg #[.slice A (wc l.length) c, .int .i64 (l.length : Int)]) l := ⟨hl, A, c, rfl, hs⟩
    have c1 := blen_any _ l _ (hb.ext ((Ext.refl w).alloc (.cells #[.int .i64 1, .slice A (wc l.length) c, .int .i64 (l.length : Int), .slice none 0 0, .slice none 0 0, .slice none 0 0, .slice none 0 0, .slice none 0 0] 41)))
    have hx0 := Lib.hid ((Ext.refl w).alloc (.cells #[.int .i64 1, .slice A (wc l.length) c, .int .i64 (l.length : Int), .slice none 0 0, .slice none 0 0, .slice none 0 0, .slice none 0 0, .slice none 0 0] 41))
    clear hb hs
    generalize wc l.length = m at *
    go_enter Try.func47, Try.ntmps47
    go_wp2_with fail
    refine c1.mono ?_
    rintro e w1 ⟨rfl, hx⟩
    have HX := Lib.hid hx
    clear hx
    go_wp2
    go_ret
    exact ⟨rfl, hx0.out.trans HX.out⟩
  · go_enter Try.func47, Try.ntmps47
    go_wp2
    go_ret
    exact ⟨rfl, (Ext.refl w).alloc _⟩
  · go_enter Try.func47, Try.ntmps47
    go_wp2
    go_ret
    exact ⟨rfl, (Ext.refl w).alloc _⟩
  · go_enter Try.func47, Try.ntmps47
    go_wp2
    go_ret
    exact ⟨rfl, (Ext.refl w).alloc _⟩
  · go_enter Try.func47, Try.ntmps47
    go_wp2
    go_ret
    exact ⟨rfl, (Ext.refl w).alloc _⟩
  · rw [VD.len_boxes cs n hn]
    clear hn
    go_enter Try.func47, Try.ntmps47
    go_wp2
    go_ret
    exact ⟨rfl, (Ext.refl w).alloc _⟩
end Go.Proofs.Ytidnikndjhfgaaa
