/- Rows that were given, and are written to; mono.wholes. -/
import Derived.Test.YtidnikndjhfgaaaDoorUa
import Derived.Test.YtidnikndjhfgaaaDoorQl
namespace Go.Proofs.YtidnikndjhfgaaaDoor
open Go.ChangeShapes Go.WideShapes Go.RowKit Bv Fl
/-- n elements lie in block g, xs, to be written; there may be room behind them -/
def RowC (T : TypeId) (w : World) (g n c : Nat) (xs : List Value) : Prop := w.ownsRow g T 1 (.slice (some ⟨g, 0, none⟩) n c) n xs
section
variable {T : TypeId} {w w' : World} {g g' n c : Nat} {xs : List Value}
theorem RowC.lt (h : RowC T w g n c xs) : g < w.heap.size := (World.ownsRow.lt h g rfl).2
theorem RowC.ext (h : RowC T w g n c xs) (hx : Ext w w') : RowC T w' g n c xs := World.ownsRow.kept h (row := none) ⟨hx.os, hx.tape, hx.output, hx.size, fun i hi _ => hx.block i hi⟩ (.inr (by simp [Value.ownBlock]))
theorem RowC.grown (h : RowC T w g n c xs) (hg : w.grownBy w' (some g')) (hne : g ≠ g') : RowC T w' g n c xs := World.ownsRow.kept h hg (.inr (by simpa [Value.ownBlock] using hne))
theorem RowC.sl (h : RowC T w g n c xs) : Sl w 1 (some ⟨g, 0, none⟩) n xs := Sl.own h
theorem RowC.len (h : RowC T w g n c xs) : xs.length = n := by have := h.1; omega
theorem RowC.of {base : Nat} {v : Value} (h : w.ownsRow base T 1 v n xs) : (v = .slice none 0 0 ∧ n = 0 ∧ xs = []) ∨ ∃ g c, v = .slice (some ⟨g, 0, none⟩) n c ∧ base ≤ g ∧ RowC T w g n c xs := by
  obtain ⟨h1, h2⟩ := h
  rcases h2 with ⟨rfl, rfl⟩ | ⟨g, cap, cur, rfl, hg, hc, h3⟩
  · exact .inl ⟨rfl, rfl, List.length_eq_zero_iff.1 (by simpa using h1)⟩
  · exact .inr ⟨g, cap, rfl, hg, h1, .inr ⟨g, cap, cur, rfl, Nat.le_refl _, hc, h3⟩⟩
end
section
variable {P : Program} {ty : TypeId}
theorem wp_store_rowc (hi : (P.info? ty).map (·.size) = some 1) {op : Oper} {a : Act} {w : World} {K : Act → World → Prop} {Q : Exit → Act → World → Prop} {x y : Operand} (ho : op.op = .store ty x y)
    {g k n c : Nat} {xs : List Value} (hx : a.eval x = .pointer (some ⟨g, k, none⟩)) {v : Value} (hy : a.eval y = v) (h1 : v.oneCell' = true) {T : TypeId} (hr : RowC T w g n c xs) (hk : k < n)
    (h : ∀ w', w.grownBy w' (some g) → RowC T w' g n c (xs.set k v) → K (a.put op.dst undef) w') : op.wp P a w K Q := by
  have hl := hr.len
  have hc : w.cell? ⟨g, k, none⟩ = some (xs[k]'(by omega)) := by rw [World.ownsRow.cellAt hr k (by omega)]; simp [hl, hk]
  have hrun := run_storeVar_one (P := P) (ty := ty) hi h1 hc (World.ownsRow.frozenAt hr k)
  have hst := World.ownsRow.stored hr k v
  unfold Oper.wp execOp
  simp only [ho, hx, hy, Instr.storeAt, Instr.sureAddr, Sem.run_bind, Sem.run_pure, Result.andThen_ok, hrun]
  exact h _ hst.2 hst.1
theorem wpList_store_rowc (hi : (P.info? ty).map (·.size) = some 1) {ops : Array Oper} {rest : List Oper} {op : Oper} {a : Act} {w : World} {Q : Exit → Act → World → Prop} (hgd : op.guard = none) {x y : Operand} (ho : op.op = .store ty x y)
    {g k n c : Nat} {xs : List Value} (hx : a.eval x = .pointer (some ⟨g, k, none⟩)) {v : Value} (hy : a.eval y = v) (h1 : v.oneCell' = true) {T : TypeId} (hr : RowC T w g n c xs) (hk : k < n)
    (h : ∀ w', w.grownBy w' (some g) → RowC T w' g n c (xs.set k v) → wpList P ops Q rest (a.put op.dst undef) w') : wpList P ops Q (op :: rest) a w :=
  wpList_plain hgd fun _ hK => wp_store_rowc hi ho hx hy h1 hr hk fun _ h1 h2 => hK _ _ (h _ h1 h2)
end
theorem storesc_f64 {ops : Array Oper} {rest : List Oper} {op : Oper} {a : Act} {w : World} {Q : Exit → Act → World → Prop} (hgd : op.guard = none) {x y : Operand} (ho : op.op = .store 22 x y)
    {g k n c : Nat} {xs : List Value} (hx : a.eval x = .pointer (some ⟨g, k, none⟩)) {v : Value} (hy : a.eval y = v) (h1 : v.oneCell' = true) {T : TypeId} (hr : RowC T w g n c xs) (hk : k < n)
    (h : ∀ w', w.grownBy w' (some g) → RowC T w' g n c (xs.set k v) → wpList Tryd.prog ops Q rest (a.put op.dst undef) w') : wpList Tryd.prog ops Q (op :: rest) a w := wpList_store_rowc esz_f64 hgd ho hx hy h1 hr hk h
theorem storesc_i64 {ops : Array Oper} {rest : List Oper} {op : Oper} {a : Act} {w : World} {Q : Exit → Act → World → Prop} (hgd : op.guard = none) {x y : Operand} (ho : op.op = .store 2 x y)
    {g k n c : Nat} {xs : List Value} (hx : a.eval x = .pointer (some ⟨g, k, none⟩)) {v : Value} (hy : a.eval y = v) (h1 : v.oneCell' = true) {T : TypeId} (hr : RowC T w g n c xs) (hk : k < n)
    (h : ∀ w', w.grownBy w' (some g) → RowC T w' g n c (xs.set k v) → wpList Tryd.prog ops Q rest (a.put op.dst undef) w') : wpList Tryd.prog ops Q (op :: rest) a w := wpList_store_rowc esz_i64 hgd ho hx hy h1 hr hk h
/-- the first k are F's, the others H's -/
def mixV (F H : Nat → Value) (n k : Nat) : List Value := (List.range n).map fun j => if j < k then F j else H j
theorem mixV_zero (F H : Nat → Value) (n : Nat) : mixV F H n 0 = (List.range n).map H := by
  unfold mixV; apply List.map_congr_left; intro j _; rw [if_neg (by omega)]
theorem mixV_full (F H : Nat → Value) (n : Nat) : mixV F H n n = (List.range n).map F := by
  unfold mixV; apply List.map_congr_left; intro j h; rw [if_pos (List.mem_range.1 h)]
theorem mixV_set (F H : Nat → Value) {n k : Nat} (_ : k < n) : (mixV F H n k).set k (F k) = mixV F H n (k + 1) := by
  apply List.ext_getElem (by simp [mixV])
  intro i h1 h2
  have hi : i < n := by simpa [mixV] using h2
  rw [List.getElem_set]
  simp only [mixV, List.getElem_map, List.getElem_range]
  by_cases e : k = i
  · subst e; rw [if_pos rfl, if_pos (by omega)]
  · rw [if_neg e]
    by_cases g : i < k
    · rw [if_pos g, if_pos (by omega)]
    · rw [if_neg g, if_neg (by omega)]
theorem mixV_get (F H : Nat → Value) {n k : Nat} (h : k < n) : (mixV F H n k)[k]? = some (H k) := by
  simp [mixV, h]
theorem range_i64 (l : List Int) : i64s l = (List.range l.length).map fun j => .int .i64 (l.getD j 0) := by
  apply List.ext_getElem (by simp [i64s])
  intro i h1 h2
  have hi : i < l.length := by simpa using h2
  simp [i64s, List.getD, hi]
theorem range_f64 (l : List Nat) : f64s l = (List.range l.length).map fun j => .float .f64 (l.getD j 0) := by
  apply List.ext_getElem (by simp [f64s])
  intro i h1 h2
  have hi : i < l.length := by simpa using h2
  simp [f64s, List.getD, hi]
def resM (f : Int) (x : List Nat) : List Nat := x.map (valM f)
def errMF (f : Int) (x : List Nat) : Nat → Int
  | 0 => 0
  | k + 1 => if errMF f x k ≠ 0 then errMF f x k else errM f (x.getD k 0)
theorem errMF_of {f : Int} {x : List Nat} {k : Nat} (h : ∀ j, j < k → errM f (x.getD j 0) = 0) : errMF f x k = 0 := by
  induction k with
  | zero => rfl
  | succ k ih => unfold errMF; rw [if_neg (by rw [ih fun j hj => h j (by omega)]; decide)]; exact h k (by omega)
theorem errMF_stay {f : Int} {x : List Nat} {k n : Nat} (h : errMF f x k ≠ 0) (hk : k ≤ n) : errMF f x n = errMF f x k := by
  induction hk with
  | refl => rfl
  | step _ ih => show (if _ then _ else _) = _; rw [if_pos (by rw [ih]; exact h), ih]
theorem resM_length (f : Int) (x : List Nat) : (resM f x).length = x.length := by simp [resM]
theorem resM_get (f : Int) {x : List Nat} {j : Nat} (h : j < x.length) : (resM f x).getD j 0 = valM f (x.getD j 0) := by simp [resM, List.getD, h]
theorem resM_tidy (f : Int) {x : List Nat} (hx : ∀ i ∈ x, tidy i) : ∀ i ∈ resM f x, tidy i := by
  intro i hi
  simp only [resM, List.mem_map] at hi
  obtain ⟨y, hy, rfl⟩ := hi
  exact valM_tidy f (hx y hy)
theorem resM_row (f : Int) (x : List Nat) : f64s (resM f x) = (List.range x.length).map fun j => .float .f64 (valM f (x.getD j 0)) := by
  rw [range_f64, resM_length]
  apply List.map_congr_left
  intro j hj
  rw [resM_get f (List.mem_range.1 hj)]
theorem ints_numsM (l : List Int) : (VD.ints l).nums = l.map fi := by
  apply List.ext_getElem (by rw [VD.nums_length, List.length_map]; rfl)
  intro j h1 h2
  have hj : j < l.length := by rw [List.length_map] at h2; exact h2
  simp only [VD.nums, List.getElem_map, List.getElem_range]
  show fi (l.getD j 0) = fi l[j]
  rw [show l.getD j 0 = l[j] by simp [List.getD, hj]]
theorem num_wholeM {w : World} {v : Value} {k : Nat} {l : List Nat} (h : IsNum w v k l) (hk : k ≤ 3) : ∀ i ∈ l, tidy i ∧ whole i := fun i hi => ⟨h.tidy i hi, of_decide_eq_true (List.all_eq_true.1 (leastL_le3.1 (Nat.le_trans h.least hk)) i hi)⟩
/-- whole numbers: all of them can be done -/
def allE (f : Int) (l : List Int) : Bool := l.all (eM f)
theorem wM_all {f : Int} {l : List Int} (hG : ∀ x ∈ l, G x) (he : allE f l = true) : allG (l.map (wM f)) = true := by
  unfold allG
  rw [List.all_eq_true]
  intro z hz
  simp only [List.mem_map] at hz
  obtain ⟨x, hx, rfl⟩ := hz
  exact decide_eq_true (wM_G (hG x hx) (List.all_eq_true.1 he x hx))
theorem wM_nums {f : Int} (hf : 1 ≤ f ∧ f ≤ 8) (h4 : f ≠ 4) {l : List Int} (hG : ∀ x ∈ l, G x) (he : allE f l = true) : (VD.ints (l.map (wM f))).nums = resM f (l.map fi) := by
  rw [ints_numsM]
  unfold resM
  rw [List.map_map, List.map_map]
  apply List.map_congr_left
  intro x hx
  exact (valM_w hf h4 (hG x hx) (List.all_eq_true.1 he x hx)).symm
theorem eM_zero {f : Int} (hf : 1 ≤ f ∧ f ≤ 8) (h4 : f ≠ 4) {l : List Int} (hG : ∀ x ∈ l, G x) : errMF f (l.map fi) l.length = if allE f l then 0 else 24 := by
  have hg : ∀ j, j < l.length → (l.map fi).getD j 0 = fi (l.getD j 0) ∧ l.getD j 0 ∈ l := fun j hj => ⟨by simp [List.getD, hj], by rw [List.getD_eq_getElem?_getD, List.getElem?_eq_getElem hj]; exact List.getElem_mem hj⟩
  cases he : allE f l
  · have h : ∃ j, j < l.length ∧ eM f (l.getD j 0) = false := by
      unfold allE at he
      rw [List.all_eq_false] at he
      obtain ⟨x, hx, hn⟩ := he
      obtain ⟨j, hj, rfl⟩ := List.getElem_of_mem hx
      exact ⟨j, hj, by simpa [List.getD, hj] using hn⟩
    obtain ⟨j, hj, hn⟩ := h
    have all : ∀ k, errMF f (l.map fi) k = 0 ∨ errMF f (l.map fi) k = 24 ∨ l.length < k := fun k => by
      induction k with
      | zero => exact .inl rfl
      | succ k ih =>
        by_cases hk : k < l.length
        · unfold errMF
          split
          · rcases ih with h | h | h
            · exact .inl h
            · exact .inr (.inl h)
            · omega
          · rw [(hg k hk).1, errM_w hf h4 (hG _ (hg k hk).2)]
            split
            · exact .inl rfl
            · exact .inr (.inl rfl)
        · exact .inr (.inr (by omega))
    have ne : errMF f (l.map fi) (j + 1) ≠ 0 := by
      unfold errMF
      split
      · assumption
      · rw [(hg j hj).1, errM_w hf h4 (hG _ (hg j hj).2), hn]; decide
    have e := errMF_stay ne (show j + 1 ≤ l.length by omega)
    rcases all l.length with h | h | h
    · rw [e] at h; exact absurd h ne
    · rw [h]; rfl
    · omega
  · exact errMF_of fun j hj => by
      rw [(hg j hj).1, errM_w hf h4 (hG _ (hg j hj).2), List.all_eq_true.1 he _ (hg j hj).2]; rfl
theorem vints_sM (A : Option Addr) (l : List Int) (n : Nat) (hn : n = l.length) (hg : allG l = true) (c : Nat) (w : World) (hl : n ≤ 1048576) (hs : Sl w 1 A n (i64s l)) : Calls Tryd.prog 40 #[.slice A n c] w fun e w' => ∃ p, e = .returned (.tuple #[p, .bool true]) ∧ NumS w' p 3 (VD.ints l).nums (New w.heap.size) ∧ Ext w w' := by
  refine (vints_own A l n hn c w hl hs).mono ?_
  rintro e w' ⟨B, cb, rfl, ho, hx⟩
  rw [hg] at ho
  have ho' := ho rfl
  refine ⟨_, by rw [hg, if_pos rfl], ?_, hx⟩
  refine NumS.mk ⟨VD.ints l, isvec_ints hn hl (allG_true hg) (Sl.own ho'), rfl, by omega, by omega, rfl⟩ (In.one (A := B) (n := n) (c := cb) (fun a ha => by subst ha; exact (World.ownsRow.lt ho' a.block rfl).1) (.inr rfl) ⟨_, rfl⟩ (.inr rfl) (.inl rfl) (.inr rfl) (.inr rfl) (.inr rfl))
set_option maxHeartbeats 2000000
set_option maxRecDepth 100000
end Go.Proofs.YtidnikndjhfgaaaDoor
