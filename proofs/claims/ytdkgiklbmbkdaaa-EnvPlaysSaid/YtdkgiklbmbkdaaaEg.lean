/- rebusref33.find, Names; rebusref01.Texts. -/
import Derived.Test.YtdkgiklbmbkdaaaEe
namespace Go.Proofs.Ytdkgiklbmbkdaaa
open Go.ChangeShapes Go.WideShapes Go.RowKit Go.Maps Bv Fl
set_option maxHeartbeats 2000000
set_option maxRecDepth 100000
/-- of the blocks that there are, those of S alone are read for the slice to show xs -/
def SlS (w : World) (s : Nat) (A : Option Addr) (n : Nat) (xs : List Value) (S : Nat → Prop) : Prop := ∀ w' : World, w.heap.size ≤ w'.heap.size → (∀ i, i < w.heap.size → S i → w'.heap[i]? = w.heap[i]?) → Sl w' s A n xs
section
variable {w w' : World} {s n g : Nat} {A : Option Addr} {xs : List Value} {S : Nat → Prop}
theorem SlS.all (h : Sl w s A n xs) : SlS w s A n xs (fun i => i < w.heap.size) := fun _ hs hk => h.reach hs hk fun _ _ hb => hb
theorem SlS.is (h : SlS w s A n xs S) : Sl w s A n xs := h w (Nat.le_refl _) fun _ _ _ => rfl
theorem SlS.ext (h : SlS w s A n xs S) (hx : Ext w w') : SlS w' s A n xs S := fun w2 hs hk => h w2 (Nat.le_trans hx.size hs) fun i hi hS => (hk i (Nat.lt_of_lt_of_le hi hx.size) hS).trans (hx.block i hi)
theorem SlS.grown (h : SlS w s A n xs S) (hg : w.grownBy w' (some g)) (hS : ¬ S g) : SlS w' s A n xs S := fun w2 hs hk => h w2 (Nat.le_trans hg.size hs) fun i hi hi' => by
  have e : i ≠ g := fun e => hS (e ▸ hi')
  rw [hk i (Nat.lt_of_lt_of_le hi hg.size) hi']
  exact hg.block i hi (by simpa using e)
end
def pre (f : Nat → Value) (k : Nat) : List Value := (List.range k).map f
theorem pre_step (f : Nat → Value) (k : Nat) : pre f k ++ [f k] = pre f (k + 1) := by simp [pre, List.range_succ]
/-- one element, laid for an append -/
theorem Sl.built (w : World) (us : Array Value) (t : TypeId) : Sl (w.alloc (.cells us t)) us.size (some ⟨w.heap.size, 0, none⟩) 1 us.toList := by
  refine ⟨by simp, fun _ => ⟨_, rfl, by simp, fun j u hu => ?_⟩⟩
  rw [show (Addr.add ⟨w.heap.size, 0, none⟩ j) = ⟨w.heap.size, j, none⟩ by unfold Addr.add; split <;> simp_all]
  rw [World.cell?_alloc_new]
  simpa using hu

set_option maxHeartbeats 1000000
def TidyPost (b : Bool) (l : List Nat) (n : Nat) (w : World) (e : Ending) (w' : World) : Prop :=
  ∃ v, e = .returned (.tuple #[v, .bool b]) ∧ (b = true → w'.ownsRow w.heap.size 75 1 v n (f64s (dnL l))) ∧ Ext w w'
theorem fm_length {α : Type} (con : α → List Value) (s : Nat) (hlen : ∀ x, (con x).length = s) (l : List α) : (l.flatMap con).length = l.length * s := by
  induction l with
  | nil => simp
  | cons a l ih => rw [List.flatMap_cons, List.length_append, ih, hlen, List.length_cons, Nat.add_mul, Nat.one_mul, Nat.add_comm]
theorem fm_get {α : Type} (con : α → List Value) (s : Nat) (hlen : ∀ x, (con x).length = s) : ∀ (l : List α) (i f : Nat) (hi : i < l.length), f < s → (l.flatMap con)[i * s + f]? = (con l[i])[f]?
  | [], i, _, hi, _ => by simp at hi
  | a :: l, 0, f, _, hf => by rw [List.flatMap_cons, Nat.zero_mul, Nat.zero_add, List.getElem?_append_left (by rw [hlen]; exact hf)]; rfl
  | a :: l, i + 1, f, hi, hf => by
    rw [List.flatMap_cons, List.getElem?_append_right (by rw [hlen, Nat.add_mul, Nat.one_mul]; omega), hlen, show (i + 1) * s + f - s = i * s + f by rw [Nat.add_mul, Nat.one_mul]; omega, fm_get con s hlen l i f (by simpa using hi) hf]
    rfl
theorem Lay.below {n : Nat} {w w' : World} {B b0 : Nat} {v : Value} (h : Lay n w B v) (hb : Below b0 w w') (hB : B < b0) : Lay n w' B v := by
  obtain ⟨cs, rfl, hn, hc⟩ := h
  exact ⟨cs, rfl, hn, fun j u hu => (Below.cell (p := ⟨B, 0 + j, none⟩) hb hB).trans (hc j u hu)⟩
theorem Room.below {n : Nat} {w w' : World} {B b0 : Nat} (h : Room n w B) (hb : Below b0 w w') (hB : B < b0) : Room n w' B := fun j hj => by
  obtain ⟨h1, h2⟩ := h j hj
  exact ⟨by rw [Below.cell (p := ⟨B, 0 + j, none⟩) hb hB]; exact h1, by rw [Below.frozen (p := ⟨B, 0 + j, none⟩) hb hB]; exact h2⟩
theorem cell_below {w w' : World} {p : Addr} {u : Value} {b0 : Nat} (hb : Below b0 w w') (h : w.cell? p = some u) (hp : p.block < b0) : w'.cell? p = some u := (Below.cell hb hp).trans h
/-- a row of one's own, in a block from base on, below top -/
def RowB (T : TypeId) (s : Nat) (w : World) (base top : Nat) (v : Value) (k : Nat) (xs : List Value) : Prop := w.ownsRow base T s v k xs ∧ ∀ g, v.ownBlock = some g → g < top
section
variable {T : TypeId} {s : Nat} {w w' : World} {base top : Nat} {v : Value} {k g : Nat} {xs : List Value}
theorem RowB.nil : RowB T s w base top (.slice none 0 0) 0 [] := ⟨⟨by simp, .inl ⟨rfl, rfl⟩⟩, fun g h => by cases h⟩
theorem RowB.ext (h : RowB T s w base top v k xs) (hx : Ext w w') : RowB T s w' base top v k xs := ⟨own_ext h.1 hx, h.2⟩
theorem RowB.grown (h : RowB T s w base top v k xs) (hg : w.grownBy w' (some g)) (hb : g < base ∨ top ≤ g) : RowB T s w' base top v k xs := by
  refine ⟨World.ownsRow.kept h.1 hg (.inr fun e => ?_), h.2⟩
  have := (World.ownsRow.lt h.1 g e).1
  have := h.2 g e
  omega
theorem RowB.sls {A : Option Addr} {n c b0 : Nat} (h : RowB T s w base top (.slice A n c) n xs) (hb : b0 ≤ base) : SlS w s A n xs (New b0) := fun w2 hs hk => (Sl.own h.1).reach hs hk fun a ha _ => by
  subst ha
  have := (World.ownsRow.lt h.1 a.block rfl).1
  exact Nat.le_trans hb this
theorem RowB.sl {A : Option Addr} {n c : Nat} (h : RowB T s w base top (.slice A n c) n xs) : Sl w s A n xs := Sl.own h.1
end
theorem infoPr : (Try.prog.info? 87).map (fun i => (i.zero, i.size, i.bytes)) = some (some (.agg #[.string ByteArray.empty, .int .i64 0]), 2, 24) := by kernel_rfl
theorem infoSt : (Try.prog.info? 9).map (fun i => (i.zero, i.size, i.bytes)) = some (some (.string ByteArray.empty), 1, 16) := by kernel_rfl
theorem app_Pr {ops : Array Oper} {rest : List Oper} {op : Oper} {a : Act} {w : World} {Q : Exit → Act → World → Prop} (hgd : op.guard = none) {sl x : Operand} (ho : op.op = .call { callee := .builtin .append, args := #[sl, x], argTypes := #[31, 31] })
    {base k : Nat} {v : Value} {xs : List Value} (hs : a.eval sl = v) {top : Nat} (hown : RowB 87 2 w base top v k xs) {A : Option Addr} {news : List Value} (hx : a.eval x = .slice A 1 1) (hr : Sl w 2 A 1 news) (h1 : ∀ u ∈ news, u.oneCell' = true)
    (hlim : k ≤ 1048576) (hbase : base ≤ w.heap.size) (h : ∀ v' w', RowB 87 2 w' base w'.heap.size v' (k + 1) (xs ++ news) → Below base w w' → wpList Try.prog ops Q rest (a.put op.dst v') w') : wpList Try.prog ops Q (op :: rest) a w := by
  obtain ⟨i, hi, h2⟩ := Option.map_eq_some_iff.1 infoPr
  simp only [Prod.mk.injEq] at h2
  exact wpList_append_sl w hgd sl x 31 ho base 87 i (.agg #[.string ByteArray.empty, .int .i64 0]) 2 24 Try.underlying31 hi h2.1 h2.2.1 h2.2.2 rfl (by omega) v k xs hs hown.1 A 1 1 news hx hr h1 (by omega) (.inr (by omega)) hbase fun v' w' ho hb => h v' w' ⟨ho, fun g e => (World.ownsRow.lt ho g e).2⟩ hb
theorem app_st {ops : Array Oper} {rest : List Oper} {op : Oper} {a : Act} {w : World} {Q : Exit → Act → World → Prop} (hgd : op.guard = none) {sl x : Operand} (ho : op.op = .call { callee := .builtin .append, args := #[sl, x], argTypes := #[23, 23] })
    {base k : Nat} {v : Value} {xs : List Value} (hs : a.eval sl = v) {top : Nat} (hown : RowB 9 1 w base top v k xs) {A : Option Addr} {news : List Value} (hx : a.eval x = .slice A 1 1) (hr : Sl w 1 A 1 news) (h1 : ∀ u ∈ news, u.oneCell' = true)
    (hlim : k ≤ 1048576) (hbase : base ≤ w.heap.size) (h : ∀ v' w', RowB 9 1 w' base w'.heap.size v' (k + 1) (xs ++ news) → Below base w w' → wpList Try.prog ops Q rest (a.put op.dst v') w') : wpList Try.prog ops Q (op :: rest) a w := by
  obtain ⟨i, hi, h2⟩ := Option.map_eq_some_iff.1 infoSt
  simp only [Prod.mk.injEq] at h2
  exact wpList_append_sl w hgd sl x 23 ho base 9 i (.string ByteArray.empty) 1 16 Try.underlying23 hi h2.1 h2.2.1 h2.2.2 rfl (by omega) v k xs hs hown.1 A 1 1 news hx hr h1 (by omega) (.inr (by omega)) hbase fun v' w' ho hb => h v' w' ⟨ho, fun g e => (World.ownsRow.lt ho g e).2⟩ hb
/-- a name and a number -/
structure Pr where
  nm : ByteArray
  n : Int
instance : Inhabited Pr := ⟨⟨ByteArray.empty, 0⟩⟩
def Pr.cells (p : Pr) : List Value := [.string p.nm, .int .i64 p.n]
def prc (l : List Pr) : List Value := l.flatMap Pr.cells
theorem addr_addE (a : Addr) (i j : Nat) : (a.add i).add j = a.add (i + j) := by
  unfold Addr.add
  by_cases hi : i = 0 <;> by_cases hj : j = 0 <;> simp [hi, hj, Nat.add_assoc]

theorem sl_at {α : Type} [Inhabited α] (con : α → List Value) {s : Nat} (hs : 0 < s) (hlen : ∀ x, (con x).length = s) {w : World} {A : Option Addr} {n : Nat} {l : List α} (hn : n = l.length) (h : Sl w s A n (l.flatMap con)) {k : Nat} (hk : k < n) :
    ∃ a, A = some a ∧ a.block < w.heap.size ∧ ∀ f u, (con (l.getD k default))[f]? = some u → w.cell? ((a.add (k * s)).add f) = some u := by
  obtain ⟨a, e, hb, hc⟩ := h.2 (Nat.mul_pos (by omega) hs)
  refine ⟨a, e, hb, fun f u hu => ?_⟩
  rw [addr_addE]
  refine hc _ _ ?_
  have hf : f < s := by
    have := (List.getElem?_eq_some_iff.1 hu).1
    rwa [hlen] at this
  rw [fm_get con s hlen l k f (by omega) hf]
  rwa [show l.getD k default = l[k]'(by omega) by simp [List.getD, show k < l.length by omega]] at hu
theorem pr_at {w : World} {A : Option Addr} {n k : Nat} {l : List Pr} (h : Sl w 2 A n (prc l)) (hn : n = l.length) (hk : k < n) : ∃ a, A = some a ∧ w.cell? (a.add (k * 2)) = some (.string (l.getD k default).nm) ∧ w.cell? ⟨(a.add (k * 2)).block, (a.add (k * 2)).off + 1, none⟩ = some (.int .i64 (l.getD k default).n) := by
  obtain ⟨a, e, _, hc⟩ := sl_at Pr.cells (by omega) (fun _ => rfl) hn h hk
  exact ⟨a, e, hc 0 _ rfl, hc 1 _ rfl⟩
theorem bytes_ne {t s : ByteArray} (h : t ≠ s) : (t.toList == s.toList) = false := by
  rw [beq_eq_false_iff_ne]
  intro e
  rw [ByteArray.toList_eq, ByteArray.toList_eq] at e
  exact h (by cases t; cases s; congr; exact Array.toList_inj.1 e)
def Fnd (l : List Pr) (n : Nat) (s : ByteArray) (i : Int) : Prop := (i = -1 ∧ ∀ j, j < n → (l.getD j default).nm ≠ s) ∨ ∃ k : Nat, k < n ∧ i = k ∧ (l.getD k default).nm = s
theorem find_any (A : Option Addr) (n c : Nat) (l : List Pr) (s : ByteArray) (w : World) (hn : Hid (n = l.length)) (hn2 : n ≤ 1048576) (HS : Hid (Sl w 2 A n (prc l))) : Calls Try.prog 17 #[.slice A n c, .string s] w fun e w' => ∃ i, e = .returned (.int .i64 i) ∧ Fnd l n s i ∧ Ext w w' := by
  have E := Ext.refl w
  go_enter Try.func17, Try.ntmps17
  go_wp2_with fail
  go_loopw [5] (fun i wr => ∃ k : Nat, k ≤ n ∧ i = .int .i64 k ∧ Hid (∀ j, j < k → (l.getD j default).nm ≠ s) ∧ Ext w wr) (fun i _ => n - (intOf i).toNat)
  case atStart => exact ⟨0, Nat.zero_le _, rfl, fun j hj => absurd hj (by omega), E⟩
  case round =>
    obtain ⟨k, hk, rfl, hA, E'⟩ := hrel
    clear E
    have E := E'
    clear E'
    have z1 := E.size
    have hcs : (k < n ∧ (l.getD k default).nm = s) ∨ (k < n ∧ (l.getD k default).nm ≠ s) ∨ ¬ k < n := (Classical.em (k < n)).elim (fun h => (Classical.em ((l.getD k default).nm = s)).elim (fun h2 => .inl ⟨h, h2⟩) (fun h2 => .inr (.inl ⟨h, h2⟩))) (fun h => .inr (.inr h))
    rcases hcs with ⟨hlt, hq⟩ | ⟨hlt, hq⟩ | hlt
    · have HF : Fnd l n s (k : Int) := .inr ⟨k, hlt, rfl, hq⟩
      obtain ⟨a, ea, D0, D1⟩ := pr_at (HS.out.ext E) hn.out hlt
      subst ea
      have hab := World.block_lt_of_cell? _ _ D0
      clear HS D1
      rw [hq] at D0
      clear hq hn hA
      go_wp2_with fail
      go_ret
      exact ⟨_, rfl, HF, E⟩
    · have hA2 : Hid (∀ j, j < k + 1 → (l.getD j default).nm ≠ s) := fun j hj => (Nat.lt_succ_iff_lt_or_eq.1 hj).elim (hA.out j) (fun e => e ▸ hq)
      obtain ⟨a, ea, D0, D1⟩ := pr_at (HS.out.ext E) hn.out hlt
      subst ea
      have hab := World.block_lt_of_cell? _ _ D0
      clear HS D1
      have hq2 := bytes_ne hq
      clear hq hn hA
      generalize (l.getD k default).nm = t at D0 hq2
      go_wp2_with fail
      exact ⟨⟨k + 1, by omega, by go_num, hA2, E⟩, by simp [intOf]; omega⟩
    · have HF : Fnd l n s (-1) := .inl ⟨rfl, fun j hj => hA.out j (by omega)⟩
      clear hA
      go_wp2_with fail
      go_ret
      exact ⟨_, rfl, HF, E⟩
theorem names_any (A : Option Addr) (n c : Nat) (l : List Pr) (w : World) (hn : Hid (n = l.length)) (hn2 : n ≤ 1048576) (HS : Hid (Sl w 2 A n (prc l))) : Calls Try.prog 24 #[.slice A n c] w fun e w' => ∃ B b, e = .returned (.slice B n b) ∧ SlS w' 1 B n (pre (fun k => .string (l.getD k default).nm) n) (New w.heap.size) ∧ Ext w w' := by
  obtain ⟨FV, hFV⟩ : ∃ FV : Nat → Value, (fun k => .string (l.getD k default).nm) = FV := ⟨_, rfl⟩
  rw [hFV]
  have HFV : Hid (∀ k, FV k = .string (l.getD k default).nm) := fun k => by rw [← hFV]
  clear hFV
  have E := Ext.refl w
  go_enter Try.func24, Try.ntmps24
  go_wp2_with fail
  obtain ⟨BS, hBS1, hBS2⟩ : ∃ BS, BS ≤ w.heap.size ∧ w.heap.size ≤ BS := ⟨_, Nat.le_refl _, Nat.le_refl _⟩
  go_loopw [3, 4] (fun o i wr => ∃ (k TP : Nat) (oA : Option Addr) (oc : Nat), k ≤ n ∧ o = .slice oA k oc ∧ i = .int .i64 k ∧ Ext w wr ∧ w.heap.size ≤ wr.heap.size ∧ RowB 9 1 wr BS TP (.slice oA k oc) k (pre FV k) ∧ TP ≤ wr.heap.size) (fun _ i _ => n - (intOf i).toNat)
  case atStart => exact ⟨0, 0, none, 0, Nat.zero_le _, rfl, rfl, E, Nat.le_refl _, RowB.nil, Nat.zero_le _⟩
  case round =>
    obtain ⟨k, TP, oA, oc, hk, rfl, rfl, E', zW, HO, hTP⟩ := hrel
    clear E
    have E := E'
    clear E'
    have z1 := E.size
    by_cases hlt : k < n
    · obtain ⟨a, ea, D0, D1⟩ := pr_at (HS.out.ext E) hn.out hlt
      subst ea
      have hab := World.block_lt_of_cell? _ _ D0
      clear HS D1
      have HFk := HFV.out k
      generalize (l.getD k default).nm = t at D0 HFk
      have HPS : Hid (pre FV k ++ [.string t] = pre FV (k + 1)) := by show _ = _; rw [← HFk]; exact pre_step FV k
      clear HFk hn
      have TA18 : True := trivial
      go_wp2_with (clear TA18; refine app_st rfl rfl (base := BS) (k := k) rfl (HO.ext ((Ext.refl _).alloc _)) rfl (Sl.built _ #[_] _) (by intro u hu; simp at hu; subst hu; rfl) (by omega) (by simp; omega) ?_; clear HO; intro v18 w18 HO H18; obtain ⟨A18, c18, e18, -, -⟩ := own_form HO.1; subst e18; have z2 : wr.heap.size ≤ w18.heap.size := Nat.le_trans ((Ext.refl wr).alloc _).size H18.size; replace E := (E.alloc _).trans' (H18.mono (by omega)); clear H18)
      exact ⟨⟨k + 1, _, _, _, by omega, rfl, by go_num, E, by omega, by rw [← HPS.out]; exact HO, by omega⟩, by simp [intOf]; omega⟩
    · have hkm : k = n := by omega
      rw [hkm] at HO ⊢
      go_wp2_with fail
      go_ret
      exact ⟨oA, oc, rfl, HO.sls (by omega), E⟩
end Go.Proofs.Ytdkgiklbmbkdaaa
