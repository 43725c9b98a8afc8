/- A slice of slices, opened; what stays where one block alone is written. -/
import Derived.Test.YtmjikdkdccnbaaaOs
import Derived.Test.YtmjikdkdccnbaaaB
namespace Go.Proofs.Ytmjikdkdccnbaaa
open Go.ChangeShapes Go.WideShapes Go.RowKit Go.Deep

section
variable {H : Type} {enc : TypeId × Value → H} {P : Program} {w : World}
theorem el_slice {α : Type} [Inhabited α] (con : α → Value) (R : α → Prop) {e q : TypeId} (he : P.underlying e = some (.slice q)) (hc : P.cellsOf q = 1)
    (hcon : ∀ n v y, DataW.trod enc P w 0 (fun _ => true) true n q [v] = some y → ∃ x, v = con x ∧ R x)
    (n : Nat) (v : Value) (y : DataW H × List MemPlace) (h : DataW.trod enc P w 0 (fun _ => true) true n e [v] = some y) :
    ∃ x : Option Addr × List α × Nat, v = .slice x.1 x.2.1.length x.2.2 ∧ (x.2.1.length ≤ x.2.2 ∧ x.2.2 ≤ maxLen ∧ Sl w 1 x.1 x.2.1.length (x.2.1.map con)) := by
  obtain ⟨A, l, c, h1, h2, h3, h4, _⟩ := slice_cs con R he hc hcon h
  exact ⟨(A, l, c), by simpa using h1, h2, h3, h4⟩
end
/-- a slice elsewhere reads as it did -/
theorem Sl.grown {w w' : World} {s n g : Nat} {A : Option Addr} {xs : List Value} (h : Sl w s A n xs) (he : w.grownBy w' (some g)) (hg : ∀ a, A = some a → a.block ≠ g) : Sl w' s A n xs :=
  ⟨h.1, fun hn => by
    obtain ⟨a, e, hb, hc⟩ := h.2 hn
    exact ⟨a, e, Nat.lt_of_lt_of_le hb he.size, fun j u hu => (grown_cell he (by rw [addr_block]; exact hb) (by rw [addr_block]; exact hg a e)).trans (hc j u hu)⟩⟩
end Go.Proofs.Ytmjikdkdccnbaaa
