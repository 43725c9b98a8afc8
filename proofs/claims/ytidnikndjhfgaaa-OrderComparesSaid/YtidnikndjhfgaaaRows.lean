/-
  NARROWER THAN 'FOR EVERY INPUT', by the rows' own cells (each row's printed sentence says how): OrderCells: loops · OrderSorted: loops · OrderTotal: loops · OrderCompares: loops.
  DERIVED. THE GIVEN ROWS OF THIS SEAT. 8 by the template 'for every input the law returns true; each argument reads behind the call as it read before'; 0 by the template 'total and deterministic' (their statements: YtidnikndjhfgaaaTotals.lean).
  GIVEN WITH THE SEED: the statements are not yours to turn. If you find one false, say at which input.
  Laid BY PROGRAM, IN A SANDBOX (cutbox-rows.mjs): the forced cells as the released guide's own fill.sh prints them over the translation 7d635c9aa0dcbd1d… (all of the seat's roots in one cut). By AI agents, Wed Nov 11 2026. No macro, syntax, notation, axiom, sorry.
-/
import Derived.Test.YtidnikndjhfgaaaChecked
import GoSem.Claim
import GoSem.ClaimJoined
import GoSem.ClaimMapViews
import Derived.JoinedTies
import Derived.KernelRfl
namespace Go.Proofs.Ytidnikndjhfgaaa
/- THE CELL 'sum', in the pinned program and in every row, IS THE sha256 OF THE DUMP (.gsa) THAT YtidnikndjhfgaaaProg.lean LOADS. Nothing in Lean hashes anything: it is a label: what it is worth is what the hold of that sum in a sandbox is worth. -/
noncomputable def Try.pinned : Pinned := { name := "ytidnikndjhfgaaa", sum := "7d635c9aa0dcbd1d2af239263c4ac2592efc9b550b9eee24a5abff165e0443d0", checked := Try.checked }
namespace Rows
def none {H : Type} : Left H := { results := [], args := [] }

/-- 'rebuslaw16.OrderInverts': WHATEVER THE INPUT: true; the input reads as it did. -/
def orderInvertsSpec : ChangeSpec := { name := "orderInverts", fn := fun _ => fun
  | [d] => { results := [.lit (.bool true)], args := [d] }
  | _ => none }
def orderInvertsRow : OpenClaim := { program := "ytidnikndjhfgaaa", sum := "7d635c9aa0dcbd1d2af239263c4ac2592efc9b550b9eee24a5abff165e0443d0", func := "rebus/rebuslaw16.OrderInverts", spec := "orderInverts", apart := false }
def OrderInvertsSaid : Prop := orderInvertsRow.holds Try.pinned (OpenSpec.ofChange orderInvertsSpec)

/-- ITS FALSE NEIGHBOUR: 'it returns false'. Refute it at one input. -/
def orderInvertsWrong : ChangeSpec := { name := "orderInverts", fn := fun _ => fun
  | [d] => { results := [.lit (.bool false)], args := [d] }
  | _ => none }
def OrderInvertsWrongFalsely : Prop := orderInvertsRow.holds Try.pinned (OpenSpec.ofChange orderInvertsWrong)

/-- 'rebuslaw16.OrderCells': WHATEVER THE INPUT: true; the input reads as it did. -/
def orderCellsSpec : ChangeSpec := { name := "orderCells", fn := fun _ => fun
  | [d1, d2, d3, d4, d5] => { results := [.lit (.bool true)], args := [d1, d2, d3, d4, d5] }
  | _ => none }
def orderCellsRow : OpenClaim := { program := "ytidnikndjhfgaaa", sum := "7d635c9aa0dcbd1d2af239263c4ac2592efc9b550b9eee24a5abff165e0443d0", func := "rebus/rebuslaw16.OrderCells", spec := "orderCells", recurses := true, loops := true, apart := false }
def OrderCellsSaid : Prop := orderCellsRow.holds Try.pinned (OpenSpec.ofChange orderCellsSpec)

/-- ITS FALSE NEIGHBOUR: 'it returns false'. Refute it at one input. -/
def orderCellsWrong : ChangeSpec := { name := "orderCells", fn := fun _ => fun
  | [d1, d2, d3, d4, d5] => { results := [.lit (.bool false)], args := [d1, d2, d3, d4, d5] }
  | _ => none }
def OrderCellsWrongFalsely : Prop := orderCellsRow.holds Try.pinned (OpenSpec.ofChange orderCellsWrong)

/-- 'rebuslaw16.OrderSorted': WHATEVER THE INPUT: true; the input reads as it did. -/
def orderSortedSpec : ChangeSpec := { name := "orderSorted", fn := fun _ => fun
  | [d1, d2, d3, d4] => { results := [.lit (.bool true)], args := [d1, d2, d3, d4] }
  | _ => none }
def orderSortedRow : OpenClaim := { program := "ytidnikndjhfgaaa", sum := "7d635c9aa0dcbd1d2af239263c4ac2592efc9b550b9eee24a5abff165e0443d0", func := "rebus/rebuslaw16.OrderSorted", spec := "orderSorted", recurses := true, loops := true, apart := false }
def OrderSortedSaid : Prop := orderSortedRow.holds Try.pinned (OpenSpec.ofChange orderSortedSpec)

/-- ITS FALSE NEIGHBOUR: 'it returns false'. Refute it at one input. -/
def orderSortedWrong : ChangeSpec := { name := "orderSorted", fn := fun _ => fun
  | [d1, d2, d3, d4] => { results := [.lit (.bool false)], args := [d1, d2, d3, d4] }
  | _ => none }
def OrderSortedWrongFalsely : Prop := orderSortedRow.holds Try.pinned (OpenSpec.ofChange orderSortedWrong)

/-- 'rebuslaw16.OrderTotal': WHATEVER THE INPUT: true; the input reads as it did. -/
def orderTotalSpec : ChangeSpec := { name := "orderTotal", fn := fun _ => fun
  | [d1, d2, d3, d4, d5] => { results := [.lit (.bool true)], args := [d1, d2, d3, d4, d5] }
  | _ => none }
def orderTotalRow : OpenClaim := { program := "ytidnikndjhfgaaa", sum := "7d635c9aa0dcbd1d2af239263c4ac2592efc9b550b9eee24a5abff165e0443d0", func := "rebus/rebuslaw16.OrderTotal", spec := "orderTotal", recurses := true, loops := true, apart := false }
def OrderTotalSaid : Prop := orderTotalRow.holds Try.pinned (OpenSpec.ofChange orderTotalSpec)

/-- ITS FALSE NEIGHBOUR: 'it returns false'. Refute it at one input. -/
def orderTotalWrong : ChangeSpec := { name := "orderTotal", fn := fun _ => fun
  | [d1, d2, d3, d4, d5] => { results := [.lit (.bool false)], args := [d1, d2, d3, d4, d5] }
  | _ => none }
def OrderTotalWrongFalsely : Prop := orderTotalRow.holds Try.pinned (OpenSpec.ofChange orderTotalWrong)

/-- 'rebuslaw16.OrderCompares': WHATEVER THE INPUT: true; the input reads as it did. -/
def orderComparesSpec : ChangeSpec := { name := "orderCompares", fn := fun _ => fun
  | [d1, d2, d3, d4] => { results := [.lit (.bool true)], args := [d1, d2, d3, d4] }
  | _ => none }
def orderComparesRow : OpenClaim := { program := "ytidnikndjhfgaaa", sum := "7d635c9aa0dcbd1d2af239263c4ac2592efc9b550b9eee24a5abff165e0443d0", func := "rebus/rebuslaw16.OrderCompares", spec := "orderCompares", recurses := true, loops := true, apart := false }
def OrderComparesSaid : Prop := orderComparesRow.holds Try.pinned (OpenSpec.ofChange orderComparesSpec)

/-- ITS FALSE NEIGHBOUR: 'it returns false'. Refute it at one input. -/
def orderComparesWrong : ChangeSpec := { name := "orderCompares", fn := fun _ => fun
  | [d1, d2, d3, d4] => { results := [.lit (.bool false)], args := [d1, d2, d3, d4] }
  | _ => none }
def OrderComparesWrongFalsely : Prop := orderComparesRow.holds Try.pinned (OpenSpec.ofChange orderComparesWrong)

/-- 'rebuslaw10.ArithOne': WHATEVER THE INPUT: true; the input reads as it did. -/
def arithOneSpec : ChangeSpec := { name := "arithOne", fn := fun _ => fun
  | [d1, d2, d3, d4, d5] => { results := [.lit (.bool true)], args := [d1, d2, d3, d4, d5] }
  | _ => none }
def arithOneRow : OpenClaim := { program := "ytidnikndjhfgaaa", sum := "7d635c9aa0dcbd1d2af239263c4ac2592efc9b550b9eee24a5abff165e0443d0", func := "rebus/rebuslaw10.ArithOne", spec := "arithOne", apart := false }
def ArithOneSaid : Prop := arithOneRow.holds Try.pinned (OpenSpec.ofChange arithOneSpec)

/-- ITS FALSE NEIGHBOUR: 'it returns false'. Refute it at one input. -/
def arithOneWrong : ChangeSpec := { name := "arithOne", fn := fun _ => fun
  | [d1, d2, d3, d4, d5] => { results := [.lit (.bool false)], args := [d1, d2, d3, d4, d5] }
  | _ => none }
def ArithOneWrongFalsely : Prop := arithOneRow.holds Try.pinned (OpenSpec.ofChange arithOneWrong)

/-- 'rebuslaw10.ArithApplies': WHATEVER THE INPUT: true; the input reads as it did. -/
def arithAppliesSpec : ChangeSpec := { name := "arithApplies", fn := fun _ => fun
  | [d1, d2, d3, d4, d5] => { results := [.lit (.bool true)], args := [d1, d2, d3, d4, d5] }
  | _ => none }
def arithAppliesRow : OpenClaim := { program := "ytidnikndjhfgaaa", sum := "7d635c9aa0dcbd1d2af239263c4ac2592efc9b550b9eee24a5abff165e0443d0", func := "rebus/rebuslaw10.ArithApplies", spec := "arithApplies", apart := false }
def ArithAppliesSaid : Prop := arithAppliesRow.holds Try.pinned (OpenSpec.ofChange arithAppliesSpec)

/-- ITS FALSE NEIGHBOUR: 'it returns false'. Refute it at one input. -/
def arithAppliesWrong : ChangeSpec := { name := "arithApplies", fn := fun _ => fun
  | [d1, d2, d3, d4, d5] => { results := [.lit (.bool false)], args := [d1, d2, d3, d4, d5] }
  | _ => none }
def ArithAppliesWrongFalsely : Prop := arithAppliesRow.holds Try.pinned (OpenSpec.ofChange arithAppliesWrong)

/-- 'rebuslaw10.ArithOthers': WHATEVER THE INPUT: true; the input reads as it did. -/
def arithOthersSpec : ChangeSpec := { name := "arithOthers", fn := fun _ => fun
  | [d1, d2, d3] => { results := [.lit (.bool true)], args := [d1, d2, d3] }
  | _ => none }
def arithOthersRow : OpenClaim := { program := "ytidnikndjhfgaaa", sum := "7d635c9aa0dcbd1d2af239263c4ac2592efc9b550b9eee24a5abff165e0443d0", func := "rebus/rebuslaw10.ArithOthers", spec := "arithOthers", apart := false }
def ArithOthersSaid : Prop := arithOthersRow.holds Try.pinned (OpenSpec.ofChange arithOthersSpec)

/-- ITS FALSE NEIGHBOUR: 'it returns false'. Refute it at one input. -/
def arithOthersWrong : ChangeSpec := { name := "arithOthers", fn := fun _ => fun
  | [d1, d2, d3] => { results := [.lit (.bool false)], args := [d1, d2, d3] }
  | _ => none }
def ArithOthersWrongFalsely : Prop := arithOthersRow.holds Try.pinned (OpenSpec.ofChange arithOthersWrong)

/- THE SECOND FORM. 'bulk': how many values and letters a reading holds, each counted each time it is reached (what is shared counts as often as it is met; a slice's spare places count too). A statement '..UptoSaid' is the law's where the arguments, and the package variables that the reading takes, are together of bulk at most 1048576: NARROWER than '..Said'. Prove '..Said' where nothing that the law and all that it calls make is longer than what came in: it says more and counts as full. Else prove '..UptoSaid'. A law counts once. -/
mutual
def uptoBulk {H : Type} : DataW H → Nat
  | .lit (.string bytes) => bytes.length + 1
  | .lit _ => 1
  | .nil => 1
  | .ptr d => uptoBulk d + 1
  | .slice elems spare => uptoBulkAll elems + uptoBulkAll spare + 1
  | .agg parts => uptoBulkAll parts + 1
  | .iface _ d => uptoBulk d + 1
  | .map entries => uptoBulkEntries entries + 1
  | .held _ => 1
def uptoBulkAll {H : Type} : List (DataW H) → Nat
  | [] => 0
  | d :: r => uptoBulk d + uptoBulkAll r
def uptoBulkEntries {H : Type} : List (Lit × DataW H) → Nat
  | [] => 0
  | x :: r => uptoBulkEntry x + uptoBulkEntries r
def uptoBulkEntry {H : Type} : Lit × DataW H → Nat
  | (.string bytes, d) => bytes.length + uptoBulk d + 1
  | (_, d) => uptoBulk d + 1
 end
def uptoSmall : (H : Type) → List (DataW H) → Bool := fun _ ds => decide (uptoBulkAll ds ≤ 1048576)
def OpenSpec.upto (s : _root_.Go.ChangeSpec) : _root_.Go.OpenSpec := { _root_.Go.OpenSpec.ofChange s with cond := some uptoSmall }

/-- 'rebuslaw16.OrderInverts', WHERE WHAT IT READS IS OF BULK AT MOST 1048576: true; the input reads as it did. -/
def orderInvertsUptoRow : OpenClaim := { program := "ytidnikndjhfgaaa", sum := "7d635c9aa0dcbd1d2af239263c4ac2592efc9b550b9eee24a5abff165e0443d0", func := "rebus/rebuslaw16.OrderInverts", spec := "orderInverts", apart := false, narrowed := true }
def OrderInvertsUptoSaid : Prop := orderInvertsUptoRow.holds Try.pinned (OpenSpec.upto orderInvertsSpec)

/-- 'rebuslaw16.OrderCells', WHERE WHAT IT READS IS OF BULK AT MOST 1048576: true; the input reads as it did. -/
def orderCellsUptoRow : OpenClaim := { program := "ytidnikndjhfgaaa", sum := "7d635c9aa0dcbd1d2af239263c4ac2592efc9b550b9eee24a5abff165e0443d0", func := "rebus/rebuslaw16.OrderCells", spec := "orderCells", recurses := true, loops := true, apart := false, narrowed := true }
def OrderCellsUptoSaid : Prop := orderCellsUptoRow.holds Try.pinned (OpenSpec.upto orderCellsSpec)

/-- 'rebuslaw16.OrderSorted', WHERE WHAT IT READS IS OF BULK AT MOST 1048576: true; the input reads as it did. -/
def orderSortedUptoRow : OpenClaim := { program := "ytidnikndjhfgaaa", sum := "7d635c9aa0dcbd1d2af239263c4ac2592efc9b550b9eee24a5abff165e0443d0", func := "rebus/rebuslaw16.OrderSorted", spec := "orderSorted", recurses := true, loops := true, apart := false, narrowed := true }
def OrderSortedUptoSaid : Prop := orderSortedUptoRow.holds Try.pinned (OpenSpec.upto orderSortedSpec)

/-- 'rebuslaw16.OrderTotal', WHERE WHAT IT READS IS OF BULK AT MOST 1048576: true; the input reads as it did. -/
def orderTotalUptoRow : OpenClaim := { program := "ytidnikndjhfgaaa", sum := "7d635c9aa0dcbd1d2af239263c4ac2592efc9b550b9eee24a5abff165e0443d0", func := "rebus/rebuslaw16.OrderTotal", spec := "orderTotal", recurses := true, loops := true, apart := false, narrowed := true }
def OrderTotalUptoSaid : Prop := orderTotalUptoRow.holds Try.pinned (OpenSpec.upto orderTotalSpec)

/-- 'rebuslaw16.OrderCompares', WHERE WHAT IT READS IS OF BULK AT MOST 1048576: true; the input reads as it did. -/
def orderComparesUptoRow : OpenClaim := { program := "ytidnikndjhfgaaa", sum := "7d635c9aa0dcbd1d2af239263c4ac2592efc9b550b9eee24a5abff165e0443d0", func := "rebus/rebuslaw16.OrderCompares", spec := "orderCompares", recurses := true, loops := true, apart := false, narrowed := true }
def OrderComparesUptoSaid : Prop := orderComparesUptoRow.holds Try.pinned (OpenSpec.upto orderComparesSpec)

/-- 'rebuslaw10.ArithOne', WHERE WHAT IT READS IS OF BULK AT MOST 1048576: true; the input reads as it did. -/
def arithOneUptoRow : OpenClaim := { program := "ytidnikndjhfgaaa", sum := "7d635c9aa0dcbd1d2af239263c4ac2592efc9b550b9eee24a5abff165e0443d0", func := "rebus/rebuslaw10.ArithOne", spec := "arithOne", apart := false, narrowed := true }
def ArithOneUptoSaid : Prop := arithOneUptoRow.holds Try.pinned (OpenSpec.upto arithOneSpec)

/-- 'rebuslaw10.ArithApplies', WHERE WHAT IT READS IS OF BULK AT MOST 1048576: true; the input reads as it did. -/
def arithAppliesUptoRow : OpenClaim := { program := "ytidnikndjhfgaaa", sum := "7d635c9aa0dcbd1d2af239263c4ac2592efc9b550b9eee24a5abff165e0443d0", func := "rebus/rebuslaw10.ArithApplies", spec := "arithApplies", apart := false, narrowed := true }
def ArithAppliesUptoSaid : Prop := arithAppliesUptoRow.holds Try.pinned (OpenSpec.upto arithAppliesSpec)

/-- 'rebuslaw10.ArithOthers', WHERE WHAT IT READS IS OF BULK AT MOST 1048576: true; the input reads as it did. -/
def arithOthersUptoRow : OpenClaim := { program := "ytidnikndjhfgaaa", sum := "7d635c9aa0dcbd1d2af239263c4ac2592efc9b550b9eee24a5abff165e0443d0", func := "rebus/rebuslaw10.ArithOthers", spec := "arithOthers", apart := false, narrowed := true }
def ArithOthersUptoSaid : Prop := arithOthersUptoRow.holds Try.pinned (OpenSpec.upto arithOthersSpec)

end Rows
end Go.Proofs.Ytidnikndjhfgaaa
