/-
  No cell of these rows narrows 'for every input' (looked for: loops, veiled, ifaces, maps, wideKeys, modest, calm, conditions, laid).
  DERIVED. THE GIVEN ROWS OF THIS SEAT. 5 by the template 'for every input the law returns true; each argument reads behind the call as it read before'; 0 by the template 'total and deterministic' (their statements: YtmjikdkdccnbaaaTotals.lean).
  GIVEN WITH THE SEED: the statements are not yours to turn. If you find one false, say at which input.
  Laid BY PROGRAM, IN A SANDBOX (cutbox-rows.mjs): the forced cells as the released guide's own fill.sh prints them over the translation a3b12bc0960fc38b… (all of the seat's roots in one cut). By AI agents, Wed Nov 11 2026. No macro, syntax, notation, axiom, sorry.
-/
import Derived.Test.YtmjikdkdccnbaaaChecked
import GoSem.Claim
import GoSem.ClaimJoined
import GoSem.ClaimMapViews
import Derived.JoinedTies
import Derived.KernelRfl
namespace Go.Proofs.Ytmjikdkdccnbaaa
/- THE CELL 'sum', in the pinned program and in every row, IS THE sha256 OF THE DUMP (.gsa) THAT YtmjikdkdccnbaaaProg.lean LOADS. Nothing in Lean hashes anything: it is a label: what it is worth is what the hold of that sum in a sandbox is worth. -/
noncomputable def Try.pinned : Pinned := { name := "ytmjikdkdccnbaaa", sum := "a3b12bc0960fc38b4920b781f0a45eb4f8f730d01378e63900506a938e1af890", checked := Try.checked }
namespace Rows
def none {H : Type} : Left H := { results := [], args := [] }

/-- 'rebuslaw04.VecBoxes': WHATEVER THE INPUT: true; the input reads as it did. -/
def vecBoxesSpec : ChangeSpec := { name := "vecBoxes", fn := fun _ => fun
  | [d1, d2] => { results := [.lit (.bool true)], args := [d1, d2] }
  | _ => none }
def vecBoxesRow : OpenClaim := { program := "ytmjikdkdccnbaaa", sum := "a3b12bc0960fc38b4920b781f0a45eb4f8f730d01378e63900506a938e1af890", func := "rebus/rebuslaw04.VecBoxes", spec := "vecBoxes", apart := false }
def VecBoxesSaid : Prop := vecBoxesRow.holds Try.pinned (OpenSpec.ofChange vecBoxesSpec)

/-- ITS FALSE NEIGHBOUR: 'it returns false'. Refute it at one input. -/
def vecBoxesWrong : ChangeSpec := { name := "vecBoxes", fn := fun _ => fun
  | [d1, d2] => { results := [.lit (.bool false)], args := [d1, d2] }
  | _ => none }
def VecBoxesWrongFalsely : Prop := vecBoxesRow.holds Try.pinned (OpenSpec.ofChange vecBoxesWrong)

/-- 'rebuslaw04.VecApart': WHATEVER THE INPUT: true; the input reads as it did. -/
def vecApartSpec : ChangeSpec := { name := "vecApart", fn := fun _ => fun
  | [d1, d2, d3] => { results := [.lit (.bool true)], args := [d1, d2, d3] }
  | _ => none }
def vecApartRow : OpenClaim := { program := "ytmjikdkdccnbaaa", sum := "a3b12bc0960fc38b4920b781f0a45eb4f8f730d01378e63900506a938e1af890", func := "rebus/rebuslaw04.VecApart", spec := "vecApart", apart := false }
def VecApartSaid : Prop := vecApartRow.holds Try.pinned (OpenSpec.ofChange vecApartSpec)

/-- ITS FALSE NEIGHBOUR: 'it returns false'. Refute it at one input. -/
def vecApartWrong : ChangeSpec := { name := "vecApart", fn := fun _ => fun
  | [d1, d2, d3] => { results := [.lit (.bool false)], args := [d1, d2, d3] }
  | _ => none }
def VecApartWrongFalsely : Prop := vecApartRow.holds Try.pinned (OpenSpec.ofChange vecApartWrong)

/-- 'rebuslaw04.VecChars': WHATEVER THE INPUT: true; the input reads as it did. -/
def vecCharsSpec : ChangeSpec := { name := "vecChars", fn := fun _ => fun
  | [d1, d2, d3] => { results := [.lit (.bool true)], args := [d1, d2, d3] }
  | _ => none }
def vecCharsRow : OpenClaim := { program := "ytmjikdkdccnbaaa", sum := "a3b12bc0960fc38b4920b781f0a45eb4f8f730d01378e63900506a938e1af890", func := "rebus/rebuslaw04.VecChars", spec := "vecChars", apart := false }
def VecCharsSaid : Prop := vecCharsRow.holds Try.pinned (OpenSpec.ofChange vecCharsSpec)

/-- ITS FALSE NEIGHBOUR: 'it returns false'. Refute it at one input. -/
def vecCharsWrong : ChangeSpec := { name := "vecChars", fn := fun _ => fun
  | [d1, d2, d3] => { results := [.lit (.bool false)], args := [d1, d2, d3] }
  | _ => none }
def VecCharsWrongFalsely : Prop := vecCharsRow.holds Try.pinned (OpenSpec.ofChange vecCharsWrong)

/-- 'rebuslaw04.VecNumbers': WHATEVER THE INPUT: true; the input reads as it did. -/
def vecNumbersSpec : ChangeSpec := { name := "vecNumbers", fn := fun _ => fun
  | [d1, d2] => { results := [.lit (.bool true)], args := [d1, d2] }
  | _ => none }
def vecNumbersRow : OpenClaim := { program := "ytmjikdkdccnbaaa", sum := "a3b12bc0960fc38b4920b781f0a45eb4f8f730d01378e63900506a938e1af890", func := "rebus/rebuslaw04.VecNumbers", spec := "vecNumbers", apart := false }
def VecNumbersSaid : Prop := vecNumbersRow.holds Try.pinned (OpenSpec.ofChange vecNumbersSpec)

/-- ITS FALSE NEIGHBOUR: 'it returns false'. Refute it at one input. -/
def vecNumbersWrong : ChangeSpec := { name := "vecNumbers", fn := fun _ => fun
  | [d1, d2] => { results := [.lit (.bool false)], args := [d1, d2] }
  | _ => none }
def VecNumbersWrongFalsely : Prop := vecNumbersRow.holds Try.pinned (OpenSpec.ofChange vecNumbersWrong)

/-- 'rebuslaw04.VecBits': WHATEVER THE INPUT: true; the input reads as it did. -/
def vecBitsSpec : ChangeSpec := { name := "vecBits", fn := fun _ => fun
  | [d1, d2] => { results := [.lit (.bool true)], args := [d1, d2] }
  | _ => none }
def vecBitsRow : OpenClaim := { program := "ytmjikdkdccnbaaa", sum := "a3b12bc0960fc38b4920b781f0a45eb4f8f730d01378e63900506a938e1af890", func := "rebus/rebuslaw04.VecBits", spec := "vecBits", apart := false }
def VecBitsSaid : Prop := vecBitsRow.holds Try.pinned (OpenSpec.ofChange vecBitsSpec)

/-- ITS FALSE NEIGHBOUR: 'it returns false'. Refute it at one input. -/
def vecBitsWrong : ChangeSpec := { name := "vecBits", fn := fun _ => fun
  | [d1, d2] => { results := [.lit (.bool false)], args := [d1, d2] }
  | _ => none }
def VecBitsWrongFalsely : Prop := vecBitsRow.holds Try.pinned (OpenSpec.ofChange vecBitsWrong)

/- THE SECOND FORM. 'bulk': how many values and letters a reading holds, each counted each time it is reached (what is shared counts as often as it is met; a slice's spare places count too). A statement '..UptoSaid' is the law's where the arguments, and the package variables that the reading takes, are together of bulk at most 1048576: NARROWER than '..Said'. Prove '..Said' where nothing that the law and all that it calls make is longer than what came in: it says more and counts as full. Else prove '..UptoSaid'. A law counts once. -/
mutual
def uptoBulk {H : Type} : DataW H → Nat
  | .lit (.string bytes) => bytes.length + 1
  | .lit _ => 1
  | .nil => 1
  | .ptr d => uptoBulk d + 1
  | .slice elems spare => uptoBulkAll elems + uptoBulkAll spare + 1
  | .agg parts => uptoBulkAll parts + 1
  | .iface _ d => uptoBulk d + 1
  | .map entries => uptoBulkEntries entries + 1
  | .held _ => 1
def uptoBulkAll {H : Type} : List (DataW H) → Nat
  | [] => 0
  | d :: r => uptoBulk d + uptoBulkAll r
def uptoBulkEntries {H : Type} : List (Lit × DataW H) → Nat
  | [] => 0
  | x :: r => uptoBulkEntry x + uptoBulkEntries r
def uptoBulkEntry {H : Type} : Lit × DataW H → Nat
  | (.string bytes, d) => bytes.length + uptoBulk d + 1
  | (_, d) => uptoBulk d + 1
 end
def uptoSmall : (H : Type) → List (DataW H) → Bool := fun _ ds => decide (uptoBulkAll ds ≤ 1048576)
def OpenSpec.upto (s : _root_.Go.ChangeSpec) : _root_.Go.OpenSpec := { _root_.Go.OpenSpec.ofChange s with cond := some uptoSmall }

/-- 'rebuslaw04.VecBoxes', WHERE WHAT IT READS IS OF BULK AT MOST 1048576: true; the input reads as it did. -/
def vecBoxesUptoRow : OpenClaim := { program := "ytmjikdkdccnbaaa", sum := "a3b12bc0960fc38b4920b781f0a45eb4f8f730d01378e63900506a938e1af890", func := "rebus/rebuslaw04.VecBoxes", spec := "vecBoxes", apart := false, narrowed := true }
def VecBoxesUptoSaid : Prop := vecBoxesUptoRow.holds Try.pinned (OpenSpec.upto vecBoxesSpec)

/-- 'rebuslaw04.VecApart', WHERE WHAT IT READS IS OF BULK AT MOST 1048576: true; the input reads as it did. -/
def vecApartUptoRow : OpenClaim := { program := "ytmjikdkdccnbaaa", sum := "a3b12bc0960fc38b4920b781f0a45eb4f8f730d01378e63900506a938e1af890", func := "rebus/rebuslaw04.VecApart", spec := "vecApart", apart := false, narrowed := true }
def VecApartUptoSaid : Prop := vecApartUptoRow.holds Try.pinned (OpenSpec.upto vecApartSpec)

/-- 'rebuslaw04.VecChars', WHERE WHAT IT READS IS OF BULK AT MOST 1048576: true; the input reads as it did. -/
def vecCharsUptoRow : OpenClaim := { program := "ytmjikdkdccnbaaa", sum := "a3b12bc0960fc38b4920b781f0a45eb4f8f730d01378e63900506a938e1af890", func := "rebus/rebuslaw04.VecChars", spec := "vecChars", apart := false, narrowed := true }
def VecCharsUptoSaid : Prop := vecCharsUptoRow.holds Try.pinned (OpenSpec.upto vecCharsSpec)

/-- 'rebuslaw04.VecNumbers', WHERE WHAT IT READS IS OF BULK AT MOST 1048576: true; the input reads as it did. -/
def vecNumbersUptoRow : OpenClaim := { program := "ytmjikdkdccnbaaa", sum := "a3b12bc0960fc38b4920b781f0a45eb4f8f730d01378e63900506a938e1af890", func := "rebus/rebuslaw04.VecNumbers", spec := "vecNumbers", apart := false, narrowed := true }
def VecNumbersUptoSaid : Prop := vecNumbersUptoRow.holds Try.pinned (OpenSpec.upto vecNumbersSpec)

/-- 'rebuslaw04.VecBits', WHERE WHAT IT READS IS OF BULK AT MOST 1048576: true; the input reads as it did. -/
def vecBitsUptoRow : OpenClaim := { program := "ytmjikdkdccnbaaa", sum := "a3b12bc0960fc38b4920b781f0a45eb4f8f730d01378e63900506a938e1af890", func := "rebus/rebuslaw04.VecBits", spec := "vecBits", apart := false, narrowed := true }
def VecBitsUptoSaid : Prop := vecBitsUptoRow.holds Try.pinned (OpenSpec.upto vecBitsSpec)

end Rows
end Go.Proofs.Ytmjikdkdccnbaaa
