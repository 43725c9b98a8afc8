/-
  NARROWER THAN 'FOR EVERY INPUT', by the rows' own cells (each row's printed sentence says how): BitvecPacks: laid · BitvecScans: laid · BitvecCounts: laid · BitvecCuts: laid · BitvecSums: laid · BitvecTruth: laid.
  DERIVED. THE GIVEN ROWS OF THIS SEAT. 6 by the template 'for every input the law returns true; each argument reads behind the call as it read before'; 0 by the template 'total and deterministic' (their statements: YtmjikdkdccnbaaaDoorTotals.lean).
  GIVEN WITH THE SEED: the statements are not yours to turn. If you find one false, say at which input.
  Laid BY PROGRAM, IN A SANDBOX (cutbox-rows.mjs): the forced cells as the released guide's own fill.sh prints them over the translation b041d2d884248594… (all of the seat's roots in one cut). By AI agents, Wed Nov 11 2026. No macro, syntax, notation, axiom, sorry.
-/
import Derived.Test.YtmjikdkdccnbaaaDoorChecked
import GoSem.Claim
import GoSem.ClaimJoined
import GoSem.ClaimMapViews
import Derived.JoinedTies
import Derived.KernelRfl
namespace Go.Proofs.YtmjikdkdccnbaaaDoor
/- THE CELL 'sum', in the pinned program and in every row, IS THE sha256 OF THE DUMP (.gsa) THAT YtmjikdkdccnbaaaDoorProg.lean LOADS. Nothing in Lean hashes anything: it is a label: what it is worth is what the hold of that sum in a sandbox is worth. -/
noncomputable def Tryd.pinned : Pinned := { name := "ytmjikdkdccnbaaadoor", sum := "b041d2d884248594c974a6ed48c2e0aa36b237265dab502e9eee0eb1fc12d389", checked := Tryd.checked }
namespace Rows
def none {H : Type} : Left H := { results := [], args := [] }

/- WHAT THE LISTED PACKAGE-LEVEL VARIABLES READ AS WHEN THE CALL BEGINS. Each datum BY PROGRAM (the guide's laid-datum.mjs) off the statement by which the dump's own 'gosem.cut.vars' lays the variable. In a bare row this is a premise. The card (YtmjikdkdccnbaaaDoorCards.lean) ties it to the program's text. -/
def laid_math_bits_deBruijn64tab {H : Type} : DataW H := .agg [.lit (.int .u8 0), .lit (.int .u8 1), .lit (.int .u8 56), .lit (.int .u8 2), .lit (.int .u8 57), .lit (.int .u8 49), .lit (.int .u8 28), .lit (.int .u8 3), .lit (.int .u8 61), .lit (.int .u8 58), .lit (.int .u8 42), .lit (.int .u8 50), .lit (.int .u8 38), .lit (.int .u8 29), .lit (.int .u8 17), .lit (.int .u8 4), .lit (.int .u8 62), .lit (.int .u8 47), .lit (.int .u8 59), .lit (.int .u8 36), .lit (.int .u8 45), .lit (.int .u8 43), .lit (.int .u8 51), .lit (.int .u8 22), .lit (.int .u8 53), .lit (.int .u8 39), .lit (.int .u8 33), .lit (.int .u8 30), .lit (.int .u8 24), .lit (.int .u8 18), .lit (.int .u8 12), .lit (.int .u8 5), .lit (.int .u8 63), .lit (.int .u8 55), .lit (.int .u8 48), .lit (.int .u8 27), .lit (.int .u8 60), .lit (.int .u8 41), .lit (.int .u8 37), .lit (.int .u8 16), .lit (.int .u8 46), .lit (.int .u8 35), .lit (.int .u8 44), .lit (.int .u8 21), .lit (.int .u8 52), .lit (.int .u8 32), .lit (.int .u8 23), .lit (.int .u8 11), .lit (.int .u8 54), .lit (.int .u8 26), .lit (.int .u8 40), .lit (.int .u8 15), .lit (.int .u8 34), .lit (.int .u8 20), .lit (.int .u8 31), .lit (.int .u8 10), .lit (.int .u8 25), .lit (.int .u8 14), .lit (.int .u8 19), .lit (.int .u8 9), .lit (.int .u8 13), .lit (.int .u8 8), .lit (.int .u8 7), .lit (.int .u8 6)]

/-- 'rebuslaw02.BitvecPacks': WHATEVER THE INPUT: true; the input reads as it did. -/
def bitvecPacksSpec : ChangeSpec := { name := "bitvecPacks", fn := fun _ => fun
  | [d1, d2, d3, d4] => { results := [.lit (.bool true)], args := [d1, d2, d3, d4] }
  | _ => none }
def bitvecPacksRow : OpenClaim := { program := "ytmjikdkdccnbaaadoor", sum := "b041d2d884248594c974a6ed48c2e0aa36b237265dab502e9eee0eb1fc12d389", func := "rebus/rebuslaw02.BitvecPacks", spec := "bitvecPacks", named := ["math/bits.deBruijn64tab"], apart := false, laid := [("math/bits.deBruijn64tab", laid_math_bits_deBruijn64tab)] }
def BitvecPacksSaid : Prop := bitvecPacksRow.holds Tryd.pinned (OpenSpec.ofChange bitvecPacksSpec)

/-- ITS FALSE NEIGHBOUR: 'it returns false'. Refute it at one input. -/
def bitvecPacksWrong : ChangeSpec := { name := "bitvecPacks", fn := fun _ => fun
  | [d1, d2, d3, d4] => { results := [.lit (.bool false)], args := [d1, d2, d3, d4] }
  | _ => none }
def BitvecPacksWrongFalsely : Prop := bitvecPacksRow.holds Tryd.pinned (OpenSpec.ofChange bitvecPacksWrong)

/-- 'rebuslaw02.BitvecScans': WHATEVER THE INPUT: true; the input reads as it did. -/
def bitvecScansSpec : ChangeSpec := { name := "bitvecScans", fn := fun _ => fun
  | [d] => { results := [.lit (.bool true)], args := [d] }
  | _ => none }
def bitvecScansRow : OpenClaim := { program := "ytmjikdkdccnbaaadoor", sum := "b041d2d884248594c974a6ed48c2e0aa36b237265dab502e9eee0eb1fc12d389", func := "rebus/rebuslaw02.BitvecScans", spec := "bitvecScans", named := ["math/bits.deBruijn64tab"], apart := false, laid := [("math/bits.deBruijn64tab", laid_math_bits_deBruijn64tab)] }
def BitvecScansSaid : Prop := bitvecScansRow.holds Tryd.pinned (OpenSpec.ofChange bitvecScansSpec)

/-- ITS FALSE NEIGHBOUR: 'it returns false'. Refute it at one input. -/
def bitvecScansWrong : ChangeSpec := { name := "bitvecScans", fn := fun _ => fun
  | [d] => { results := [.lit (.bool false)], args := [d] }
  | _ => none }
def BitvecScansWrongFalsely : Prop := bitvecScansRow.holds Tryd.pinned (OpenSpec.ofChange bitvecScansWrong)

/-- 'rebuslaw02.BitvecCounts': WHATEVER THE INPUT: true; the input reads as it did. -/
def bitvecCountsSpec : ChangeSpec := { name := "bitvecCounts", fn := fun _ => fun
  | [d1, d2] => { results := [.lit (.bool true)], args := [d1, d2] }
  | _ => none }
def bitvecCountsRow : OpenClaim := { program := "ytmjikdkdccnbaaadoor", sum := "b041d2d884248594c974a6ed48c2e0aa36b237265dab502e9eee0eb1fc12d389", func := "rebus/rebuslaw02.BitvecCounts", spec := "bitvecCounts", named := ["math/bits.deBruijn64tab"], apart := false, laid := [("math/bits.deBruijn64tab", laid_math_bits_deBruijn64tab)] }
def BitvecCountsSaid : Prop := bitvecCountsRow.holds Tryd.pinned (OpenSpec.ofChange bitvecCountsSpec)

/-- ITS FALSE NEIGHBOUR: 'it returns false'. Refute it at one input. -/
def bitvecCountsWrong : ChangeSpec := { name := "bitvecCounts", fn := fun _ => fun
  | [d1, d2] => { results := [.lit (.bool false)], args := [d1, d2] }
  | _ => none }
def BitvecCountsWrongFalsely : Prop := bitvecCountsRow.holds Tryd.pinned (OpenSpec.ofChange bitvecCountsWrong)

/-- 'rebuslaw02.BitvecCuts': WHATEVER THE INPUT: true; the input reads as it did. -/
def bitvecCutsSpec : ChangeSpec := { name := "bitvecCuts", fn := fun _ => fun
  | [d1, d2, d3] => { results := [.lit (.bool true)], args := [d1, d2, d3] }
  | _ => none }
def bitvecCutsRow : OpenClaim := { program := "ytmjikdkdccnbaaadoor", sum := "b041d2d884248594c974a6ed48c2e0aa36b237265dab502e9eee0eb1fc12d389", func := "rebus/rebuslaw02.BitvecCuts", spec := "bitvecCuts", named := ["math/bits.deBruijn64tab"], apart := false, laid := [("math/bits.deBruijn64tab", laid_math_bits_deBruijn64tab)] }
def BitvecCutsSaid : Prop := bitvecCutsRow.holds Tryd.pinned (OpenSpec.ofChange bitvecCutsSpec)

/-- ITS FALSE NEIGHBOUR: 'it returns false'. Refute it at one input. -/
def bitvecCutsWrong : ChangeSpec := { name := "bitvecCuts", fn := fun _ => fun
  | [d1, d2, d3] => { results := [.lit (.bool false)], args := [d1, d2, d3] }
  | _ => none }
def BitvecCutsWrongFalsely : Prop := bitvecCutsRow.holds Tryd.pinned (OpenSpec.ofChange bitvecCutsWrong)

/-- 'rebuslaw02.BitvecSums': WHATEVER THE INPUT: true; the input reads as it did. -/
def bitvecSumsSpec : ChangeSpec := { name := "bitvecSums", fn := fun _ => fun
  | [d1, d2] => { results := [.lit (.bool true)], args := [d1, d2] }
  | _ => none }
def bitvecSumsRow : OpenClaim := { program := "ytmjikdkdccnbaaadoor", sum := "b041d2d884248594c974a6ed48c2e0aa36b237265dab502e9eee0eb1fc12d389", func := "rebus/rebuslaw02.BitvecSums", spec := "bitvecSums", named := ["math/bits.deBruijn64tab"], apart := false, laid := [("math/bits.deBruijn64tab", laid_math_bits_deBruijn64tab)] }
def BitvecSumsSaid : Prop := bitvecSumsRow.holds Tryd.pinned (OpenSpec.ofChange bitvecSumsSpec)

/-- ITS FALSE NEIGHBOUR: 'it returns false'. Refute it at one input. -/
def bitvecSumsWrong : ChangeSpec := { name := "bitvecSums", fn := fun _ => fun
  | [d1, d2] => { results := [.lit (.bool false)], args := [d1, d2] }
  | _ => none }
def BitvecSumsWrongFalsely : Prop := bitvecSumsRow.holds Tryd.pinned (OpenSpec.ofChange bitvecSumsWrong)

/-- 'rebuslaw02.BitvecTruth': WHATEVER THE INPUT: true; the input reads as it did. -/
def bitvecTruthSpec : ChangeSpec := { name := "bitvecTruth", fn := fun _ => fun
  | [d1, d2, d3] => { results := [.lit (.bool true)], args := [d1, d2, d3] }
  | _ => none }
def bitvecTruthRow : OpenClaim := { program := "ytmjikdkdccnbaaadoor", sum := "b041d2d884248594c974a6ed48c2e0aa36b237265dab502e9eee0eb1fc12d389", func := "rebus/rebuslaw02.BitvecTruth", spec := "bitvecTruth", named := ["math/bits.deBruijn64tab"], apart := false, laid := [("math/bits.deBruijn64tab", laid_math_bits_deBruijn64tab)] }
def BitvecTruthSaid : Prop := bitvecTruthRow.holds Tryd.pinned (OpenSpec.ofChange bitvecTruthSpec)

/-- ITS FALSE NEIGHBOUR: 'it returns false'. Refute it at one input. -/
def bitvecTruthWrong : ChangeSpec := { name := "bitvecTruth", fn := fun _ => fun
  | [d1, d2, d3] => { results := [.lit (.bool false)], args := [d1, d2, d3] }
  | _ => none }
def BitvecTruthWrongFalsely : Prop := bitvecTruthRow.holds Tryd.pinned (OpenSpec.ofChange bitvecTruthWrong)

/- THE SECOND FORM. 'bulk': how many values and letters a reading holds, each counted each time it is reached (what is shared counts as often as it is met; a slice's spare places count too). A statement '..UptoSaid' is the law's where the arguments, and the package variables that the reading takes, are together of bulk at most 1048576: NARROWER than '..Said'. Prove '..Said' where nothing that the law and all that it calls make is longer than what came in: it says more and counts as full. Else prove '..UptoSaid'. A law counts once. -/
mutual
def uptoBulk {H : Type} : DataW H → Nat
  | .lit (.string bytes) => bytes.length + 1
  | .lit _ => 1
  | .nil => 1
  | .ptr d => uptoBulk d + 1
  | .slice elems spare => uptoBulkAll elems + uptoBulkAll spare + 1
  | .agg parts => uptoBulkAll parts + 1
  | .iface _ d => uptoBulk d + 1
  | .map entries => uptoBulkEntries entries + 1
  | .held _ => 1
def uptoBulkAll {H : Type} : List (DataW H) → Nat
  | [] => 0
  | d :: r => uptoBulk d + uptoBulkAll r
def uptoBulkEntries {H : Type} : List (Lit × DataW H) → Nat
  | [] => 0
  | x :: r => uptoBulkEntry x + uptoBulkEntries r
def uptoBulkEntry {H : Type} : Lit × DataW H → Nat
  | (.string bytes, d) => bytes.length + uptoBulk d + 1
  | (_, d) => uptoBulk d + 1
 end
def uptoSmall : (H : Type) → List (DataW H) → Bool := fun _ ds => decide (uptoBulkAll ds ≤ 1048576)
def OpenSpec.upto (s : _root_.Go.ChangeSpec) : _root_.Go.OpenSpec := { _root_.Go.OpenSpec.ofChange s with cond := some uptoSmall }

/-- 'rebuslaw02.BitvecPacks', WHERE WHAT IT READS IS OF BULK AT MOST 1048576: true; the input reads as it did. -/
def bitvecPacksUptoRow : OpenClaim := { program := "ytmjikdkdccnbaaadoor", sum := "b041d2d884248594c974a6ed48c2e0aa36b237265dab502e9eee0eb1fc12d389", func := "rebus/rebuslaw02.BitvecPacks", spec := "bitvecPacks", named := ["math/bits.deBruijn64tab"], apart := false, laid := [("math/bits.deBruijn64tab", laid_math_bits_deBruijn64tab)], narrowed := true }
def BitvecPacksUptoSaid : Prop := bitvecPacksUptoRow.holds Tryd.pinned (OpenSpec.upto bitvecPacksSpec)

/-- 'rebuslaw02.BitvecScans', WHERE WHAT IT READS IS OF BULK AT MOST 1048576: true; the input reads as it did. -/
def bitvecScansUptoRow : OpenClaim := { program := "ytmjikdkdccnbaaadoor", sum := "b041d2d884248594c974a6ed48c2e0aa36b237265dab502e9eee0eb1fc12d389", func := "rebus/rebuslaw02.BitvecScans", spec := "bitvecScans", named := ["math/bits.deBruijn64tab"], apart := false, laid := [("math/bits.deBruijn64tab", laid_math_bits_deBruijn64tab)], narrowed := true }
def BitvecScansUptoSaid : Prop := bitvecScansUptoRow.holds Tryd.pinned (OpenSpec.upto bitvecScansSpec)

/-- 'rebuslaw02.BitvecCounts', WHERE WHAT IT READS IS OF BULK AT MOST 1048576: true; the input reads as it did. -/
def bitvecCountsUptoRow : OpenClaim := { program := "ytmjikdkdccnbaaadoor", sum := "b041d2d884248594c974a6ed48c2e0aa36b237265dab502e9eee0eb1fc12d389", func := "rebus/rebuslaw02.BitvecCounts", spec := "bitvecCounts", named := ["math/bits.deBruijn64tab"], apart := false, laid := [("math/bits.deBruijn64tab", laid_math_bits_deBruijn64tab)], narrowed := true }
def BitvecCountsUptoSaid : Prop := bitvecCountsUptoRow.holds Tryd.pinned (OpenSpec.upto bitvecCountsSpec)

/-- 'rebuslaw02.BitvecCuts', WHERE WHAT IT READS IS OF BULK AT MOST 1048576: true; the input reads as it did. -/
def bitvecCutsUptoRow : OpenClaim := { program := "ytmjikdkdccnbaaadoor", sum := "b041d2d884248594c974a6ed48c2e0aa36b237265dab502e9eee0eb1fc12d389", func := "rebus/rebuslaw02.BitvecCuts", spec := "bitvecCuts", named := ["math/bits.deBruijn64tab"], apart := false, laid := [("math/bits.deBruijn64tab", laid_math_bits_deBruijn64tab)], narrowed := true }
def BitvecCutsUptoSaid : Prop := bitvecCutsUptoRow.holds Tryd.pinned (OpenSpec.upto bitvecCutsSpec)

/-- 'rebuslaw02.BitvecSums', WHERE WHAT IT READS IS OF BULK AT MOST 1048576: true; the input reads as it did. -/
def bitvecSumsUptoRow : OpenClaim := { program := "ytmjikdkdccnbaaadoor", sum := "b041d2d884248594c974a6ed48c2e0aa36b237265dab502e9eee0eb1fc12d389", func := "rebus/rebuslaw02.BitvecSums", spec := "bitvecSums", named := ["math/bits.deBruijn64tab"], apart := false, laid := [("math/bits.deBruijn64tab", laid_math_bits_deBruijn64tab)], narrowed := true }
def BitvecSumsUptoSaid : Prop := bitvecSumsUptoRow.holds Tryd.pinned (OpenSpec.upto bitvecSumsSpec)

/-- 'rebuslaw02.BitvecTruth', WHERE WHAT IT READS IS OF BULK AT MOST 1048576: true; the input reads as it did. -/
def bitvecTruthUptoRow : OpenClaim := { program := "ytmjikdkdccnbaaadoor", sum := "b041d2d884248594c974a6ed48c2e0aa36b237265dab502e9eee0eb1fc12d389", func := "rebus/rebuslaw02.BitvecTruth", spec := "bitvecTruth", named := ["math/bits.deBruijn64tab"], apart := false, laid := [("math/bits.deBruijn64tab", laid_math_bits_deBruijn64tab)], narrowed := true }
def BitvecTruthUptoSaid : Prop := bitvecTruthUptoRow.holds Tryd.pinned (OpenSpec.upto bitvecTruthSpec)

end Rows
end Go.Proofs.YtmjikdkdccnbaaaDoor
