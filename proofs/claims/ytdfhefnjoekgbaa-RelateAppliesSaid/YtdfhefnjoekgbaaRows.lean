/-
  NARROWER THAN 'FOR EVERY INPUT', by the rows' own cells (each row's printed sentence says how): RelateApplies: loops.
  DERIVED. THE GIVEN ROWS OF THIS SEAT. 10 by the template 'for every input the law returns true; each argument reads behind the call as it read before'; 0 by the template 'total and deterministic' (their statements: YtdfhefnjoekgbaaTotals.lean).
  GIVEN WITH THE SEED: the statements are not yours to turn. If you find one false, say at which input.
  Laid BY PROGRAM, IN A SANDBOX (cutbox-rows.mjs): the forced cells as the released guide's own fill.sh prints them over the translation 52e12f4dda2e5877… (all of the seat's roots in one cut). By AI agents, Wed Nov 11 2026. No macro, syntax, notation, axiom, sorry.
-/
import Derived.Test.YtdfhefnjoekgbaaChecked
import GoSem.Claim
import GoSem.ClaimJoined
import GoSem.ClaimMapViews
import Derived.JoinedTies
import Derived.KernelRfl
namespace Go.Proofs.Ytdfhefnjoekgbaa
/- THE CELL 'sum', in the pinned program and in every row, IS THE sha256 OF THE DUMP (.gsa) THAT YtdfhefnjoekgbaaProg.lean LOADS. Nothing in Lean hashes anything: it is a label: what it is worth is what the hold of that sum in a sandbox is worth. -/
noncomputable def Try.pinned : Pinned := { name := "ytdfhefnjoekgbaa", sum := "52e12f4dda2e5877e78b632fa85382e6ead2510f2142b5b57aeb3ef2322905d5", checked := Try.checked }
namespace Rows
def none {H : Type} : Left H := { results := [], args := [] }

/-- 'rebuslaw05.SqueezeInto': WHATEVER THE INPUT: true; the input reads as it did. -/
def squeezeIntoSpec : ChangeSpec := { name := "squeezeInto", fn := fun _ => fun
  | [d1, d2, d3] => { results := [.lit (.bool true)], args := [d1, d2, d3] }
  | _ => none }
def squeezeIntoRow : OpenClaim := { program := "ytdfhefnjoekgbaa", sum := "52e12f4dda2e5877e78b632fa85382e6ead2510f2142b5b57aeb3ef2322905d5", func := "rebus/rebuslaw05.SqueezeInto", spec := "squeezeInto", apart := false }
def SqueezeIntoSaid : Prop := squeezeIntoRow.holds Try.pinned (OpenSpec.ofChange squeezeIntoSpec)

/-- ITS FALSE NEIGHBOUR: 'it returns false'. Refute it at one input. -/
def squeezeIntoWrong : ChangeSpec := { name := "squeezeInto", fn := fun _ => fun
  | [d1, d2, d3] => { results := [.lit (.bool false)], args := [d1, d2, d3] }
  | _ => none }
def SqueezeIntoWrongFalsely : Prop := squeezeIntoRow.holds Try.pinned (OpenSpec.ofChange squeezeIntoWrong)

/-- 'rebuslaw05.SqueezeLeast': WHATEVER THE INPUT: true; the input reads as it did. -/
def squeezeLeastSpec : ChangeSpec := { name := "squeezeLeast", fn := fun _ => fun
  | [d] => { results := [.lit (.bool true)], args := [d] }
  | _ => none }
def squeezeLeastRow : OpenClaim := { program := "ytdfhefnjoekgbaa", sum := "52e12f4dda2e5877e78b632fa85382e6ead2510f2142b5b57aeb3ef2322905d5", func := "rebus/rebuslaw05.SqueezeLeast", spec := "squeezeLeast", apart := false }
def SqueezeLeastSaid : Prop := squeezeLeastRow.holds Try.pinned (OpenSpec.ofChange squeezeLeastSpec)

/-- ITS FALSE NEIGHBOUR: 'it returns false'. Refute it at one input. -/
def squeezeLeastWrong : ChangeSpec := { name := "squeezeLeast", fn := fun _ => fun
  | [d] => { results := [.lit (.bool false)], args := [d] }
  | _ => none }
def SqueezeLeastWrongFalsely : Prop := squeezeLeastRow.holds Try.pinned (OpenSpec.ofChange squeezeLeastWrong)

/-- 'rebuslaw05.SqueezeOthers': WHATEVER THE INPUT: true; the input reads as it did. -/
def squeezeOthersSpec : ChangeSpec := { name := "squeezeOthers", fn := fun _ => fun
  | [d1, d2] => { results := [.lit (.bool true)], args := [d1, d2] }
  | _ => none }
def squeezeOthersRow : OpenClaim := { program := "ytdfhefnjoekgbaa", sum := "52e12f4dda2e5877e78b632fa85382e6ead2510f2142b5b57aeb3ef2322905d5", func := "rebus/rebuslaw05.SqueezeOthers", spec := "squeezeOthers", apart := false }
def SqueezeOthersSaid : Prop := squeezeOthersRow.holds Try.pinned (OpenSpec.ofChange squeezeOthersSpec)

/-- ITS FALSE NEIGHBOUR: 'it returns false'. Refute it at one input. -/
def squeezeOthersWrong : ChangeSpec := { name := "squeezeOthers", fn := fun _ => fun
  | [d1, d2] => { results := [.lit (.bool false)], args := [d1, d2] }
  | _ => none }
def SqueezeOthersWrongFalsely : Prop := squeezeOthersRow.holds Try.pinned (OpenSpec.ofChange squeezeOthersWrong)

/-- 'rebuslaw05.SqueezeCommon': WHATEVER THE INPUT: true; the input reads as it did. -/
def squeezeCommonSpec : ChangeSpec := { name := "squeezeCommon", fn := fun _ => fun
  | [d1, d2] => { results := [.lit (.bool true)], args := [d1, d2] }
  | _ => none }
def squeezeCommonRow : OpenClaim := { program := "ytdfhefnjoekgbaa", sum := "52e12f4dda2e5877e78b632fa85382e6ead2510f2142b5b57aeb3ef2322905d5", func := "rebus/rebuslaw05.SqueezeCommon", spec := "squeezeCommon", apart := false }
def SqueezeCommonSaid : Prop := squeezeCommonRow.holds Try.pinned (OpenSpec.ofChange squeezeCommonSpec)

/-- ITS FALSE NEIGHBOUR: 'it returns false'. Refute it at one input. -/
def squeezeCommonWrong : ChangeSpec := { name := "squeezeCommon", fn := fun _ => fun
  | [d1, d2] => { results := [.lit (.bool false)], args := [d1, d2] }
  | _ => none }
def SqueezeCommonWrongFalsely : Prop := squeezeCommonRow.holds Try.pinned (OpenSpec.ofChange squeezeCommonWrong)

/-- 'rebuslaw12.LogicApplies': WHATEVER THE INPUT: true; the input reads as it did. -/
def logicAppliesSpec : ChangeSpec := { name := "logicApplies", fn := fun _ => fun
  | [d1, d2, d3, d4, d5] => { results := [.lit (.bool true)], args := [d1, d2, d3, d4, d5] }
  | _ => none }
def logicAppliesRow : OpenClaim := { program := "ytdfhefnjoekgbaa", sum := "52e12f4dda2e5877e78b632fa85382e6ead2510f2142b5b57aeb3ef2322905d5", func := "rebus/rebuslaw12.LogicApplies", spec := "logicApplies", apart := false }
def LogicAppliesSaid : Prop := logicAppliesRow.holds Try.pinned (OpenSpec.ofChange logicAppliesSpec)

/-- ITS FALSE NEIGHBOUR: 'it returns false'. Refute it at one input. -/
def logicAppliesWrong : ChangeSpec := { name := "logicApplies", fn := fun _ => fun
  | [d1, d2, d3, d4, d5] => { results := [.lit (.bool false)], args := [d1, d2, d3, d4, d5] }
  | _ => none }
def LogicAppliesWrongFalsely : Prop := logicAppliesRow.holds Try.pinned (OpenSpec.ofChange logicAppliesWrong)

/-- 'rebuslaw12.LogicOthers': WHATEVER THE INPUT: true; the input reads as it did. -/
def logicOthersSpec : ChangeSpec := { name := "logicOthers", fn := fun _ => fun
  | [d1, d2, d3] => { results := [.lit (.bool true)], args := [d1, d2, d3] }
  | _ => none }
def logicOthersRow : OpenClaim := { program := "ytdfhefnjoekgbaa", sum := "52e12f4dda2e5877e78b632fa85382e6ead2510f2142b5b57aeb3ef2322905d5", func := "rebus/rebuslaw12.LogicOthers", spec := "logicOthers", apart := false }
def LogicOthersSaid : Prop := logicOthersRow.holds Try.pinned (OpenSpec.ofChange logicOthersSpec)

/-- ITS FALSE NEIGHBOUR: 'it returns false'. Refute it at one input. -/
def logicOthersWrong : ChangeSpec := { name := "logicOthers", fn := fun _ => fun
  | [d1, d2, d3] => { results := [.lit (.bool false)], args := [d1, d2, d3] }
  | _ => none }
def LogicOthersWrongFalsely : Prop := logicOthersRow.holds Try.pinned (OpenSpec.ofChange logicOthersWrong)

/-- 'rebuslaw12.LogicOne': WHATEVER THE INPUT: true; the input reads as it did. -/
def logicOneSpec : ChangeSpec := { name := "logicOne", fn := fun _ => fun
  | [d1, d2, d3] => { results := [.lit (.bool true)], args := [d1, d2, d3] }
  | _ => none }
def logicOneRow : OpenClaim := { program := "ytdfhefnjoekgbaa", sum := "52e12f4dda2e5877e78b632fa85382e6ead2510f2142b5b57aeb3ef2322905d5", func := "rebus/rebuslaw12.LogicOne", spec := "logicOne", apart := false }
def LogicOneSaid : Prop := logicOneRow.holds Try.pinned (OpenSpec.ofChange logicOneSpec)

/-- ITS FALSE NEIGHBOUR: 'it returns false'. Refute it at one input. -/
def logicOneWrong : ChangeSpec := { name := "logicOne", fn := fun _ => fun
  | [d1, d2, d3] => { results := [.lit (.bool false)], args := [d1, d2, d3] }
  | _ => none }
def LogicOneWrongFalsely : Prop := logicOneRow.holds Try.pinned (OpenSpec.ofChange logicOneWrong)

/-- 'rebuslaw11.RelateOne': WHATEVER THE INPUT: true; the input reads as it did. -/
def relateOneSpec : ChangeSpec := { name := "relateOne", fn := fun _ => fun
  | [d1, d2, d3] => { results := [.lit (.bool true)], args := [d1, d2, d3] }
  | _ => none }
def relateOneRow : OpenClaim := { program := "ytdfhefnjoekgbaa", sum := "52e12f4dda2e5877e78b632fa85382e6ead2510f2142b5b57aeb3ef2322905d5", func := "rebus/rebuslaw11.RelateOne", spec := "relateOne", apart := false }
def RelateOneSaid : Prop := relateOneRow.holds Try.pinned (OpenSpec.ofChange relateOneSpec)

/-- ITS FALSE NEIGHBOUR: 'it returns false'. Refute it at one input. -/
def relateOneWrong : ChangeSpec := { name := "relateOne", fn := fun _ => fun
  | [d1, d2, d3] => { results := [.lit (.bool false)], args := [d1, d2, d3] }
  | _ => none }
def RelateOneWrongFalsely : Prop := relateOneRow.holds Try.pinned (OpenSpec.ofChange relateOneWrong)

/-- 'rebuslaw11.RelateStores': WHATEVER THE INPUT: true; the input reads as it did. -/
def relateStoresSpec : ChangeSpec := { name := "relateStores", fn := fun _ => fun
  | [d1, d2, d3, d4, d5] => { results := [.lit (.bool true)], args := [d1, d2, d3, d4, d5] }
  | _ => none }
def relateStoresRow : OpenClaim := { program := "ytdfhefnjoekgbaa", sum := "52e12f4dda2e5877e78b632fa85382e6ead2510f2142b5b57aeb3ef2322905d5", func := "rebus/rebuslaw11.RelateStores", spec := "relateStores", apart := false }
def RelateStoresSaid : Prop := relateStoresRow.holds Try.pinned (OpenSpec.ofChange relateStoresSpec)

/-- ITS FALSE NEIGHBOUR: 'it returns false'. Refute it at one input. -/
def relateStoresWrong : ChangeSpec := { name := "relateStores", fn := fun _ => fun
  | [d1, d2, d3, d4, d5] => { results := [.lit (.bool false)], args := [d1, d2, d3, d4, d5] }
  | _ => none }
def RelateStoresWrongFalsely : Prop := relateStoresRow.holds Try.pinned (OpenSpec.ofChange relateStoresWrong)

/-- 'rebuslaw11.RelateApplies': WHATEVER THE INPUT: true; the input reads as it did. -/
def relateAppliesSpec : ChangeSpec := { name := "relateApplies", fn := fun _ => fun
  | [d1, d2, d3] => { results := [.lit (.bool true)], args := [d1, d2, d3] }
  | _ => none }
def relateAppliesRow : OpenClaim := { program := "ytdfhefnjoekgbaa", sum := "52e12f4dda2e5877e78b632fa85382e6ead2510f2142b5b57aeb3ef2322905d5", func := "rebus/rebuslaw11.RelateApplies", spec := "relateApplies", recurses := true, loops := true, apart := false }
def RelateAppliesSaid : Prop := relateAppliesRow.holds Try.pinned (OpenSpec.ofChange relateAppliesSpec)

/-- ITS FALSE NEIGHBOUR: 'it returns false'. Refute it at one input. -/
def relateAppliesWrong : ChangeSpec := { name := "relateApplies", fn := fun _ => fun
  | [d1, d2, d3] => { results := [.lit (.bool false)], args := [d1, d2, d3] }
  | _ => none }
def RelateAppliesWrongFalsely : Prop := relateAppliesRow.holds Try.pinned (OpenSpec.ofChange relateAppliesWrong)

/- THE SECOND FORM. 'bulk': how many values and letters a reading holds, each counted each time it is reached (what is shared counts as often as it is met; a slice's spare places count too). A statement '..UptoSaid' is the law's where the arguments, and the package variables that the reading takes, are together of bulk at most 1048576: NARROWER than '..Said'. Prove '..Said' where nothing that the law and all that it calls make is longer than what came in: it says more and counts as full. Else prove '..UptoSaid'. A law counts once. -/
mutual
def uptoBulk {H : Type} : DataW H → Nat
  | .lit (.string bytes) => bytes.length + 1
  | .lit _ => 1
  | .nil => 1
  | .ptr d => uptoBulk d + 1
  | .slice elems spare => uptoBulkAll elems + uptoBulkAll spare + 1
  | .agg parts => uptoBulkAll parts + 1
  | .iface _ d => uptoBulk d + 1
  | .map entries => uptoBulkEntries entries + 1
  | .held _ => 1
def uptoBulkAll {H : Type} : List (DataW H) → Nat
  | [] => 0
  | d :: r => uptoBulk d + uptoBulkAll r
def uptoBulkEntries {H : Type} : List (Lit × DataW H) → Nat
  | [] => 0
  | x :: r => uptoBulkEntry x + uptoBulkEntries r
def uptoBulkEntry {H : Type} : Lit × DataW H → Nat
  | (.string bytes, d) => bytes.length + uptoBulk d + 1
  | (_, d) => uptoBulk d + 1
 end
def uptoSmall : (H : Type) → List (DataW H) → Bool := fun _ ds => decide (uptoBulkAll ds ≤ 1048576)
def OpenSpec.upto (s : _root_.Go.ChangeSpec) : _root_.Go.OpenSpec := { _root_.Go.OpenSpec.ofChange s with cond := some uptoSmall }

/-- 'rebuslaw05.SqueezeInto', WHERE WHAT IT READS IS OF BULK AT MOST 1048576: true; the input reads as it did. -/
def squeezeIntoUptoRow : OpenClaim := { program := "ytdfhefnjoekgbaa", sum := "52e12f4dda2e5877e78b632fa85382e6ead2510f2142b5b57aeb3ef2322905d5", func := "rebus/rebuslaw05.SqueezeInto", spec := "squeezeInto", apart := false, narrowed := true }
def SqueezeIntoUptoSaid : Prop := squeezeIntoUptoRow.holds Try.pinned (OpenSpec.upto squeezeIntoSpec)

/-- 'rebuslaw05.SqueezeLeast', WHERE WHAT IT READS IS OF BULK AT MOST 1048576: true; the input reads as it did. -/
def squeezeLeastUptoRow : OpenClaim := { program := "ytdfhefnjoekgbaa", sum := "52e12f4dda2e5877e78b632fa85382e6ead2510f2142b5b57aeb3ef2322905d5", func := "rebus/rebuslaw05.SqueezeLeast", spec := "squeezeLeast", apart := false, narrowed := true }
def SqueezeLeastUptoSaid : Prop := squeezeLeastUptoRow.holds Try.pinned (OpenSpec.upto squeezeLeastSpec)

/-- 'rebuslaw05.SqueezeOthers', WHERE WHAT IT READS IS OF BULK AT MOST 1048576: true; the input reads as it did. -/
def squeezeOthersUptoRow : OpenClaim := { program := "ytdfhefnjoekgbaa", sum := "52e12f4dda2e5877e78b632fa85382e6ead2510f2142b5b57aeb3ef2322905d5", func := "rebus/rebuslaw05.SqueezeOthers", spec := "squeezeOthers", apart := false, narrowed := true }
def SqueezeOthersUptoSaid : Prop := squeezeOthersUptoRow.holds Try.pinned (OpenSpec.upto squeezeOthersSpec)

/-- 'rebuslaw05.SqueezeCommon', WHERE WHAT IT READS IS OF BULK AT MOST 1048576: true; the input reads as it did. -/
def squeezeCommonUptoRow : OpenClaim := { program := "ytdfhefnjoekgbaa", sum := "52e12f4dda2e5877e78b632fa85382e6ead2510f2142b5b57aeb3ef2322905d5", func := "rebus/rebuslaw05.SqueezeCommon", spec := "squeezeCommon", apart := false, narrowed := true }
def SqueezeCommonUptoSaid : Prop := squeezeCommonUptoRow.holds Try.pinned (OpenSpec.upto squeezeCommonSpec)

/-- 'rebuslaw12.LogicApplies', WHERE WHAT IT READS IS OF BULK AT MOST 1048576: true; the input reads as it did. -/
def logicAppliesUptoRow : OpenClaim := { program := "ytdfhefnjoekgbaa", sum := "52e12f4dda2e5877e78b632fa85382e6ead2510f2142b5b57aeb3ef2322905d5", func := "rebus/rebuslaw12.LogicApplies", spec := "logicApplies", apart := false, narrowed := true }
def LogicAppliesUptoSaid : Prop := logicAppliesUptoRow.holds Try.pinned (OpenSpec.upto logicAppliesSpec)

/-- 'rebuslaw12.LogicOthers', WHERE WHAT IT READS IS OF BULK AT MOST 1048576: true; the input reads as it did. -/
def logicOthersUptoRow : OpenClaim := { program := "ytdfhefnjoekgbaa", sum := "52e12f4dda2e5877e78b632fa85382e6ead2510f2142b5b57aeb3ef2322905d5", func := "rebus/rebuslaw12.LogicOthers", spec := "logicOthers", apart := false, narrowed := true }
def LogicOthersUptoSaid : Prop := logicOthersUptoRow.holds Try.pinned (OpenSpec.upto logicOthersSpec)

/-- 'rebuslaw12.LogicOne', WHERE WHAT IT READS IS OF BULK AT MOST 1048576: true; the input reads as it did. -/
def logicOneUptoRow : OpenClaim := { program := "ytdfhefnjoekgbaa", sum := "52e12f4dda2e5877e78b632fa85382e6ead2510f2142b5b57aeb3ef2322905d5", func := "rebus/rebuslaw12.LogicOne", spec := "logicOne", apart := false, narrowed := true }
def LogicOneUptoSaid : Prop := logicOneUptoRow.holds Try.pinned (OpenSpec.upto logicOneSpec)

/-- 'rebuslaw11.RelateOne', WHERE WHAT IT READS IS OF BULK AT MOST 1048576: true; the input reads as it did. -/
def relateOneUptoRow : OpenClaim := { program := "ytdfhefnjoekgbaa", sum := "52e12f4dda2e5877e78b632fa85382e6ead2510f2142b5b57aeb3ef2322905d5", func := "rebus/rebuslaw11.RelateOne", spec := "relateOne", apart := false, narrowed := true }
def RelateOneUptoSaid : Prop := relateOneUptoRow.holds Try.pinned (OpenSpec.upto relateOneSpec)

/-- 'rebuslaw11.RelateStores', WHERE WHAT IT READS IS OF BULK AT MOST 1048576: true; the input reads as it did. -/
def relateStoresUptoRow : OpenClaim := { program := "ytdfhefnjoekgbaa", sum := "52e12f4dda2e5877e78b632fa85382e6ead2510f2142b5b57aeb3ef2322905d5", func := "rebus/rebuslaw11.RelateStores", spec := "relateStores", apart := false, narrowed := true }
def RelateStoresUptoSaid : Prop := relateStoresUptoRow.holds Try.pinned (OpenSpec.upto relateStoresSpec)

/-- 'rebuslaw11.RelateApplies', WHERE WHAT IT READS IS OF BULK AT MOST 1048576: true; the input reads as it did. -/
def relateAppliesUptoRow : OpenClaim := { program := "ytdfhefnjoekgbaa", sum := "52e12f4dda2e5877e78b632fa85382e6ead2510f2142b5b57aeb3ef2322905d5", func := "rebus/rebuslaw11.RelateApplies", spec := "relateApplies", recurses := true, loops := true, apart := false, narrowed := true }
def RelateAppliesUptoSaid : Prop := relateAppliesUptoRow.holds Try.pinned (OpenSpec.upto relateAppliesSpec)

end Rows
end Go.Proofs.Ytdfhefnjoekgbaa
