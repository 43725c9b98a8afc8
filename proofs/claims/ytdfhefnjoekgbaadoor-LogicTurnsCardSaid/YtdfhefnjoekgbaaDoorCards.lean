/-
  DERIVED. GIVEN WITH THE SEED: THE CARDS: each row of YtdfhefnjoekgbaaDoorRows.lean that lists a variable, with what it lists TIED to the program's text (the seventh form; the later family's looks); each row that meets fmt, with fmt's text TOLD by the authors' own Lean function (tested against real Go, not proved from fmt's source: count such statements apart). THE CARD IS WHAT COUNTS. Prove the row's statement (the work); the ties are given (YtdfhefnjoekgbaaDoorTie.lean); close each card by the builder's one call (the guide's Derived/Test/ToyasCard.lean, 'card_holds'). Laid BY PROGRAM, IN A SANDBOX (cutbox-door.mjs). By AI agents, Wed Nov 11 2026. No macro, syntax, notation, axiom, sorry.
-/
import Derived.Test.YtdfhefnjoekgbaaDoorRows
import GoSem.ClaimSeven
namespace Go.Proofs.YtdfhefnjoekgbaaDoor
namespace Rows

/-- THE TIED CARD OF 'rebuslaw12.LogicTurns'. -/
def logicTurnsCard : Claim7 := { stood := { row := logicTurnsRow, standIns := [], harness := (true, "d0fe45d99ce26aaa64b5751afcff1810ec6d2ecaf9960e2b5229f35c360fd1c0"), looks := false }, kinds := [], alts := [], laidByText := true, laidKinds := [.data], laidTests := true, laidLooks := .later }
def LogicTurnsCardSaid : Prop := Claim7.holds Tryd.pinned (.plain (OpenSpec.ofChange logicTurnsSpec)) logicTurnsCard

/-- THE SECOND FORM's CARD OF 'rebuslaw12.LogicTurns'. -/
def logicTurnsUptoCard : Claim7 := { stood := { row := logicTurnsUptoRow, standIns := [], harness := (true, "d0fe45d99ce26aaa64b5751afcff1810ec6d2ecaf9960e2b5229f35c360fd1c0"), looks := false }, kinds := [], alts := [], laidByText := true, laidKinds := [.data], laidTests := true, laidLooks := .later }
def LogicTurnsUptoCardSaid : Prop := Claim7.holds Tryd.pinned (.plain (OpenSpec.upto logicTurnsSpec)) logicTurnsUptoCard
end Rows
end Go.Proofs.YtdfhefnjoekgbaaDoor
