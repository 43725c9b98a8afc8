/-
  DERIVED. GIVEN WITH THE SEED: THE CARDS: each row of YtmjikdkdccnbaaaDoorRows.lean that lists a variable, with what it lists TIED to the program's text (the seventh form; the later family's looks); each row that meets fmt, with fmt's text TOLD by the authors' own Lean function (tested against real Go, not proved from fmt's source: count such statements apart). THE CARD IS WHAT COUNTS. Prove the row's statement (the work); the ties are given (YtmjikdkdccnbaaaDoorTie.lean); close each card by the builder's one call (the guide's Derived/Test/ToyasCard.lean, 'card_holds'). Laid BY PROGRAM, IN A SANDBOX (cutbox-door.mjs). By AI agents, Wed Nov 11 2026. No macro, syntax, notation, axiom, sorry.
-/
import Derived.Test.YtmjikdkdccnbaaaDoorRows
import GoSem.ClaimSeven
namespace Go.Proofs.YtmjikdkdccnbaaaDoor
namespace Rows

/-- THE TIED CARD OF 'rebuslaw02.BitvecPacks'. -/
def bitvecPacksCard : Claim7 := { stood := { row := bitvecPacksRow, standIns := [], harness := (true, "06efc1b73ad6229dfc74a67b755fcbd478fee507268fbf64ce9ced2d6a087ea1"), looks := false }, kinds := [], alts := [], laidByText := true, laidKinds := [.data], laidTests := true, laidLooks := .later }
def BitvecPacksCardSaid : Prop := Claim7.holds Tryd.pinned (.plain (OpenSpec.ofChange bitvecPacksSpec)) bitvecPacksCard

/-- THE TIED CARD OF 'rebuslaw02.BitvecScans'. -/
def bitvecScansCard : Claim7 := { stood := { row := bitvecScansRow, standIns := [], harness := (true, "06efc1b73ad6229dfc74a67b755fcbd478fee507268fbf64ce9ced2d6a087ea1"), looks := false }, kinds := [], alts := [], laidByText := true, laidKinds := [.data], laidTests := true, laidLooks := .later }
def BitvecScansCardSaid : Prop := Claim7.holds Tryd.pinned (.plain (OpenSpec.ofChange bitvecScansSpec)) bitvecScansCard

/-- THE TIED CARD OF 'rebuslaw02.BitvecCounts'. -/
def bitvecCountsCard : Claim7 := { stood := { row := bitvecCountsRow, standIns := [], harness := (true, "06efc1b73ad6229dfc74a67b755fcbd478fee507268fbf64ce9ced2d6a087ea1"), looks := false }, kinds := [], alts := [], laidByText := true, laidKinds := [.data], laidTests := true, laidLooks := .later }
def BitvecCountsCardSaid : Prop := Claim7.holds Tryd.pinned (.plain (OpenSpec.ofChange bitvecCountsSpec)) bitvecCountsCard

/-- THE TIED CARD OF 'rebuslaw02.BitvecCuts'. -/
def bitvecCutsCard : Claim7 := { stood := { row := bitvecCutsRow, standIns := [], harness := (true, "06efc1b73ad6229dfc74a67b755fcbd478fee507268fbf64ce9ced2d6a087ea1"), looks := false }, kinds := [], alts := [], laidByText := true, laidKinds := [.data], laidTests := true, laidLooks := .later }
def BitvecCutsCardSaid : Prop := Claim7.holds Tryd.pinned (.plain (OpenSpec.ofChange bitvecCutsSpec)) bitvecCutsCard

/-- THE TIED CARD OF 'rebuslaw02.BitvecSums'. -/
def bitvecSumsCard : Claim7 := { stood := { row := bitvecSumsRow, standIns := [], harness := (true, "06efc1b73ad6229dfc74a67b755fcbd478fee507268fbf64ce9ced2d6a087ea1"), looks := false }, kinds := [], alts := [], laidByText := true, laidKinds := [.data], laidTests := true, laidLooks := .later }
def BitvecSumsCardSaid : Prop := Claim7.holds Tryd.pinned (.plain (OpenSpec.ofChange bitvecSumsSpec)) bitvecSumsCard

/-- THE TIED CARD OF 'rebuslaw02.BitvecTruth'. -/
def bitvecTruthCard : Claim7 := { stood := { row := bitvecTruthRow, standIns := [], harness := (true, "06efc1b73ad6229dfc74a67b755fcbd478fee507268fbf64ce9ced2d6a087ea1"), looks := false }, kinds := [], alts := [], laidByText := true, laidKinds := [.data], laidTests := true, laidLooks := .later }
def BitvecTruthCardSaid : Prop := Claim7.holds Tryd.pinned (.plain (OpenSpec.ofChange bitvecTruthSpec)) bitvecTruthCard

/-- THE SECOND FORM's CARD OF 'rebuslaw02.BitvecPacks'. -/
def bitvecPacksUptoCard : Claim7 := { stood := { row := bitvecPacksUptoRow, standIns := [], harness := (true, "06efc1b73ad6229dfc74a67b755fcbd478fee507268fbf64ce9ced2d6a087ea1"), looks := false }, kinds := [], alts := [], laidByText := true, laidKinds := [.data], laidTests := true, laidLooks := .later }
def BitvecPacksUptoCardSaid : Prop := Claim7.holds Tryd.pinned (.plain (OpenSpec.upto bitvecPacksSpec)) bitvecPacksUptoCard

/-- THE SECOND FORM's CARD OF 'rebuslaw02.BitvecScans'. -/
def bitvecScansUptoCard : Claim7 := { stood := { row := bitvecScansUptoRow, standIns := [], harness := (true, "06efc1b73ad6229dfc74a67b755fcbd478fee507268fbf64ce9ced2d6a087ea1"), looks := false }, kinds := [], alts := [], laidByText := true, laidKinds := [.data], laidTests := true, laidLooks := .later }
def BitvecScansUptoCardSaid : Prop := Claim7.holds Tryd.pinned (.plain (OpenSpec.upto bitvecScansSpec)) bitvecScansUptoCard

/-- THE SECOND FORM's CARD OF 'rebuslaw02.BitvecCounts'. -/
def bitvecCountsUptoCard : Claim7 := { stood := { row := bitvecCountsUptoRow, standIns := [], harness := (true, "06efc1b73ad6229dfc74a67b755fcbd478fee507268fbf64ce9ced2d6a087ea1"), looks := false }, kinds := [], alts := [], laidByText := true, laidKinds := [.data], laidTests := true, laidLooks := .later }
def BitvecCountsUptoCardSaid : Prop := Claim7.holds Tryd.pinned (.plain (OpenSpec.upto bitvecCountsSpec)) bitvecCountsUptoCard

/-- THE SECOND FORM's CARD OF 'rebuslaw02.BitvecCuts'. -/
def bitvecCutsUptoCard : Claim7 := { stood := { row := bitvecCutsUptoRow, standIns := [], harness := (true, "06efc1b73ad6229dfc74a67b755fcbd478fee507268fbf64ce9ced2d6a087ea1"), looks := false }, kinds := [], alts := [], laidByText := true, laidKinds := [.data], laidTests := true, laidLooks := .later }
def BitvecCutsUptoCardSaid : Prop := Claim7.holds Tryd.pinned (.plain (OpenSpec.upto bitvecCutsSpec)) bitvecCutsUptoCard

/-- THE SECOND FORM's CARD OF 'rebuslaw02.BitvecSums'. -/
def bitvecSumsUptoCard : Claim7 := { stood := { row := bitvecSumsUptoRow, standIns := [], harness := (true, "06efc1b73ad6229dfc74a67b755fcbd478fee507268fbf64ce9ced2d6a087ea1"), looks := false }, kinds := [], alts := [], laidByText := true, laidKinds := [.data], laidTests := true, laidLooks := .later }
def BitvecSumsUptoCardSaid : Prop := Claim7.holds Tryd.pinned (.plain (OpenSpec.upto bitvecSumsSpec)) bitvecSumsUptoCard

/-- THE SECOND FORM's CARD OF 'rebuslaw02.BitvecTruth'. -/
def bitvecTruthUptoCard : Claim7 := { stood := { row := bitvecTruthUptoRow, standIns := [], harness := (true, "06efc1b73ad6229dfc74a67b755fcbd478fee507268fbf64ce9ced2d6a087ea1"), looks := false }, kinds := [], alts := [], laidByText := true, laidKinds := [.data], laidTests := true, laidLooks := .later }
def BitvecTruthUptoCardSaid : Prop := Claim7.holds Tryd.pinned (.plain (OpenSpec.upto bitvecTruthSpec)) bitvecTruthUptoCard
end Rows
end Go.Proofs.YtmjikdkdccnbaaaDoor
