/-
  DERIVED. GIVEN WITH THE SEED: THE CARDS: each row of YtdedhldojkdceaaGreatDoorRows.lean that lists a variable, with what it lists TIED to the program's text (the seventh form; the later family's looks); each row that meets fmt, with fmt's text TOLD by the authors' own Lean function (tested against real Go, not proved from fmt's source: count such statements apart). THE CARD IS WHAT COUNTS. Prove the row's statement (the work); the ties are given (YtdedhldojkdceaaGreatDoorTie.lean); close each card by the builder's one call (the guide's Derived/Test/ToyasCard.lean, 'card_holds'). Laid BY PROGRAM, IN A SANDBOX (cutbox-door.mjs). By AI agents, Wed Nov 11 2026. No macro, syntax, notation, axiom, sorry.
-/
import Derived.Test.YtdedhldojkdceaaGreatDoorRows
import GoSem.ClaimSeven
namespace Go.Proofs.YtdedhldojkdceaaGreatDoor
namespace Rows

/-- THE TIED CARD OF 'laws.FnExactLibraryOfBlocks'. -/
def fnExactLibraryOfBlocksCard : Claim7 := { stood := { row := fnExactLibraryOfBlocksRow, standIns := [], harness := (true, "ee1ef4c2fc826092dfc75640660777f5749a1e2dc2b6ed5c70fd5b57d3d0ba8b"), looks := true }, kinds := [], alts := [], laidByText := true, laidKinds := [.data, .data, .data, .data, .sentinel, .sentinel, .pinned], laidTests := true, laidLooks := .later }
def FnExactLibraryOfBlocksCardSaid : Prop := Claim7.holds Tryz.pinned (.plain (OpenSpec.ofChange fnExactLibraryOfBlocksSpec)) fnExactLibraryOfBlocksCard

/-- THE TIED CARD OF 'laws.FnExactMelodyProblems'. -/
def fnExactMelodyProblemsCard : Claim7 := { stood := { row := fnExactMelodyProblemsRow, standIns := [], harness := (true, "ee1ef4c2fc826092dfc75640660777f5749a1e2dc2b6ed5c70fd5b57d3d0ba8b"), looks := true }, kinds := [], alts := [], laidByText := true, laidKinds := [.data, .data, .data], laidTests := true, laidLooks := .later }
def FnExactMelodyProblemsCardSaid : Prop := Claim7.holds Tryz.pinned (.plain (OpenSpec.ofChange fnExactMelodyProblemsSpec)) fnExactMelodyProblemsCard

/-- THE SECOND FORM's CARD OF 'laws.FnExactLibraryOfBlocks'. -/
def fnExactLibraryOfBlocksUptoCard : Claim7 := { stood := { row := fnExactLibraryOfBlocksUptoRow, standIns := [], harness := (true, "ee1ef4c2fc826092dfc75640660777f5749a1e2dc2b6ed5c70fd5b57d3d0ba8b"), looks := true }, kinds := [], alts := [], laidByText := true, laidKinds := [.data, .data, .data, .data, .sentinel, .sentinel, .pinned], laidTests := true, laidLooks := .later }
def FnExactLibraryOfBlocksUptoCardSaid : Prop := Claim7.holds Tryz.pinned (.plain (OpenSpec.upto fnExactLibraryOfBlocksSpec)) fnExactLibraryOfBlocksUptoCard

/-- THE SECOND FORM's CARD OF 'laws.FnExactMelodyProblems'. -/
def fnExactMelodyProblemsUptoCard : Claim7 := { stood := { row := fnExactMelodyProblemsUptoRow, standIns := [], harness := (true, "ee1ef4c2fc826092dfc75640660777f5749a1e2dc2b6ed5c70fd5b57d3d0ba8b"), looks := true }, kinds := [], alts := [], laidByText := true, laidKinds := [.data, .data, .data], laidTests := true, laidLooks := .later }
def FnExactMelodyProblemsUptoCardSaid : Prop := Claim7.holds Tryz.pinned (.plain (OpenSpec.upto fnExactMelodyProblemsSpec)) fnExactMelodyProblemsUptoCard
end Rows
end Go.Proofs.YtdedhldojkdceaaGreatDoor
