/-
  DERIVED. GIVEN WITH THE SEED: THE CARDS: each row of YtikfkniplbeeeaaGreatDoorRows.lean that lists a variable, with what it lists TIED to the program's text (the seventh form; the later family's looks); each row that meets fmt, with fmt's text TOLD by the authors' own Lean function (tested against real Go, not proved from fmt's source: count such statements apart). THE CARD IS WHAT COUNTS. Prove the row's statement (the work); the ties are given (YtikfkniplbeeeaaGreatDoorTie.lean); close each card by the builder's one call (the guide's Derived/Test/ToyasCard.lean, 'card_holds'). Laid BY PROGRAM, IN A SANDBOX (cutbox-door.mjs). By AI agents, Wed Nov 11 2026. No macro, syntax, notation, axiom, sorry.
-/
import Derived.Test.YtikfkniplbeeeaaGreatDoorRows
import GoSem.ClaimSeven
namespace Go.Proofs.YtikfkniplbeeeaaGreatDoor
namespace Rows

/-- THE TIED CARD OF 'laws.FnExactPlayerProblems'. -/
def fnExactPlayerProblemsCard : Claim7 := { stood := { row := fnExactPlayerProblemsRow, standIns := [], harness := (true, "b12c34457834fbed2e120027671228b0608744649c55573bbcf57a45589e51f7"), looks := false }, kinds := [], alts := [], laidByText := true, laidKinds := [.data, .data, .data], laidTests := true, laidLooks := .later }
def FnExactPlayerProblemsCardSaid : Prop := Claim7.holds Tryz.pinned (.plain (OpenSpec.ofChange fnExactPlayerProblemsSpec)) fnExactPlayerProblemsCard

/-- THE SECOND FORM's CARD OF 'laws.FnExactPlayerProblems'. -/
def fnExactPlayerProblemsUptoCard : Claim7 := { stood := { row := fnExactPlayerProblemsUptoRow, standIns := [], harness := (true, "b12c34457834fbed2e120027671228b0608744649c55573bbcf57a45589e51f7"), looks := false }, kinds := [], alts := [], laidByText := true, laidKinds := [.data, .data, .data], laidTests := true, laidLooks := .later }
def FnExactPlayerProblemsUptoCardSaid : Prop := Claim7.holds Tryz.pinned (.plain (OpenSpec.upto fnExactPlayerProblemsSpec)) fnExactPlayerProblemsUptoCard
end Rows
end Go.Proofs.YtikfkniplbeeeaaGreatDoor
