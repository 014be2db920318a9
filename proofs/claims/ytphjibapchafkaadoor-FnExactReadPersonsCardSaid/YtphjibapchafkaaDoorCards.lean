/-
  DERIVED. GIVEN WITH THE SEED: THE CARDS: each row of YtphjibapchafkaaDoorRows.lean that lists a variable, with what it lists TIED to the program's text (the seventh form; the later family's looks); each row that meets fmt, with fmt's text TOLD by the authors' own Lean function (tested against real Go, not proved from fmt's source: count such statements apart). THE CARD IS WHAT COUNTS. Prove the row's statement (the work); the ties are given (YtphjibapchafkaaDoorTie.lean); close each card by the builder's one call (the guide's Derived/Test/ToyasCard.lean, 'card_holds'). Laid BY PROGRAM, IN A SANDBOX (cutbox-door.mjs). By AI agents, Wed Nov 11 2026. No macro, syntax, notation, axiom, sorry.
-/
import Derived.Test.YtphjibapchafkaaDoorRows
import GoSem.ClaimSeven
namespace Go.Proofs.YtphjibapchafkaaDoor
namespace Rows

/-- THE TIED CARD OF 'laws.FnExactReadPersons'. -/
def fnExactReadPersonsCard : Claim7 := { stood := { row := fnExactReadPersonsRow, standIns := [], harness := (true, "8cdf73c7eb764b00c7aa074e3a40574e7504a3441f3af8ac52c1de49d3634555"), looks := true }, kinds := [], alts := [], laidByText := true, laidKinds := [.data, .data, .data, .data, .sentinel, .sentinel, .pinned], laidTests := true, laidLooks := .later }
def FnExactReadPersonsCardSaid : Prop := Claim7.holds Tryd.pinned (.plain (OpenSpec.ofChange fnExactReadPersonsSpec)) fnExactReadPersonsCard

/-- THE SECOND FORM's CARD OF 'laws.FnExactReadPersons'. -/
def fnExactReadPersonsUptoCard : Claim7 := { stood := { row := fnExactReadPersonsUptoRow, standIns := [], harness := (true, "8cdf73c7eb764b00c7aa074e3a40574e7504a3441f3af8ac52c1de49d3634555"), looks := true }, kinds := [], alts := [], laidByText := true, laidKinds := [.data, .data, .data, .data, .sentinel, .sentinel, .pinned], laidTests := true, laidLooks := .later }
def FnExactReadPersonsUptoCardSaid : Prop := Claim7.holds Tryd.pinned (.plain (OpenSpec.upto fnExactReadPersonsSpec)) fnExactReadPersonsUptoCard
end Rows
end Go.Proofs.YtphjibapchafkaaDoor
