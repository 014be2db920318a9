/-
  DERIVED. GIVEN WITH THE SEED: THE CARDS: each row of YtkfkofohmlpmkaaDoorRows.lean that lists a variable, with what it lists TIED to the program's text (the seventh form; the later family's looks); each row that meets fmt, with fmt's text TOLD by the authors' own Lean function (tested against real Go, not proved from fmt's source: count such statements apart). THE CARD IS WHAT COUNTS. Prove the row's statement (the work); the ties are given (YtkfkofohmlpmkaaDoorTie.lean); close each card by the builder's one call (the guide's Derived/Test/ToyasCard.lean, 'card_holds'). Laid BY PROGRAM, IN A SANDBOX (cutbox-door.mjs). By AI agents, Wed Nov 11 2026. No macro, syntax, notation, axiom, sorry.
-/
import Derived.Test.YtkfkofohmlpmkaaDoorRows
import GoSem.ClaimSeven
namespace Go.Proofs.YtkfkofohmlpmkaaDoor
namespace Rows

/-- THE TIED CARD OF 'laws.FnExactPersonsText'. -/
def fnExactPersonsTextCard : Claim7 := { stood := { row := fnExactPersonsTextRow, standIns := [], harness := (true, "ff799ef2d1866da1d5f17cd13ad4e73ff96252c435decb64924afb175cc9de78"), looks := true }, kinds := [], alts := [], laidByText := true, laidKinds := [.data, .data, .data], laidTests := true, laidLooks := .later }
def FnExactPersonsTextCardSaid : Prop := Claim7.holds Tryd.pinned (.plain (OpenSpec.ofChange fnExactPersonsTextSpec)) fnExactPersonsTextCard

/-- THE TIED CARD OF 'laws.FnExactReadPersons'. -/
def fnExactReadPersonsCard : Claim7 := { stood := { row := fnExactReadPersonsRow, standIns := [], harness := (true, "ff799ef2d1866da1d5f17cd13ad4e73ff96252c435decb64924afb175cc9de78"), looks := true }, kinds := [], alts := [], laidByText := true, laidKinds := [.data, .data, .data, .data, .sentinel, .sentinel, .pinned], laidTests := true, laidLooks := .later }
def FnExactReadPersonsCardSaid : Prop := Claim7.holds Tryd.pinned (.plain (OpenSpec.ofChange fnExactReadPersonsSpec)) fnExactReadPersonsCard

/-- THE SECOND FORM's CARD OF 'laws.FnExactPersonsText'. -/
def fnExactPersonsTextUptoCard : Claim7 := { stood := { row := fnExactPersonsTextUptoRow, standIns := [], harness := (true, "ff799ef2d1866da1d5f17cd13ad4e73ff96252c435decb64924afb175cc9de78"), looks := true }, kinds := [], alts := [], laidByText := true, laidKinds := [.data, .data, .data], laidTests := true, laidLooks := .later }
def FnExactPersonsTextUptoCardSaid : Prop := Claim7.holds Tryd.pinned (.plain (OpenSpec.upto fnExactPersonsTextSpec)) fnExactPersonsTextUptoCard

/-- THE SECOND FORM's CARD OF 'laws.FnExactReadPersons'. -/
def fnExactReadPersonsUptoCard : Claim7 := { stood := { row := fnExactReadPersonsUptoRow, standIns := [], harness := (true, "ff799ef2d1866da1d5f17cd13ad4e73ff96252c435decb64924afb175cc9de78"), looks := true }, kinds := [], alts := [], laidByText := true, laidKinds := [.data, .data, .data, .data, .sentinel, .sentinel, .pinned], laidTests := true, laidLooks := .later }
def FnExactReadPersonsUptoCardSaid : Prop := Claim7.holds Tryd.pinned (.plain (OpenSpec.upto fnExactReadPersonsSpec)) fnExactReadPersonsUptoCard
end Rows
end Go.Proofs.YtkfkofohmlpmkaaDoor
