/-
  DERIVED. GIVEN WITH THE SEED: THE CARDS: each row of YtcklbccpfpnmbaaGreatDoorRows.lean that lists a variable, with what it lists TIED to the program's text (the seventh form; the later family's looks); each row that meets fmt, with fmt's text TOLD by the authors' own Lean function (tested against real Go, not proved from fmt's source: count such statements apart). THE CARD IS WHAT COUNTS. Prove the row's statement (the work); the ties are given (YtcklbccpfpnmbaaGreatDoorTie.lean); close each card by the builder's one call (the guide's Derived/Test/ToyasCard.lean, 'card_holds'). Laid BY PROGRAM, IN A SANDBOX (cutbox-door.mjs). By AI agents, Wed Nov 11 2026. No macro, syntax, notation, axiom, sorry.
-/
import Derived.Test.YtcklbccpfpnmbaaGreatDoorRows
import GoSem.ClaimSeven
namespace Go.Proofs.YtcklbccpfpnmbaaGreatDoor
namespace Rows

/-- THE TIED CARD OF 'laws.FnExactDeskReport'. -/
def fnExactDeskReportCard : Claim7 := { stood := { row := fnExactDeskReportRow, standIns := [], harness := (true, "7afd71d880a11ae4aabc4835e5d031565bd793e93c57e18642c4260b22cb0f21"), looks := false }, kinds := [], alts := [], laidByText := true, laidKinds := [.data, .data, .data], laidTests := true, laidLooks := .later }
def FnExactDeskReportCardSaid : Prop := Claim7.holds Tryz.pinned (.plain (OpenSpec.ofChange fnExactDeskReportSpec)) fnExactDeskReportCard

/-- THE SECOND FORM's CARD OF 'laws.FnExactDeskReport'. -/
def fnExactDeskReportUptoCard : Claim7 := { stood := { row := fnExactDeskReportUptoRow, standIns := [], harness := (true, "7afd71d880a11ae4aabc4835e5d031565bd793e93c57e18642c4260b22cb0f21"), looks := false }, kinds := [], alts := [], laidByText := true, laidKinds := [.data, .data, .data], laidTests := true, laidLooks := .later }
def FnExactDeskReportUptoCardSaid : Prop := Claim7.holds Tryz.pinned (.plain (OpenSpec.upto fnExactDeskReportSpec)) fnExactDeskReportUptoCard
end Rows
end Go.Proofs.YtcklbccpfpnmbaaGreatDoor
