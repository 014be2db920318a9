/-
  DERIVED. GIVEN WITH THE SEED: THE CARDS: each row of YthcojmhjnbebdaaDoorRows.lean that lists a variable, with what it lists TIED to the program's text (the seventh form; the later family's looks); each row that meets fmt, with fmt's text TOLD by the authors' own Lean function (tested against real Go, not proved from fmt's source: count such statements apart). THE CARD IS WHAT COUNTS. Prove the row's statement (the work); the ties are given (YthcojmhjnbebdaaDoorTie.lean); close each card by the builder's one call (the guide's Derived/Test/ToyasCard.lean, 'card_holds'). Laid BY PROGRAM, IN A SANDBOX (cutbox-door.mjs). By AI agents, Wed Nov 11 2026. No macro, syntax, notation, axiom, sorry.
-/
import Derived.Test.YthcojmhjnbebdaaDoorRows
import GoSem.ClaimSeven
namespace Go.Proofs.YthcojmhjnbebdaaDoor
namespace Rows

/-- THE TIED CARD OF 'laws.FnExactPersonsText'. -/
def fnExactPersonsTextCard : Claim7 := { stood := { row := fnExactPersonsTextRow, standIns := [], harness := (true, "3d35a6929385e04528f58eebbc9d4e34f6e5c0d12ac8a527c74a6a091fb50a00"), looks := true }, kinds := [], alts := [], laidByText := true, laidKinds := [.data, .data, .data], laidTests := true, laidLooks := .later }
def FnExactPersonsTextCardSaid : Prop := Claim7.holds Tryd.pinned (.plain (OpenSpec.ofChange fnExactPersonsTextSpec)) fnExactPersonsTextCard

/-- THE TIED CARD OF 'laws.FnExactSaveBlocks'. -/
def fnExactSaveBlocksCard : Claim7 := { stood := { row := fnExactSaveBlocksRow, standIns := [], harness := (true, "3d35a6929385e04528f58eebbc9d4e34f6e5c0d12ac8a527c74a6a091fb50a00"), looks := true }, kinds := [], alts := [], laidByText := true, laidKinds := [.data, .data, .data], laidTests := true, laidLooks := .later }
def FnExactSaveBlocksCardSaid : Prop := Claim7.holds Tryd.pinned (.plain (OpenSpec.ofChange fnExactSaveBlocksSpec)) fnExactSaveBlocksCard

/-- THE TIED CARD OF 'laws.FnExactDamagedLines'. -/
def fnExactDamagedLinesCard : Claim7 := { stood := { row := fnExactDamagedLinesRow, standIns := [], harness := (true, "3d35a6929385e04528f58eebbc9d4e34f6e5c0d12ac8a527c74a6a091fb50a00"), looks := true }, kinds := [], alts := [], laidByText := true, laidKinds := [.data, .data, .data, .data, .pinned], laidTests := true, laidLooks := .later }
def FnExactDamagedLinesCardSaid : Prop := Claim7.holds Tryd.pinned (.plain (OpenSpec.ofChange fnExactDamagedLinesSpec)) fnExactDamagedLinesCard

/-- THE TIED CARD OF 'laws.FnExactReadLesson'. -/
def fnExactReadLessonCard : Claim7 := { stood := { row := fnExactReadLessonRow, standIns := [], harness := (true, "3d35a6929385e04528f58eebbc9d4e34f6e5c0d12ac8a527c74a6a091fb50a00"), looks := true }, kinds := [], alts := [], laidByText := true, laidKinds := [.data, .data, .data, .data, .sentinel, .sentinel, .pinned], laidTests := true, laidLooks := .later }
def FnExactReadLessonCardSaid : Prop := Claim7.holds Tryd.pinned (.plain (OpenSpec.ofChange fnExactReadLessonSpec)) fnExactReadLessonCard

/-- THE TIED CARD OF 'laws.FnExactReadPersons'. -/
def fnExactReadPersonsCard : Claim7 := { stood := { row := fnExactReadPersonsRow, standIns := [], harness := (true, "3d35a6929385e04528f58eebbc9d4e34f6e5c0d12ac8a527c74a6a091fb50a00"), looks := true }, kinds := [], alts := [], laidByText := true, laidKinds := [.data, .data, .data, .data, .sentinel, .sentinel, .pinned], laidTests := true, laidLooks := .later }
def FnExactReadPersonsCardSaid : Prop := Claim7.holds Tryd.pinned (.plain (OpenSpec.ofChange fnExactReadPersonsSpec)) fnExactReadPersonsCard

/-- THE TIED CARD OF 'laws.FnExactSalvageBlocks'. -/
def fnExactSalvageBlocksCard : Claim7 := { stood := { row := fnExactSalvageBlocksRow, standIns := [], harness := (true, "3d35a6929385e04528f58eebbc9d4e34f6e5c0d12ac8a527c74a6a091fb50a00"), looks := true }, kinds := [], alts := [], laidByText := true, laidKinds := [.data, .data, .data, .data, .pinned], laidTests := true, laidLooks := .later }
def FnExactSalvageBlocksCardSaid : Prop := Claim7.holds Tryd.pinned (.plain (OpenSpec.ofChange fnExactSalvageBlocksSpec)) fnExactSalvageBlocksCard

/-- THE TIED CARD OF 'laws.FnExactBlocksOfLibrary'. -/
def fnExactBlocksOfLibraryCard : Claim7 := { stood := { row := fnExactBlocksOfLibraryRow, standIns := [], harness := (true, "3d35a6929385e04528f58eebbc9d4e34f6e5c0d12ac8a527c74a6a091fb50a00"), looks := true }, kinds := [], alts := [], laidByText := true, laidKinds := [.data, .data, .data], laidTests := true, laidLooks := .later }
def FnExactBlocksOfLibraryCardSaid : Prop := Claim7.holds Tryd.pinned (.plain (OpenSpec.ofChange fnExactBlocksOfLibrarySpec)) fnExactBlocksOfLibraryCard

/-- THE TIED CARD OF 'laws.FnExactReadPattern'. -/
def fnExactReadPatternCard : Claim7 := { stood := { row := fnExactReadPatternRow, standIns := [], harness := (true, "3d35a6929385e04528f58eebbc9d4e34f6e5c0d12ac8a527c74a6a091fb50a00"), looks := true }, kinds := [], alts := [], laidByText := true, laidKinds := [.data, .data, .data, .data, .sentinel, .sentinel, .pinned], laidTests := true, laidLooks := .later }
def FnExactReadPatternCardSaid : Prop := Claim7.holds Tryd.pinned (.plain (OpenSpec.ofChange fnExactReadPatternSpec)) fnExactReadPatternCard

/-- THE SECOND FORM's CARD OF 'laws.FnExactPersonsText'. -/
def fnExactPersonsTextUptoCard : Claim7 := { stood := { row := fnExactPersonsTextUptoRow, standIns := [], harness := (true, "3d35a6929385e04528f58eebbc9d4e34f6e5c0d12ac8a527c74a6a091fb50a00"), looks := true }, kinds := [], alts := [], laidByText := true, laidKinds := [.data, .data, .data], laidTests := true, laidLooks := .later }
def FnExactPersonsTextUptoCardSaid : Prop := Claim7.holds Tryd.pinned (.plain (OpenSpec.upto fnExactPersonsTextSpec)) fnExactPersonsTextUptoCard

/-- THE SECOND FORM's CARD OF 'laws.FnExactSaveBlocks'. -/
def fnExactSaveBlocksUptoCard : Claim7 := { stood := { row := fnExactSaveBlocksUptoRow, standIns := [], harness := (true, "3d35a6929385e04528f58eebbc9d4e34f6e5c0d12ac8a527c74a6a091fb50a00"), looks := true }, kinds := [], alts := [], laidByText := true, laidKinds := [.data, .data, .data], laidTests := true, laidLooks := .later }
def FnExactSaveBlocksUptoCardSaid : Prop := Claim7.holds Tryd.pinned (.plain (OpenSpec.upto fnExactSaveBlocksSpec)) fnExactSaveBlocksUptoCard

/-- THE SECOND FORM's CARD OF 'laws.FnExactDamagedLines'. -/
def fnExactDamagedLinesUptoCard : Claim7 := { stood := { row := fnExactDamagedLinesUptoRow, standIns := [], harness := (true, "3d35a6929385e04528f58eebbc9d4e34f6e5c0d12ac8a527c74a6a091fb50a00"), looks := true }, kinds := [], alts := [], laidByText := true, laidKinds := [.data, .data, .data, .data, .pinned], laidTests := true, laidLooks := .later }
def FnExactDamagedLinesUptoCardSaid : Prop := Claim7.holds Tryd.pinned (.plain (OpenSpec.upto fnExactDamagedLinesSpec)) fnExactDamagedLinesUptoCard

/-- THE SECOND FORM's CARD OF 'laws.FnExactReadLesson'. -/
def fnExactReadLessonUptoCard : Claim7 := { stood := { row := fnExactReadLessonUptoRow, standIns := [], harness := (true, "3d35a6929385e04528f58eebbc9d4e34f6e5c0d12ac8a527c74a6a091fb50a00"), looks := true }, kinds := [], alts := [], laidByText := true, laidKinds := [.data, .data, .data, .data, .sentinel, .sentinel, .pinned], laidTests := true, laidLooks := .later }
def FnExactReadLessonUptoCardSaid : Prop := Claim7.holds Tryd.pinned (.plain (OpenSpec.upto fnExactReadLessonSpec)) fnExactReadLessonUptoCard

/-- THE SECOND FORM's CARD OF 'laws.FnExactReadPersons'. -/
def fnExactReadPersonsUptoCard : Claim7 := { stood := { row := fnExactReadPersonsUptoRow, standIns := [], harness := (true, "3d35a6929385e04528f58eebbc9d4e34f6e5c0d12ac8a527c74a6a091fb50a00"), looks := true }, kinds := [], alts := [], laidByText := true, laidKinds := [.data, .data, .data, .data, .sentinel, .sentinel, .pinned], laidTests := true, laidLooks := .later }
def FnExactReadPersonsUptoCardSaid : Prop := Claim7.holds Tryd.pinned (.plain (OpenSpec.upto fnExactReadPersonsSpec)) fnExactReadPersonsUptoCard

/-- THE SECOND FORM's CARD OF 'laws.FnExactSalvageBlocks'. -/
def fnExactSalvageBlocksUptoCard : Claim7 := { stood := { row := fnExactSalvageBlocksUptoRow, standIns := [], harness := (true, "3d35a6929385e04528f58eebbc9d4e34f6e5c0d12ac8a527c74a6a091fb50a00"), looks := true }, kinds := [], alts := [], laidByText := true, laidKinds := [.data, .data, .data, .data, .pinned], laidTests := true, laidLooks := .later }
def FnExactSalvageBlocksUptoCardSaid : Prop := Claim7.holds Tryd.pinned (.plain (OpenSpec.upto fnExactSalvageBlocksSpec)) fnExactSalvageBlocksUptoCard

/-- THE SECOND FORM's CARD OF 'laws.FnExactBlocksOfLibrary'. -/
def fnExactBlocksOfLibraryUptoCard : Claim7 := { stood := { row := fnExactBlocksOfLibraryUptoRow, standIns := [], harness := (true, "3d35a6929385e04528f58eebbc9d4e34f6e5c0d12ac8a527c74a6a091fb50a00"), looks := true }, kinds := [], alts := [], laidByText := true, laidKinds := [.data, .data, .data], laidTests := true, laidLooks := .later }
def FnExactBlocksOfLibraryUptoCardSaid : Prop := Claim7.holds Tryd.pinned (.plain (OpenSpec.upto fnExactBlocksOfLibrarySpec)) fnExactBlocksOfLibraryUptoCard

/-- THE SECOND FORM's CARD OF 'laws.FnExactReadPattern'. -/
def fnExactReadPatternUptoCard : Claim7 := { stood := { row := fnExactReadPatternUptoRow, standIns := [], harness := (true, "3d35a6929385e04528f58eebbc9d4e34f6e5c0d12ac8a527c74a6a091fb50a00"), looks := true }, kinds := [], alts := [], laidByText := true, laidKinds := [.data, .data, .data, .data, .sentinel, .sentinel, .pinned], laidTests := true, laidLooks := .later }
def FnExactReadPatternUptoCardSaid : Prop := Claim7.holds Tryd.pinned (.plain (OpenSpec.upto fnExactReadPatternSpec)) fnExactReadPatternUptoCard
end Rows
end Go.Proofs.YthcojmhjnbebdaaDoor
