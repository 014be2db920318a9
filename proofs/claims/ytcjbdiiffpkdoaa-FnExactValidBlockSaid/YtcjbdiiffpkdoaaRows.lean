/-
  No cell of these rows narrows 'for every input' (looked for: loops, veiled, ifaces, maps, wideKeys, modest, calm, conditions, laid).
  DERIVED. THE GIVEN ROWS OF THIS SEAT. 12 by the template 'for every input the law returns true; each argument reads behind the call as it read before'; 0 by the template 'total and deterministic' (their statements: YtcjbdiiffpkdoaaTotals.lean).
  GIVEN WITH THE SEED: the statements are not yours to turn. If you find one false, say at which input.
  Laid BY PROGRAM, IN A SANDBOX (cutbox-rows.mjs): the forced cells as the released guide's own fill.sh prints them over the translation 7c5b29efc19649e0… (all of the seat's roots in one cut). By AI agents, Wed Nov 11 2026. No macro, syntax, notation, axiom, sorry.
-/
import Derived.Test.YtcjbdiiffpkdoaaChecked
import GoSem.Claim
import GoSem.ClaimJoined
import GoSem.ClaimMapViews
import Derived.JoinedTies
import Derived.KernelRfl
namespace Go.Proofs.Ytcjbdiiffpkdoaa
/- THE CELL 'sum', in the pinned program and in every row, IS THE sha256 OF THE DUMP (.gsa) THAT YtcjbdiiffpkdoaaProg.lean LOADS. Nothing in Lean hashes anything: it is a label: what it is worth is what the hold of that sum in a sandbox is worth. -/
noncomputable def Try.pinned : Pinned := { name := "ytcjbdiiffpkdoaa", sum := "7c5b29efc19649e0b5670fc3372e1d55dd87095f689047e9a97496466e2c5560", checked := Try.checked }
namespace Rows
def none {H : Type} : Left H := { results := [], args := [] }

/-- 'laws.FnExactProblemName': WHATEVER THE INPUT: true; the input reads as it did. -/
def fnExactProblemNameSpec : ChangeSpec := { name := "fnExactProblemName", fn := fun _ => fun
  | [d] => { results := [.lit (.bool true)], args := [d] }
  | _ => none }
def fnExactProblemNameRow : OpenClaim := { program := "ytcjbdiiffpkdoaa", sum := "7c5b29efc19649e0b5670fc3372e1d55dd87095f689047e9a97496466e2c5560", func := "loop.example/g01033/laws.FnExactProblemName", spec := "fnExactProblemName", apart := false }
def FnExactProblemNameSaid : Prop := fnExactProblemNameRow.holds Try.pinned (OpenSpec.ofChange fnExactProblemNameSpec)

/-- ITS FALSE NEIGHBOUR: 'it returns false'. Refute it at one input. -/
def fnExactProblemNameWrong : ChangeSpec := { name := "fnExactProblemName", fn := fun _ => fun
  | [d] => { results := [.lit (.bool false)], args := [d] }
  | _ => none }
def FnExactProblemNameWrongFalsely : Prop := fnExactProblemNameRow.holds Try.pinned (OpenSpec.ofChange fnExactProblemNameWrong)

/-- 'laws.FnExactProblemText': WHATEVER THE INPUT: true; the input reads as it did. -/
def fnExactProblemTextSpec : ChangeSpec := { name := "fnExactProblemText", fn := fun _ => fun
  | [d] => { results := [.lit (.bool true)], args := [d] }
  | _ => none }
def fnExactProblemTextRow : OpenClaim := { program := "ytcjbdiiffpkdoaa", sum := "7c5b29efc19649e0b5670fc3372e1d55dd87095f689047e9a97496466e2c5560", func := "loop.example/g01033/laws.FnExactProblemText", spec := "fnExactProblemText", apart := false }
def FnExactProblemTextSaid : Prop := fnExactProblemTextRow.holds Try.pinned (OpenSpec.ofChange fnExactProblemTextSpec)

/-- ITS FALSE NEIGHBOUR: 'it returns false'. Refute it at one input. -/
def fnExactProblemTextWrong : ChangeSpec := { name := "fnExactProblemText", fn := fun _ => fun
  | [d] => { results := [.lit (.bool false)], args := [d] }
  | _ => none }
def FnExactProblemTextWrongFalsely : Prop := fnExactProblemTextRow.holds Try.pinned (OpenSpec.ofChange fnExactProblemTextWrong)

/-- 'laws.FnExactSameBlocks': WHATEVER THE INPUT: true; the input reads as it did. -/
def fnExactSameBlocksSpec : ChangeSpec := { name := "fnExactSameBlocks", fn := fun _ => fun
  | [d1, d2] => { results := [.lit (.bool true)], args := [d1, d2] }
  | _ => none }
def fnExactSameBlocksRow : OpenClaim := { program := "ytcjbdiiffpkdoaa", sum := "7c5b29efc19649e0b5670fc3372e1d55dd87095f689047e9a97496466e2c5560", func := "loop.example/g01033/laws.FnExactSameBlocks", spec := "fnExactSameBlocks", apart := false }
def FnExactSameBlocksSaid : Prop := fnExactSameBlocksRow.holds Try.pinned (OpenSpec.ofChange fnExactSameBlocksSpec)

/-- ITS FALSE NEIGHBOUR: 'it returns false'. Refute it at one input. -/
def fnExactSameBlocksWrong : ChangeSpec := { name := "fnExactSameBlocks", fn := fun _ => fun
  | [d1, d2] => { results := [.lit (.bool false)], args := [d1, d2] }
  | _ => none }
def FnExactSameBlocksWrongFalsely : Prop := fnExactSameBlocksRow.holds Try.pinned (OpenSpec.ofChange fnExactSameBlocksWrong)

/-- 'laws.FnExactCountProblems': WHATEVER THE INPUT: true; the input reads as it did. -/
def fnExactCountProblemsSpec : ChangeSpec := { name := "fnExactCountProblems", fn := fun _ => fun
  | [d] => { results := [.lit (.bool true)], args := [d] }
  | _ => none }
def fnExactCountProblemsRow : OpenClaim := { program := "ytcjbdiiffpkdoaa", sum := "7c5b29efc19649e0b5670fc3372e1d55dd87095f689047e9a97496466e2c5560", func := "loop.example/g01033/laws.FnExactCountProblems", spec := "fnExactCountProblems", apart := false }
def FnExactCountProblemsSaid : Prop := fnExactCountProblemsRow.holds Try.pinned (OpenSpec.ofChange fnExactCountProblemsSpec)

/-- ITS FALSE NEIGHBOUR: 'it returns false'. Refute it at one input. -/
def fnExactCountProblemsWrong : ChangeSpec := { name := "fnExactCountProblems", fn := fun _ => fun
  | [d] => { results := [.lit (.bool false)], args := [d] }
  | _ => none }
def FnExactCountProblemsWrongFalsely : Prop := fnExactCountProblemsRow.holds Try.pinned (OpenSpec.ofChange fnExactCountProblemsWrong)

/-- 'laws.FnExactSamePersons': WHATEVER THE INPUT: true; the input reads as it did. -/
def fnExactSamePersonsSpec : ChangeSpec := { name := "fnExactSamePersons", fn := fun _ => fun
  | [d1, d2] => { results := [.lit (.bool true)], args := [d1, d2] }
  | _ => none }
def fnExactSamePersonsRow : OpenClaim := { program := "ytcjbdiiffpkdoaa", sum := "7c5b29efc19649e0b5670fc3372e1d55dd87095f689047e9a97496466e2c5560", func := "loop.example/g01033/laws.FnExactSamePersons", spec := "fnExactSamePersons", unfollowed := true, recurses := true, apart := false }
def FnExactSamePersonsSaid : Prop := fnExactSamePersonsRow.holds Try.pinned (OpenSpec.ofChange fnExactSamePersonsSpec)

/-- ITS FALSE NEIGHBOUR: 'it returns false'. Refute it at one input. -/
def fnExactSamePersonsWrong : ChangeSpec := { name := "fnExactSamePersons", fn := fun _ => fun
  | [d1, d2] => { results := [.lit (.bool false)], args := [d1, d2] }
  | _ => none }
def FnExactSamePersonsWrongFalsely : Prop := fnExactSamePersonsRow.holds Try.pinned (OpenSpec.ofChange fnExactSamePersonsWrong)

/-- 'laws.FnExactValidBlock': WHATEVER THE INPUT: true; the input reads as it did. -/
def fnExactValidBlockSpec : ChangeSpec := { name := "fnExactValidBlock", fn := fun _ => fun
  | [d] => { results := [.lit (.bool true)], args := [d] }
  | _ => none }
def fnExactValidBlockRow : OpenClaim := { program := "ytcjbdiiffpkdoaa", sum := "7c5b29efc19649e0b5670fc3372e1d55dd87095f689047e9a97496466e2c5560", func := "loop.example/g01033/laws.FnExactValidBlock", spec := "fnExactValidBlock", inPlace := ["internal/bytealg.IndexByteString", "internal/bytealg.IndexString"], named := ["internal/bytealg.MaxLen"], apart := false }
def FnExactValidBlockSaid : Prop := fnExactValidBlockRow.holds Try.pinned (OpenSpec.ofChange fnExactValidBlockSpec)

/-- ITS FALSE NEIGHBOUR: 'it returns false'. Refute it at one input. -/
def fnExactValidBlockWrong : ChangeSpec := { name := "fnExactValidBlock", fn := fun _ => fun
  | [d] => { results := [.lit (.bool false)], args := [d] }
  | _ => none }
def FnExactValidBlockWrongFalsely : Prop := fnExactValidBlockRow.holds Try.pinned (OpenSpec.ofChange fnExactValidBlockWrong)

/-- 'laws.FnExactValidPersons': WHATEVER THE INPUT: true; the input reads as it did. -/
def fnExactValidPersonsSpec : ChangeSpec := { name := "fnExactValidPersons", fn := fun _ => fun
  | [d] => { results := [.lit (.bool true)], args := [d] }
  | _ => none }
def fnExactValidPersonsRow : OpenClaim := { program := "ytcjbdiiffpkdoaa", sum := "7c5b29efc19649e0b5670fc3372e1d55dd87095f689047e9a97496466e2c5560", func := "loop.example/g01033/laws.FnExactValidPersons", spec := "fnExactValidPersons", unfollowed := true, recurses := true, apart := false }
def FnExactValidPersonsSaid : Prop := fnExactValidPersonsRow.holds Try.pinned (OpenSpec.ofChange fnExactValidPersonsSpec)

/-- ITS FALSE NEIGHBOUR: 'it returns false'. Refute it at one input. -/
def fnExactValidPersonsWrong : ChangeSpec := { name := "fnExactValidPersons", fn := fun _ => fun
  | [d] => { results := [.lit (.bool false)], args := [d] }
  | _ => none }
def FnExactValidPersonsWrongFalsely : Prop := fnExactValidPersonsRow.holds Try.pinned (OpenSpec.ofChange fnExactValidPersonsWrong)

/-- 'laws.FnExactValidLibrary': WHATEVER THE INPUT: true; the input reads as it did. -/
def fnExactValidLibrarySpec : ChangeSpec := { name := "fnExactValidLibrary", fn := fun _ => fun
  | [d] => { results := [.lit (.bool true)], args := [d] }
  | _ => none }
def fnExactValidLibraryRow : OpenClaim := { program := "ytcjbdiiffpkdoaa", sum := "7c5b29efc19649e0b5670fc3372e1d55dd87095f689047e9a97496466e2c5560", func := "loop.example/g01033/laws.FnExactValidLibrary", spec := "fnExactValidLibrary", apart := false }
def FnExactValidLibrarySaid : Prop := fnExactValidLibraryRow.holds Try.pinned (OpenSpec.ofChange fnExactValidLibrarySpec)

/-- ITS FALSE NEIGHBOUR: 'it returns false'. Refute it at one input. -/
def fnExactValidLibraryWrong : ChangeSpec := { name := "fnExactValidLibrary", fn := fun _ => fun
  | [d] => { results := [.lit (.bool false)], args := [d] }
  | _ => none }
def FnExactValidLibraryWrongFalsely : Prop := fnExactValidLibraryRow.holds Try.pinned (OpenSpec.ofChange fnExactValidLibraryWrong)

/-- 'laws.FnExactCountLines': WHATEVER THE INPUT: true; the input reads as it did. -/
def fnExactCountLinesSpec : ChangeSpec := { name := "fnExactCountLines", fn := fun _ => fun
  | [d1, d2] => { results := [.lit (.bool true)], args := [d1, d2] }
  | _ => none }
def fnExactCountLinesRow : OpenClaim := { program := "ytcjbdiiffpkdoaa", sum := "7c5b29efc19649e0b5670fc3372e1d55dd87095f689047e9a97496466e2c5560", func := "loop.example/g01033/laws.FnExactCountLines", spec := "fnExactCountLines", unfollowed := true, recurses := true, apart := false }
def FnExactCountLinesSaid : Prop := fnExactCountLinesRow.holds Try.pinned (OpenSpec.ofChange fnExactCountLinesSpec)

/-- ITS FALSE NEIGHBOUR: 'it returns false'. Refute it at one input. -/
def fnExactCountLinesWrong : ChangeSpec := { name := "fnExactCountLines", fn := fun _ => fun
  | [d1, d2] => { results := [.lit (.bool false)], args := [d1, d2] }
  | _ => none }
def FnExactCountLinesWrongFalsely : Prop := fnExactCountLinesRow.holds Try.pinned (OpenSpec.ofChange fnExactCountLinesWrong)

/-- 'laws.FnExactLineFrom': WHATEVER THE INPUT: true; the input reads as it did. -/
def fnExactLineFromSpec : ChangeSpec := { name := "fnExactLineFrom", fn := fun _ => fun
  | [d1, d2] => { results := [.lit (.bool true)], args := [d1, d2] }
  | _ => none }
def fnExactLineFromRow : OpenClaim := { program := "ytcjbdiiffpkdoaa", sum := "7c5b29efc19649e0b5670fc3372e1d55dd87095f689047e9a97496466e2c5560", func := "loop.example/g01033/laws.FnExactLineFrom", spec := "fnExactLineFrom", unfollowed := true, recurses := true, apart := false }
def FnExactLineFromSaid : Prop := fnExactLineFromRow.holds Try.pinned (OpenSpec.ofChange fnExactLineFromSpec)

/-- ITS FALSE NEIGHBOUR: 'it returns false'. Refute it at one input. -/
def fnExactLineFromWrong : ChangeSpec := { name := "fnExactLineFrom", fn := fun _ => fun
  | [d1, d2] => { results := [.lit (.bool false)], args := [d1, d2] }
  | _ => none }
def FnExactLineFromWrongFalsely : Prop := fnExactLineFromRow.holds Try.pinned (OpenSpec.ofChange fnExactLineFromWrong)

/-- 'laws.FnExactRelationOf': WHATEVER THE INPUT: true; the input reads as it did. -/
def fnExactRelationOfSpec : ChangeSpec := { name := "fnExactRelationOf", fn := fun _ => fun
  | [d1, d2, d3] => { results := [.lit (.bool true)], args := [d1, d2, d3] }
  | _ => none }
def fnExactRelationOfRow : OpenClaim := { program := "ytcjbdiiffpkdoaa", sum := "7c5b29efc19649e0b5670fc3372e1d55dd87095f689047e9a97496466e2c5560", func := "loop.example/g01033/laws.FnExactRelationOf", spec := "fnExactRelationOf", unfollowed := true, recurses := true, apart := false }
def FnExactRelationOfSaid : Prop := fnExactRelationOfRow.holds Try.pinned (OpenSpec.ofChange fnExactRelationOfSpec)

/-- ITS FALSE NEIGHBOUR: 'it returns false'. Refute it at one input. -/
def fnExactRelationOfWrong : ChangeSpec := { name := "fnExactRelationOf", fn := fun _ => fun
  | [d1, d2, d3] => { results := [.lit (.bool false)], args := [d1, d2, d3] }
  | _ => none }
def FnExactRelationOfWrongFalsely : Prop := fnExactRelationOfRow.holds Try.pinned (OpenSpec.ofChange fnExactRelationOfWrong)

/-- 'laws.FnExactValidBlocks': WHATEVER THE INPUT: true; the input reads as it did. -/
def fnExactValidBlocksSpec : ChangeSpec := { name := "fnExactValidBlocks", fn := fun _ => fun
  | [d] => { results := [.lit (.bool true)], args := [d] }
  | _ => none }
def fnExactValidBlocksRow : OpenClaim := { program := "ytcjbdiiffpkdoaa", sum := "7c5b29efc19649e0b5670fc3372e1d55dd87095f689047e9a97496466e2c5560", func := "loop.example/g01033/laws.FnExactValidBlocks", spec := "fnExactValidBlocks", inPlace := ["internal/bytealg.IndexByteString", "internal/bytealg.IndexString"], named := ["internal/bytealg.MaxLen"], apart := false }
def FnExactValidBlocksSaid : Prop := fnExactValidBlocksRow.holds Try.pinned (OpenSpec.ofChange fnExactValidBlocksSpec)

/-- ITS FALSE NEIGHBOUR: 'it returns false'. Refute it at one input. -/
def fnExactValidBlocksWrong : ChangeSpec := { name := "fnExactValidBlocks", fn := fun _ => fun
  | [d] => { results := [.lit (.bool false)], args := [d] }
  | _ => none }
def FnExactValidBlocksWrongFalsely : Prop := fnExactValidBlocksRow.holds Try.pinned (OpenSpec.ofChange fnExactValidBlocksWrong)

/- THE SECOND FORM. 'bulk': how many values and letters a reading holds, each counted each time it is reached (what is shared counts as often as it is met; a slice's spare places count too). A statement '..UptoSaid' is the law's where the arguments, and the package variables that the reading takes, are together of bulk at most 1048576: NARROWER than '..Said'. Prove '..Said' where nothing that the law and all that it calls make is longer than what came in: it says more and counts as full. Else prove '..UptoSaid'. A law counts once. -/
mutual
def uptoBulk {H : Type} : DataW H → Nat
  | .lit (.string bytes) => bytes.length + 1
  | .lit _ => 1
  | .nil => 1
  | .ptr d => uptoBulk d + 1
  | .slice elems spare => uptoBulkAll elems + uptoBulkAll spare + 1
  | .agg parts => uptoBulkAll parts + 1
  | .iface _ d => uptoBulk d + 1
  | .map entries => uptoBulkEntries entries + 1
  | .held _ => 1
def uptoBulkAll {H : Type} : List (DataW H) → Nat
  | [] => 0
  | d :: r => uptoBulk d + uptoBulkAll r
def uptoBulkEntries {H : Type} : List (Lit × DataW H) → Nat
  | [] => 0
  | x :: r => uptoBulkEntry x + uptoBulkEntries r
def uptoBulkEntry {H : Type} : Lit × DataW H → Nat
  | (.string bytes, d) => bytes.length + uptoBulk d + 1
  | (_, d) => uptoBulk d + 1
 end
def uptoSmall : (H : Type) → List (DataW H) → Bool := fun _ ds => decide (uptoBulkAll ds ≤ 1048576)
def OpenSpec.upto (s : _root_.Go.ChangeSpec) : _root_.Go.OpenSpec := { _root_.Go.OpenSpec.ofChange s with cond := some uptoSmall }

/-- 'laws.FnExactProblemName', WHERE WHAT IT READS IS OF BULK AT MOST 1048576: true; the input reads as it did. -/
def fnExactProblemNameUptoRow : OpenClaim := { program := "ytcjbdiiffpkdoaa", sum := "7c5b29efc19649e0b5670fc3372e1d55dd87095f689047e9a97496466e2c5560", func := "loop.example/g01033/laws.FnExactProblemName", spec := "fnExactProblemName", apart := false, narrowed := true }
def FnExactProblemNameUptoSaid : Prop := fnExactProblemNameUptoRow.holds Try.pinned (OpenSpec.upto fnExactProblemNameSpec)

/-- 'laws.FnExactProblemText', WHERE WHAT IT READS IS OF BULK AT MOST 1048576: true; the input reads as it did. -/
def fnExactProblemTextUptoRow : OpenClaim := { program := "ytcjbdiiffpkdoaa", sum := "7c5b29efc19649e0b5670fc3372e1d55dd87095f689047e9a97496466e2c5560", func := "loop.example/g01033/laws.FnExactProblemText", spec := "fnExactProblemText", apart := false, narrowed := true }
def FnExactProblemTextUptoSaid : Prop := fnExactProblemTextUptoRow.holds Try.pinned (OpenSpec.upto fnExactProblemTextSpec)

/-- 'laws.FnExactSameBlocks', WHERE WHAT IT READS IS OF BULK AT MOST 1048576: true; the input reads as it did. -/
def fnExactSameBlocksUptoRow : OpenClaim := { program := "ytcjbdiiffpkdoaa", sum := "7c5b29efc19649e0b5670fc3372e1d55dd87095f689047e9a97496466e2c5560", func := "loop.example/g01033/laws.FnExactSameBlocks", spec := "fnExactSameBlocks", apart := false, narrowed := true }
def FnExactSameBlocksUptoSaid : Prop := fnExactSameBlocksUptoRow.holds Try.pinned (OpenSpec.upto fnExactSameBlocksSpec)

/-- 'laws.FnExactCountProblems', WHERE WHAT IT READS IS OF BULK AT MOST 1048576: true; the input reads as it did. -/
def fnExactCountProblemsUptoRow : OpenClaim := { program := "ytcjbdiiffpkdoaa", sum := "7c5b29efc19649e0b5670fc3372e1d55dd87095f689047e9a97496466e2c5560", func := "loop.example/g01033/laws.FnExactCountProblems", spec := "fnExactCountProblems", apart := false, narrowed := true }
def FnExactCountProblemsUptoSaid : Prop := fnExactCountProblemsUptoRow.holds Try.pinned (OpenSpec.upto fnExactCountProblemsSpec)

/-- 'laws.FnExactSamePersons', WHERE WHAT IT READS IS OF BULK AT MOST 1048576: true; the input reads as it did. -/
def fnExactSamePersonsUptoRow : OpenClaim := { program := "ytcjbdiiffpkdoaa", sum := "7c5b29efc19649e0b5670fc3372e1d55dd87095f689047e9a97496466e2c5560", func := "loop.example/g01033/laws.FnExactSamePersons", spec := "fnExactSamePersons", unfollowed := true, recurses := true, apart := false, narrowed := true }
def FnExactSamePersonsUptoSaid : Prop := fnExactSamePersonsUptoRow.holds Try.pinned (OpenSpec.upto fnExactSamePersonsSpec)

/-- 'laws.FnExactValidBlock', WHERE WHAT IT READS IS OF BULK AT MOST 1048576: true; the input reads as it did. -/
def fnExactValidBlockUptoRow : OpenClaim := { program := "ytcjbdiiffpkdoaa", sum := "7c5b29efc19649e0b5670fc3372e1d55dd87095f689047e9a97496466e2c5560", func := "loop.example/g01033/laws.FnExactValidBlock", spec := "fnExactValidBlock", inPlace := ["internal/bytealg.IndexByteString", "internal/bytealg.IndexString"], named := ["internal/bytealg.MaxLen"], apart := false, narrowed := true }
def FnExactValidBlockUptoSaid : Prop := fnExactValidBlockUptoRow.holds Try.pinned (OpenSpec.upto fnExactValidBlockSpec)

/-- 'laws.FnExactValidPersons', WHERE WHAT IT READS IS OF BULK AT MOST 1048576: true; the input reads as it did. -/
def fnExactValidPersonsUptoRow : OpenClaim := { program := "ytcjbdiiffpkdoaa", sum := "7c5b29efc19649e0b5670fc3372e1d55dd87095f689047e9a97496466e2c5560", func := "loop.example/g01033/laws.FnExactValidPersons", spec := "fnExactValidPersons", unfollowed := true, recurses := true, apart := false, narrowed := true }
def FnExactValidPersonsUptoSaid : Prop := fnExactValidPersonsUptoRow.holds Try.pinned (OpenSpec.upto fnExactValidPersonsSpec)

/-- 'laws.FnExactValidLibrary', WHERE WHAT IT READS IS OF BULK AT MOST 1048576: true; the input reads as it did. -/
def fnExactValidLibraryUptoRow : OpenClaim := { program := "ytcjbdiiffpkdoaa", sum := "7c5b29efc19649e0b5670fc3372e1d55dd87095f689047e9a97496466e2c5560", func := "loop.example/g01033/laws.FnExactValidLibrary", spec := "fnExactValidLibrary", apart := false, narrowed := true }
def FnExactValidLibraryUptoSaid : Prop := fnExactValidLibraryUptoRow.holds Try.pinned (OpenSpec.upto fnExactValidLibrarySpec)

/-- 'laws.FnExactCountLines', WHERE WHAT IT READS IS OF BULK AT MOST 1048576: true; the input reads as it did. -/
def fnExactCountLinesUptoRow : OpenClaim := { program := "ytcjbdiiffpkdoaa", sum := "7c5b29efc19649e0b5670fc3372e1d55dd87095f689047e9a97496466e2c5560", func := "loop.example/g01033/laws.FnExactCountLines", spec := "fnExactCountLines", unfollowed := true, recurses := true, apart := false, narrowed := true }
def FnExactCountLinesUptoSaid : Prop := fnExactCountLinesUptoRow.holds Try.pinned (OpenSpec.upto fnExactCountLinesSpec)

/-- 'laws.FnExactLineFrom', WHERE WHAT IT READS IS OF BULK AT MOST 1048576: true; the input reads as it did. -/
def fnExactLineFromUptoRow : OpenClaim := { program := "ytcjbdiiffpkdoaa", sum := "7c5b29efc19649e0b5670fc3372e1d55dd87095f689047e9a97496466e2c5560", func := "loop.example/g01033/laws.FnExactLineFrom", spec := "fnExactLineFrom", unfollowed := true, recurses := true, apart := false, narrowed := true }
def FnExactLineFromUptoSaid : Prop := fnExactLineFromUptoRow.holds Try.pinned (OpenSpec.upto fnExactLineFromSpec)

/-- 'laws.FnExactRelationOf', WHERE WHAT IT READS IS OF BULK AT MOST 1048576: true; the input reads as it did. -/
def fnExactRelationOfUptoRow : OpenClaim := { program := "ytcjbdiiffpkdoaa", sum := "7c5b29efc19649e0b5670fc3372e1d55dd87095f689047e9a97496466e2c5560", func := "loop.example/g01033/laws.FnExactRelationOf", spec := "fnExactRelationOf", unfollowed := true, recurses := true, apart := false, narrowed := true }
def FnExactRelationOfUptoSaid : Prop := fnExactRelationOfUptoRow.holds Try.pinned (OpenSpec.upto fnExactRelationOfSpec)

/-- 'laws.FnExactValidBlocks', WHERE WHAT IT READS IS OF BULK AT MOST 1048576: true; the input reads as it did. -/
def fnExactValidBlocksUptoRow : OpenClaim := { program := "ytcjbdiiffpkdoaa", sum := "7c5b29efc19649e0b5670fc3372e1d55dd87095f689047e9a97496466e2c5560", func := "loop.example/g01033/laws.FnExactValidBlocks", spec := "fnExactValidBlocks", inPlace := ["internal/bytealg.IndexByteString", "internal/bytealg.IndexString"], named := ["internal/bytealg.MaxLen"], apart := false, narrowed := true }
def FnExactValidBlocksUptoSaid : Prop := fnExactValidBlocksUptoRow.holds Try.pinned (OpenSpec.upto fnExactValidBlocksSpec)

end Rows
end Go.Proofs.Ytcjbdiiffpkdoaa
