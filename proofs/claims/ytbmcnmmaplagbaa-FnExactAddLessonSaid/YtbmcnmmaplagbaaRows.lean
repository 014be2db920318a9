/-
  No cell of these rows narrows 'for every input' (looked for: loops, veiled, ifaces, maps, wideKeys, modest, calm, conditions, laid).
  DERIVED. THE GIVEN ROWS OF THIS SEAT. 11 by the template 'for every input the law returns true; each argument reads behind the call as it read before'; 0 by the template 'total and deterministic' (their statements: YtbmcnmmaplagbaaTotals.lean).
  GIVEN WITH THE SEED: the statements are not yours to turn. If you find one false, say at which input.
  Laid BY PROGRAM, IN A SANDBOX (cutbox-rows.mjs): the forced cells as the released guide's own fill.sh prints them over the translation 0dc07b8e6e1c474d… (all of the seat's roots in one cut). By AI agents, Wed Nov 11 2026. No macro, syntax, notation, axiom, sorry.
-/
import Derived.Test.YtbmcnmmaplagbaaChecked
import GoSem.Claim
import GoSem.ClaimJoined
import GoSem.ClaimMapViews
import Derived.JoinedTies
import Derived.KernelRfl
namespace Go.Proofs.Ytbmcnmmaplagbaa
/- THE CELL 'sum', in the pinned program and in every row, IS THE sha256 OF THE DUMP (.gsa) THAT YtbmcnmmaplagbaaProg.lean LOADS. Nothing in Lean hashes anything: it is a label: what it is worth is what the hold of that sum in a sandbox is worth. -/
noncomputable def Try.pinned : Pinned := { name := "ytbmcnmmaplagbaa", sum := "0dc07b8e6e1c474d55e1b2d301d9468f64f44122345b15954af1833ca702261a", checked := Try.checked }
namespace Rows
def none {H : Type} : Left H := { results := [], args := [] }

/-- 'laws.FnExactCountLines': WHATEVER THE INPUT: true; the input reads as it did. -/
def fnExactCountLinesSpec : ChangeSpec := { name := "fnExactCountLines", fn := fun _ => fun
  | [d1, d2] => { results := [.lit (.bool true)], args := [d1, d2] }
  | _ => none }
def fnExactCountLinesRow : OpenClaim := { program := "ytbmcnmmaplagbaa", sum := "0dc07b8e6e1c474d55e1b2d301d9468f64f44122345b15954af1833ca702261a", func := "loop.example/g01033/laws.FnExactCountLines", spec := "fnExactCountLines", unfollowed := true, recurses := true, apart := false }
def FnExactCountLinesSaid : Prop := fnExactCountLinesRow.holds Try.pinned (OpenSpec.ofChange fnExactCountLinesSpec)

/-- ITS FALSE NEIGHBOUR: 'it returns false'. Refute it at one input. -/
def fnExactCountLinesWrong : ChangeSpec := { name := "fnExactCountLines", fn := fun _ => fun
  | [d1, d2] => { results := [.lit (.bool false)], args := [d1, d2] }
  | _ => none }
def FnExactCountLinesWrongFalsely : Prop := fnExactCountLinesRow.holds Try.pinned (OpenSpec.ofChange fnExactCountLinesWrong)

/-- 'laws.FnExactRelationOf': WHATEVER THE INPUT: true; the input reads as it did. -/
def fnExactRelationOfSpec : ChangeSpec := { name := "fnExactRelationOf", fn := fun _ => fun
  | [d1, d2, d3] => { results := [.lit (.bool true)], args := [d1, d2, d3] }
  | _ => none }
def fnExactRelationOfRow : OpenClaim := { program := "ytbmcnmmaplagbaa", sum := "0dc07b8e6e1c474d55e1b2d301d9468f64f44122345b15954af1833ca702261a", func := "loop.example/g01033/laws.FnExactRelationOf", spec := "fnExactRelationOf", unfollowed := true, recurses := true, apart := false }
def FnExactRelationOfSaid : Prop := fnExactRelationOfRow.holds Try.pinned (OpenSpec.ofChange fnExactRelationOfSpec)

/-- ITS FALSE NEIGHBOUR: 'it returns false'. Refute it at one input. -/
def fnExactRelationOfWrong : ChangeSpec := { name := "fnExactRelationOf", fn := fun _ => fun
  | [d1, d2, d3] => { results := [.lit (.bool false)], args := [d1, d2, d3] }
  | _ => none }
def FnExactRelationOfWrongFalsely : Prop := fnExactRelationOfRow.holds Try.pinned (OpenSpec.ofChange fnExactRelationOfWrong)

/-- 'laws.FnExactDropBlock': WHATEVER THE INPUT: true; the input reads as it did. -/
def fnExactDropBlockSpec : ChangeSpec := { name := "fnExactDropBlock", fn := fun _ => fun
  | [d1, d2, d3] => { results := [.lit (.bool true)], args := [d1, d2, d3] }
  | _ => none }
def fnExactDropBlockRow : OpenClaim := { program := "ytbmcnmmaplagbaa", sum := "0dc07b8e6e1c474d55e1b2d301d9468f64f44122345b15954af1833ca702261a", func := "loop.example/g01033/laws.FnExactDropBlock", spec := "fnExactDropBlock", inPlace := ["internal/bytealg.IndexByteString", "internal/bytealg.IndexString"], unfollowed := true, recurses := true, named := ["internal/bytealg.MaxLen"], apart := false }
def FnExactDropBlockSaid : Prop := fnExactDropBlockRow.holds Try.pinned (OpenSpec.ofChange fnExactDropBlockSpec)

/-- ITS FALSE NEIGHBOUR: 'it returns false'. Refute it at one input. -/
def fnExactDropBlockWrong : ChangeSpec := { name := "fnExactDropBlock", fn := fun _ => fun
  | [d1, d2, d3] => { results := [.lit (.bool false)], args := [d1, d2, d3] }
  | _ => none }
def FnExactDropBlockWrongFalsely : Prop := fnExactDropBlockRow.holds Try.pinned (OpenSpec.ofChange fnExactDropBlockWrong)

/-- 'laws.FnExactDepthOf': WHATEVER THE INPUT: true; the input reads as it did. -/
def fnExactDepthOfSpec : ChangeSpec := { name := "fnExactDepthOf", fn := fun _ => fun
  | [d1, d2] => { results := [.lit (.bool true)], args := [d1, d2] }
  | _ => none }
def fnExactDepthOfRow : OpenClaim := { program := "ytbmcnmmaplagbaa", sum := "0dc07b8e6e1c474d55e1b2d301d9468f64f44122345b15954af1833ca702261a", func := "loop.example/g01033/laws.FnExactDepthOf", spec := "fnExactDepthOf", unfollowed := true, recurses := true, apart := false }
def FnExactDepthOfSaid : Prop := fnExactDepthOfRow.holds Try.pinned (OpenSpec.ofChange fnExactDepthOfSpec)

/-- ITS FALSE NEIGHBOUR: 'it returns false'. Refute it at one input. -/
def fnExactDepthOfWrong : ChangeSpec := { name := "fnExactDepthOf", fn := fun _ => fun
  | [d1, d2] => { results := [.lit (.bool false)], args := [d1, d2] }
  | _ => none }
def FnExactDepthOfWrongFalsely : Prop := fnExactDepthOfRow.holds Try.pinned (OpenSpec.ofChange fnExactDepthOfWrong)

/-- 'laws.FnExactAddPerson': WHATEVER THE INPUT: true; the input reads as it did. -/
def fnExactAddPersonSpec : ChangeSpec := { name := "fnExactAddPerson", fn := fun _ => fun
  | [d1, d2] => { results := [.lit (.bool true)], args := [d1, d2] }
  | _ => none }
def fnExactAddPersonRow : OpenClaim := { program := "ytbmcnmmaplagbaa", sum := "0dc07b8e6e1c474d55e1b2d301d9468f64f44122345b15954af1833ca702261a", func := "loop.example/g01033/laws.FnExactAddPerson", spec := "fnExactAddPerson", inPlace := ["slices.overlaps[loop.example/g01033/impl.Person]"], unfollowed := true, recurses := true, apart := false }
def FnExactAddPersonSaid : Prop := fnExactAddPersonRow.holds Try.pinned (OpenSpec.ofChange fnExactAddPersonSpec)

/-- ITS FALSE NEIGHBOUR: 'it returns false'. Refute it at one input. -/
def fnExactAddPersonWrong : ChangeSpec := { name := "fnExactAddPerson", fn := fun _ => fun
  | [d1, d2] => { results := [.lit (.bool false)], args := [d1, d2] }
  | _ => none }
def FnExactAddPersonWrongFalsely : Prop := fnExactAddPersonRow.holds Try.pinned (OpenSpec.ofChange fnExactAddPersonWrong)

/-- 'laws.FnExactPutBlock': WHATEVER THE INPUT: true; the input reads as it did. -/
def fnExactPutBlockSpec : ChangeSpec := { name := "fnExactPutBlock", fn := fun _ => fun
  | [d1, d2] => { results := [.lit (.bool true)], args := [d1, d2] }
  | _ => none }
def fnExactPutBlockRow : OpenClaim := { program := "ytbmcnmmaplagbaa", sum := "0dc07b8e6e1c474d55e1b2d301d9468f64f44122345b15954af1833ca702261a", func := "loop.example/g01033/laws.FnExactPutBlock", spec := "fnExactPutBlock", inPlace := ["internal/bytealg.IndexByteString", "internal/bytealg.IndexString", "slices.overlaps[loop.example/g01033/impl.Block]"], unfollowed := true, recurses := true, named := ["internal/bytealg.MaxLen"], apart := false }
def FnExactPutBlockSaid : Prop := fnExactPutBlockRow.holds Try.pinned (OpenSpec.ofChange fnExactPutBlockSpec)

/-- ITS FALSE NEIGHBOUR: 'it returns false'. Refute it at one input. -/
def fnExactPutBlockWrong : ChangeSpec := { name := "fnExactPutBlock", fn := fun _ => fun
  | [d1, d2] => { results := [.lit (.bool false)], args := [d1, d2] }
  | _ => none }
def FnExactPutBlockWrongFalsely : Prop := fnExactPutBlockRow.holds Try.pinned (OpenSpec.ofChange fnExactPutBlockWrong)

/-- 'laws.FnExactMergeBlocks': WHATEVER THE INPUT: true; the input reads as it did. -/
def fnExactMergeBlocksSpec : ChangeSpec := { name := "fnExactMergeBlocks", fn := fun _ => fun
  | [d1, d2] => { results := [.lit (.bool true)], args := [d1, d2] }
  | _ => none }
def fnExactMergeBlocksRow : OpenClaim := { program := "ytbmcnmmaplagbaa", sum := "0dc07b8e6e1c474d55e1b2d301d9468f64f44122345b15954af1833ca702261a", func := "loop.example/g01033/laws.FnExactMergeBlocks", spec := "fnExactMergeBlocks", inPlace := ["internal/bytealg.IndexByteString", "internal/bytealg.IndexString", "slices.overlaps[loop.example/g01033/impl.Block]"], unfollowed := true, recurses := true, named := ["internal/bytealg.MaxLen"], apart := false }
def FnExactMergeBlocksSaid : Prop := fnExactMergeBlocksRow.holds Try.pinned (OpenSpec.ofChange fnExactMergeBlocksSpec)

/-- ITS FALSE NEIGHBOUR: 'it returns false'. Refute it at one input. -/
def fnExactMergeBlocksWrong : ChangeSpec := { name := "fnExactMergeBlocks", fn := fun _ => fun
  | [d1, d2] => { results := [.lit (.bool false)], args := [d1, d2] }
  | _ => none }
def FnExactMergeBlocksWrongFalsely : Prop := fnExactMergeBlocksRow.holds Try.pinned (OpenSpec.ofChange fnExactMergeBlocksWrong)

/-- 'laws.FnExactTeachersOf': WHATEVER THE INPUT: true; the input reads as it did. -/
def fnExactTeachersOfSpec : ChangeSpec := { name := "fnExactTeachersOf", fn := fun _ => fun
  | [d1, d2] => { results := [.lit (.bool true)], args := [d1, d2] }
  | _ => none }
def fnExactTeachersOfRow : OpenClaim := { program := "ytbmcnmmaplagbaa", sum := "0dc07b8e6e1c474d55e1b2d301d9468f64f44122345b15954af1833ca702261a", func := "loop.example/g01033/laws.FnExactTeachersOf", spec := "fnExactTeachersOf", unfollowed := true, recurses := true, apart := false }
def FnExactTeachersOfSaid : Prop := fnExactTeachersOfRow.holds Try.pinned (OpenSpec.ofChange fnExactTeachersOfSpec)

/-- ITS FALSE NEIGHBOUR: 'it returns false'. Refute it at one input. -/
def fnExactTeachersOfWrong : ChangeSpec := { name := "fnExactTeachersOf", fn := fun _ => fun
  | [d1, d2] => { results := [.lit (.bool false)], args := [d1, d2] }
  | _ => none }
def FnExactTeachersOfWrongFalsely : Prop := fnExactTeachersOfRow.holds Try.pinned (OpenSpec.ofChange fnExactTeachersOfWrong)

/-- 'laws.FnExactPupilsUnder': WHATEVER THE INPUT: true; the input reads as it did. -/
def fnExactPupilsUnderSpec : ChangeSpec := { name := "fnExactPupilsUnder", fn := fun _ => fun
  | [d1, d2] => { results := [.lit (.bool true)], args := [d1, d2] }
  | _ => none }
def fnExactPupilsUnderRow : OpenClaim := { program := "ytbmcnmmaplagbaa", sum := "0dc07b8e6e1c474d55e1b2d301d9468f64f44122345b15954af1833ca702261a", func := "loop.example/g01033/laws.FnExactPupilsUnder", spec := "fnExactPupilsUnder", unfollowed := true, recurses := true, apart := false }
def FnExactPupilsUnderSaid : Prop := fnExactPupilsUnderRow.holds Try.pinned (OpenSpec.ofChange fnExactPupilsUnderSpec)

/-- ITS FALSE NEIGHBOUR: 'it returns false'. Refute it at one input. -/
def fnExactPupilsUnderWrong : ChangeSpec := { name := "fnExactPupilsUnder", fn := fun _ => fun
  | [d1, d2] => { results := [.lit (.bool false)], args := [d1, d2] }
  | _ => none }
def FnExactPupilsUnderWrongFalsely : Prop := fnExactPupilsUnderRow.holds Try.pinned (OpenSpec.ofChange fnExactPupilsUnderWrong)

/-- 'laws.FnExactCommonTeachers': WHATEVER THE INPUT: true; the input reads as it did. -/
def fnExactCommonTeachersSpec : ChangeSpec := { name := "fnExactCommonTeachers", fn := fun _ => fun
  | [d1, d2, d3] => { results := [.lit (.bool true)], args := [d1, d2, d3] }
  | _ => none }
def fnExactCommonTeachersRow : OpenClaim := { program := "ytbmcnmmaplagbaa", sum := "0dc07b8e6e1c474d55e1b2d301d9468f64f44122345b15954af1833ca702261a", func := "loop.example/g01033/laws.FnExactCommonTeachers", spec := "fnExactCommonTeachers", unfollowed := true, recurses := true, apart := false }
def FnExactCommonTeachersSaid : Prop := fnExactCommonTeachersRow.holds Try.pinned (OpenSpec.ofChange fnExactCommonTeachersSpec)

/-- ITS FALSE NEIGHBOUR: 'it returns false'. Refute it at one input. -/
def fnExactCommonTeachersWrong : ChangeSpec := { name := "fnExactCommonTeachers", fn := fun _ => fun
  | [d1, d2, d3] => { results := [.lit (.bool false)], args := [d1, d2, d3] }
  | _ => none }
def FnExactCommonTeachersWrongFalsely : Prop := fnExactCommonTeachersRow.holds Try.pinned (OpenSpec.ofChange fnExactCommonTeachersWrong)

/-- 'laws.FnExactAddLesson': WHATEVER THE INPUT: true; the input reads as it did. -/
def fnExactAddLessonSpec : ChangeSpec := { name := "fnExactAddLesson", fn := fun _ => fun
  | [d1, d2] => { results := [.lit (.bool true)], args := [d1, d2] }
  | _ => none }
def fnExactAddLessonRow : OpenClaim := { program := "ytbmcnmmaplagbaa", sum := "0dc07b8e6e1c474d55e1b2d301d9468f64f44122345b15954af1833ca702261a", func := "loop.example/g01033/laws.FnExactAddLesson", spec := "fnExactAddLesson", inPlace := ["slices.overlaps[loop.example/g01033/impl.Lesson]"], unfollowed := true, recurses := true, apart := false }
def FnExactAddLessonSaid : Prop := fnExactAddLessonRow.holds Try.pinned (OpenSpec.ofChange fnExactAddLessonSpec)

/-- ITS FALSE NEIGHBOUR: 'it returns false'. Refute it at one input. -/
def fnExactAddLessonWrong : ChangeSpec := { name := "fnExactAddLesson", fn := fun _ => fun
  | [d1, d2] => { results := [.lit (.bool false)], args := [d1, d2] }
  | _ => none }
def FnExactAddLessonWrongFalsely : Prop := fnExactAddLessonRow.holds Try.pinned (OpenSpec.ofChange fnExactAddLessonWrong)

/- THE SECOND FORM. 'bulk': how many values and letters a reading holds, each counted each time it is reached (what is shared counts as often as it is met; a slice's spare places count too). A statement '..UptoSaid' is the law's where the arguments, and the package variables that the reading takes, are together of bulk at most 1048576: NARROWER than '..Said'. Prove '..Said' where nothing that the law and all that it calls make is longer than what came in: it says more and counts as full. Else prove '..UptoSaid'. A law counts once. -/
mutual
def uptoBulk {H : Type} : DataW H → Nat
  | .lit (.string bytes) => bytes.length + 1
  | .lit _ => 1
  | .nil => 1
  | .ptr d => uptoBulk d + 1
  | .slice elems spare => uptoBulkAll elems + uptoBulkAll spare + 1
  | .agg parts => uptoBulkAll parts + 1
  | .iface _ d => uptoBulk d + 1
  | .map entries => uptoBulkEntries entries + 1
  | .held _ => 1
def uptoBulkAll {H : Type} : List (DataW H) → Nat
  | [] => 0
  | d :: r => uptoBulk d + uptoBulkAll r
def uptoBulkEntries {H : Type} : List (Lit × DataW H) → Nat
  | [] => 0
  | x :: r => uptoBulkEntry x + uptoBulkEntries r
def uptoBulkEntry {H : Type} : Lit × DataW H → Nat
  | (.string bytes, d) => bytes.length + uptoBulk d + 1
  | (_, d) => uptoBulk d + 1
 end
def uptoSmall : (H : Type) → List (DataW H) → Bool := fun _ ds => decide (uptoBulkAll ds ≤ 1048576)
def OpenSpec.upto (s : _root_.Go.ChangeSpec) : _root_.Go.OpenSpec := { _root_.Go.OpenSpec.ofChange s with cond := some uptoSmall }

/-- 'laws.FnExactCountLines', WHERE WHAT IT READS IS OF BULK AT MOST 1048576: true; the input reads as it did. -/
def fnExactCountLinesUptoRow : OpenClaim := { program := "ytbmcnmmaplagbaa", sum := "0dc07b8e6e1c474d55e1b2d301d9468f64f44122345b15954af1833ca702261a", func := "loop.example/g01033/laws.FnExactCountLines", spec := "fnExactCountLines", unfollowed := true, recurses := true, apart := false, narrowed := true }
def FnExactCountLinesUptoSaid : Prop := fnExactCountLinesUptoRow.holds Try.pinned (OpenSpec.upto fnExactCountLinesSpec)

/-- 'laws.FnExactRelationOf', WHERE WHAT IT READS IS OF BULK AT MOST 1048576: true; the input reads as it did. -/
def fnExactRelationOfUptoRow : OpenClaim := { program := "ytbmcnmmaplagbaa", sum := "0dc07b8e6e1c474d55e1b2d301d9468f64f44122345b15954af1833ca702261a", func := "loop.example/g01033/laws.FnExactRelationOf", spec := "fnExactRelationOf", unfollowed := true, recurses := true, apart := false, narrowed := true }
def FnExactRelationOfUptoSaid : Prop := fnExactRelationOfUptoRow.holds Try.pinned (OpenSpec.upto fnExactRelationOfSpec)

/-- 'laws.FnExactDropBlock', WHERE WHAT IT READS IS OF BULK AT MOST 1048576: true; the input reads as it did. -/
def fnExactDropBlockUptoRow : OpenClaim := { program := "ytbmcnmmaplagbaa", sum := "0dc07b8e6e1c474d55e1b2d301d9468f64f44122345b15954af1833ca702261a", func := "loop.example/g01033/laws.FnExactDropBlock", spec := "fnExactDropBlock", inPlace := ["internal/bytealg.IndexByteString", "internal/bytealg.IndexString"], unfollowed := true, recurses := true, named := ["internal/bytealg.MaxLen"], apart := false, narrowed := true }
def FnExactDropBlockUptoSaid : Prop := fnExactDropBlockUptoRow.holds Try.pinned (OpenSpec.upto fnExactDropBlockSpec)

/-- 'laws.FnExactDepthOf', WHERE WHAT IT READS IS OF BULK AT MOST 1048576: true; the input reads as it did. -/
def fnExactDepthOfUptoRow : OpenClaim := { program := "ytbmcnmmaplagbaa", sum := "0dc07b8e6e1c474d55e1b2d301d9468f64f44122345b15954af1833ca702261a", func := "loop.example/g01033/laws.FnExactDepthOf", spec := "fnExactDepthOf", unfollowed := true, recurses := true, apart := false, narrowed := true }
def FnExactDepthOfUptoSaid : Prop := fnExactDepthOfUptoRow.holds Try.pinned (OpenSpec.upto fnExactDepthOfSpec)

/-- 'laws.FnExactAddPerson', WHERE WHAT IT READS IS OF BULK AT MOST 1048576: true; the input reads as it did. -/
def fnExactAddPersonUptoRow : OpenClaim := { program := "ytbmcnmmaplagbaa", sum := "0dc07b8e6e1c474d55e1b2d301d9468f64f44122345b15954af1833ca702261a", func := "loop.example/g01033/laws.FnExactAddPerson", spec := "fnExactAddPerson", inPlace := ["slices.overlaps[loop.example/g01033/impl.Person]"], unfollowed := true, recurses := true, apart := false, narrowed := true }
def FnExactAddPersonUptoSaid : Prop := fnExactAddPersonUptoRow.holds Try.pinned (OpenSpec.upto fnExactAddPersonSpec)

/-- 'laws.FnExactPutBlock', WHERE WHAT IT READS IS OF BULK AT MOST 1048576: true; the input reads as it did. -/
def fnExactPutBlockUptoRow : OpenClaim := { program := "ytbmcnmmaplagbaa", sum := "0dc07b8e6e1c474d55e1b2d301d9468f64f44122345b15954af1833ca702261a", func := "loop.example/g01033/laws.FnExactPutBlock", spec := "fnExactPutBlock", inPlace := ["internal/bytealg.IndexByteString", "internal/bytealg.IndexString", "slices.overlaps[loop.example/g01033/impl.Block]"], unfollowed := true, recurses := true, named := ["internal/bytealg.MaxLen"], apart := false, narrowed := true }
def FnExactPutBlockUptoSaid : Prop := fnExactPutBlockUptoRow.holds Try.pinned (OpenSpec.upto fnExactPutBlockSpec)

/-- 'laws.FnExactMergeBlocks', WHERE WHAT IT READS IS OF BULK AT MOST 1048576: true; the input reads as it did. -/
def fnExactMergeBlocksUptoRow : OpenClaim := { program := "ytbmcnmmaplagbaa", sum := "0dc07b8e6e1c474d55e1b2d301d9468f64f44122345b15954af1833ca702261a", func := "loop.example/g01033/laws.FnExactMergeBlocks", spec := "fnExactMergeBlocks", inPlace := ["internal/bytealg.IndexByteString", "internal/bytealg.IndexString", "slices.overlaps[loop.example/g01033/impl.Block]"], unfollowed := true, recurses := true, named := ["internal/bytealg.MaxLen"], apart := false, narrowed := true }
def FnExactMergeBlocksUptoSaid : Prop := fnExactMergeBlocksUptoRow.holds Try.pinned (OpenSpec.upto fnExactMergeBlocksSpec)

/-- 'laws.FnExactTeachersOf', WHERE WHAT IT READS IS OF BULK AT MOST 1048576: true; the input reads as it did. -/
def fnExactTeachersOfUptoRow : OpenClaim := { program := "ytbmcnmmaplagbaa", sum := "0dc07b8e6e1c474d55e1b2d301d9468f64f44122345b15954af1833ca702261a", func := "loop.example/g01033/laws.FnExactTeachersOf", spec := "fnExactTeachersOf", unfollowed := true, recurses := true, apart := false, narrowed := true }
def FnExactTeachersOfUptoSaid : Prop := fnExactTeachersOfUptoRow.holds Try.pinned (OpenSpec.upto fnExactTeachersOfSpec)

/-- 'laws.FnExactPupilsUnder', WHERE WHAT IT READS IS OF BULK AT MOST 1048576: true; the input reads as it did. -/
def fnExactPupilsUnderUptoRow : OpenClaim := { program := "ytbmcnmmaplagbaa", sum := "0dc07b8e6e1c474d55e1b2d301d9468f64f44122345b15954af1833ca702261a", func := "loop.example/g01033/laws.FnExactPupilsUnder", spec := "fnExactPupilsUnder", unfollowed := true, recurses := true, apart := false, narrowed := true }
def FnExactPupilsUnderUptoSaid : Prop := fnExactPupilsUnderUptoRow.holds Try.pinned (OpenSpec.upto fnExactPupilsUnderSpec)

/-- 'laws.FnExactCommonTeachers', WHERE WHAT IT READS IS OF BULK AT MOST 1048576: true; the input reads as it did. -/
def fnExactCommonTeachersUptoRow : OpenClaim := { program := "ytbmcnmmaplagbaa", sum := "0dc07b8e6e1c474d55e1b2d301d9468f64f44122345b15954af1833ca702261a", func := "loop.example/g01033/laws.FnExactCommonTeachers", spec := "fnExactCommonTeachers", unfollowed := true, recurses := true, apart := false, narrowed := true }
def FnExactCommonTeachersUptoSaid : Prop := fnExactCommonTeachersUptoRow.holds Try.pinned (OpenSpec.upto fnExactCommonTeachersSpec)

/-- 'laws.FnExactAddLesson', WHERE WHAT IT READS IS OF BULK AT MOST 1048576: true; the input reads as it did. -/
def fnExactAddLessonUptoRow : OpenClaim := { program := "ytbmcnmmaplagbaa", sum := "0dc07b8e6e1c474d55e1b2d301d9468f64f44122345b15954af1833ca702261a", func := "loop.example/g01033/laws.FnExactAddLesson", spec := "fnExactAddLesson", inPlace := ["slices.overlaps[loop.example/g01033/impl.Lesson]"], unfollowed := true, recurses := true, apart := false, narrowed := true }
def FnExactAddLessonUptoSaid : Prop := fnExactAddLessonUptoRow.holds Try.pinned (OpenSpec.upto fnExactAddLessonSpec)

end Rows
end Go.Proofs.Ytbmcnmmaplagbaa
