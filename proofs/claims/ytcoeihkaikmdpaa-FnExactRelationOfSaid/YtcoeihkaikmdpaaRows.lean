/-
  No cell of these rows narrows 'for every input' (looked for: loops, veiled, ifaces, maps, wideKeys, modest, calm, conditions, laid).
  DERIVED. THE GIVEN ROWS OF THIS SEAT. 8 by the template 'for every input the law returns true; each argument reads behind the call as it read before'; 0 by the template 'total and deterministic' (their statements: YtcoeihkaikmdpaaTotals.lean).
  GIVEN WITH THE SEED: the statements are not yours to turn. If you find one false, say at which input.
  Laid BY PROGRAM, IN A SANDBOX (cutbox-rows.mjs): the forced cells as the released guide's own fill.sh prints them over the translation f1e135a7cfe7fac7… (all of the seat's roots in one cut). By AI agents, Wed Nov 11 2026. No macro, syntax, notation, axiom, sorry.
-/
import Derived.Test.YtcoeihkaikmdpaaChecked
import GoSem.Claim
import GoSem.ClaimJoined
import GoSem.ClaimMapViews
import Derived.JoinedTies
import Derived.KernelRfl
namespace Go.Proofs.Ytcoeihkaikmdpaa
/- THE CELL 'sum', in the pinned program and in every row, IS THE sha256 OF THE DUMP (.gsa) THAT YtcoeihkaikmdpaaProg.lean LOADS. Nothing in Lean hashes anything: it is a label: what it is worth is what the hold of that sum in a sandbox is worth. -/
noncomputable def Try.pinned : Pinned := { name := "ytcoeihkaikmdpaa", sum := "f1e135a7cfe7fac7044361866c87f199e9c22c60df394fbfeca448ed0f3672ce", checked := Try.checked }
namespace Rows
def none {H : Type} : Left H := { results := [], args := [] }

/-- 'laws.FnExactCountLines': WHATEVER THE INPUT: true; the input reads as it did. -/
def fnExactCountLinesSpec : ChangeSpec := { name := "fnExactCountLines", fn := fun _ => fun
  | [d1, d2] => { results := [.lit (.bool true)], args := [d1, d2] }
  | _ => none }
def fnExactCountLinesRow : OpenClaim := { program := "ytcoeihkaikmdpaa", sum := "f1e135a7cfe7fac7044361866c87f199e9c22c60df394fbfeca448ed0f3672ce", func := "loop.example/g01033/laws.FnExactCountLines", spec := "fnExactCountLines", unfollowed := true, recurses := true, apart := false }
def FnExactCountLinesSaid : Prop := fnExactCountLinesRow.holds Try.pinned (OpenSpec.ofChange fnExactCountLinesSpec)

/-- ITS FALSE NEIGHBOUR: 'it returns false'. Refute it at one input. -/
def fnExactCountLinesWrong : ChangeSpec := { name := "fnExactCountLines", fn := fun _ => fun
  | [d1, d2] => { results := [.lit (.bool false)], args := [d1, d2] }
  | _ => none }
def FnExactCountLinesWrongFalsely : Prop := fnExactCountLinesRow.holds Try.pinned (OpenSpec.ofChange fnExactCountLinesWrong)

/-- 'laws.FnExactRelationOf': WHATEVER THE INPUT: true; the input reads as it did. -/
def fnExactRelationOfSpec : ChangeSpec := { name := "fnExactRelationOf", fn := fun _ => fun
  | [d1, d2, d3] => { results := [.lit (.bool true)], args := [d1, d2, d3] }
  | _ => none }
def fnExactRelationOfRow : OpenClaim := { program := "ytcoeihkaikmdpaa", sum := "f1e135a7cfe7fac7044361866c87f199e9c22c60df394fbfeca448ed0f3672ce", func := "loop.example/g01033/laws.FnExactRelationOf", spec := "fnExactRelationOf", unfollowed := true, recurses := true, apart := false }
def FnExactRelationOfSaid : Prop := fnExactRelationOfRow.holds Try.pinned (OpenSpec.ofChange fnExactRelationOfSpec)

/-- ITS FALSE NEIGHBOUR: 'it returns false'. Refute it at one input. -/
def fnExactRelationOfWrong : ChangeSpec := { name := "fnExactRelationOf", fn := fun _ => fun
  | [d1, d2, d3] => { results := [.lit (.bool false)], args := [d1, d2, d3] }
  | _ => none }
def FnExactRelationOfWrongFalsely : Prop := fnExactRelationOfRow.holds Try.pinned (OpenSpec.ofChange fnExactRelationOfWrong)

/-- 'laws.FnExactDepthOf': WHATEVER THE INPUT: true; the input reads as it did. -/
def fnExactDepthOfSpec : ChangeSpec := { name := "fnExactDepthOf", fn := fun _ => fun
  | [d1, d2] => { results := [.lit (.bool true)], args := [d1, d2] }
  | _ => none }
def fnExactDepthOfRow : OpenClaim := { program := "ytcoeihkaikmdpaa", sum := "f1e135a7cfe7fac7044361866c87f199e9c22c60df394fbfeca448ed0f3672ce", func := "loop.example/g01033/laws.FnExactDepthOf", spec := "fnExactDepthOf", unfollowed := true, recurses := true, apart := false }
def FnExactDepthOfSaid : Prop := fnExactDepthOfRow.holds Try.pinned (OpenSpec.ofChange fnExactDepthOfSpec)

/-- ITS FALSE NEIGHBOUR: 'it returns false'. Refute it at one input. -/
def fnExactDepthOfWrong : ChangeSpec := { name := "fnExactDepthOf", fn := fun _ => fun
  | [d1, d2] => { results := [.lit (.bool false)], args := [d1, d2] }
  | _ => none }
def FnExactDepthOfWrongFalsely : Prop := fnExactDepthOfRow.holds Try.pinned (OpenSpec.ofChange fnExactDepthOfWrong)

/-- 'laws.FnExactAddPerson': WHATEVER THE INPUT: true; the input reads as it did. -/
def fnExactAddPersonSpec : ChangeSpec := { name := "fnExactAddPerson", fn := fun _ => fun
  | [d1, d2] => { results := [.lit (.bool true)], args := [d1, d2] }
  | _ => none }
def fnExactAddPersonRow : OpenClaim := { program := "ytcoeihkaikmdpaa", sum := "f1e135a7cfe7fac7044361866c87f199e9c22c60df394fbfeca448ed0f3672ce", func := "loop.example/g01033/laws.FnExactAddPerson", spec := "fnExactAddPerson", inPlace := ["slices.overlaps[loop.example/g01033/impl.Person]"], unfollowed := true, recurses := true, apart := false }
def FnExactAddPersonSaid : Prop := fnExactAddPersonRow.holds Try.pinned (OpenSpec.ofChange fnExactAddPersonSpec)

/-- ITS FALSE NEIGHBOUR: 'it returns false'. Refute it at one input. -/
def fnExactAddPersonWrong : ChangeSpec := { name := "fnExactAddPerson", fn := fun _ => fun
  | [d1, d2] => { results := [.lit (.bool false)], args := [d1, d2] }
  | _ => none }
def FnExactAddPersonWrongFalsely : Prop := fnExactAddPersonRow.holds Try.pinned (OpenSpec.ofChange fnExactAddPersonWrong)

/-- 'laws.FnLines': WHATEVER THE INPUT: true; the input reads as it did. -/
def fnLinesSpec : ChangeSpec := { name := "fnLines", fn := fun _ => fun
  | [d1, d2] => { results := [.lit (.bool true)], args := [d1, d2] }
  | _ => none }
def fnLinesRow : OpenClaim := { program := "ytcoeihkaikmdpaa", sum := "f1e135a7cfe7fac7044361866c87f199e9c22c60df394fbfeca448ed0f3672ce", func := "loop.example/g01033/laws.FnLines", spec := "fnLines", unfollowed := true, recurses := true, apart := false }
def FnLinesSaid : Prop := fnLinesRow.holds Try.pinned (OpenSpec.ofChange fnLinesSpec)

/-- ITS FALSE NEIGHBOUR: 'it returns false'. Refute it at one input. -/
def fnLinesWrong : ChangeSpec := { name := "fnLines", fn := fun _ => fun
  | [d1, d2] => { results := [.lit (.bool false)], args := [d1, d2] }
  | _ => none }
def FnLinesWrongFalsely : Prop := fnLinesRow.holds Try.pinned (OpenSpec.ofChange fnLinesWrong)

/-- 'laws.FnExactRankPupils': WHATEVER THE INPUT: true; the input reads as it did. -/
def fnExactRankPupilsSpec : ChangeSpec := { name := "fnExactRankPupils", fn := fun _ => fun
  | [d] => { results := [.lit (.bool true)], args := [d] }
  | _ => none }
def fnExactRankPupilsRow : OpenClaim := { program := "ytcoeihkaikmdpaa", sum := "f1e135a7cfe7fac7044361866c87f199e9c22c60df394fbfeca448ed0f3672ce", func := "loop.example/g01033/laws.FnExactRankPupils", spec := "fnExactRankPupils", unfollowed := true, recurses := true, apart := false }
def FnExactRankPupilsSaid : Prop := fnExactRankPupilsRow.holds Try.pinned (OpenSpec.ofChange fnExactRankPupilsSpec)

/-- ITS FALSE NEIGHBOUR: 'it returns false'. Refute it at one input. -/
def fnExactRankPupilsWrong : ChangeSpec := { name := "fnExactRankPupils", fn := fun _ => fun
  | [d] => { results := [.lit (.bool false)], args := [d] }
  | _ => none }
def FnExactRankPupilsWrongFalsely : Prop := fnExactRankPupilsRow.holds Try.pinned (OpenSpec.ofChange fnExactRankPupilsWrong)

/-- 'laws.FnExactMergeVersions': WHATEVER THE INPUT: true; the input reads as it did. -/
def fnExactMergeVersionsSpec : ChangeSpec := { name := "fnExactMergeVersions", fn := fun _ => fun
  | [d1, d2, d3, d4] => { results := [.lit (.bool true)], args := [d1, d2, d3, d4] }
  | _ => none }
def fnExactMergeVersionsRow : OpenClaim := { program := "ytcoeihkaikmdpaa", sum := "f1e135a7cfe7fac7044361866c87f199e9c22c60df394fbfeca448ed0f3672ce", func := "loop.example/g01033/laws.FnExactMergeVersions", spec := "fnExactMergeVersions", unfollowed := true, recurses := true, apart := false }
def FnExactMergeVersionsSaid : Prop := fnExactMergeVersionsRow.holds Try.pinned (OpenSpec.ofChange fnExactMergeVersionsSpec)

/-- ITS FALSE NEIGHBOUR: 'it returns false'. Refute it at one input. -/
def fnExactMergeVersionsWrong : ChangeSpec := { name := "fnExactMergeVersions", fn := fun _ => fun
  | [d1, d2, d3, d4] => { results := [.lit (.bool false)], args := [d1, d2, d3, d4] }
  | _ => none }
def FnExactMergeVersionsWrongFalsely : Prop := fnExactMergeVersionsRow.holds Try.pinned (OpenSpec.ofChange fnExactMergeVersionsWrong)

/-- 'laws.FnBlocks': WHATEVER THE INPUT: true; the input reads as it did. -/
def fnBlocksSpec : ChangeSpec := { name := "fnBlocks", fn := fun _ => fun
  | [d1, d2] => { results := [.lit (.bool true)], args := [d1, d2] }
  | _ => none }
def fnBlocksRow : OpenClaim := { program := "ytcoeihkaikmdpaa", sum := "f1e135a7cfe7fac7044361866c87f199e9c22c60df394fbfeca448ed0f3672ce", func := "loop.example/g01033/laws.FnBlocks", spec := "fnBlocks", inPlace := ["internal/bytealg.IndexByteString", "internal/bytealg.IndexString", "slices.overlaps[loop.example/g01033/impl.Block]"], unfollowed := true, recurses := true, named := ["internal/bytealg.MaxLen"], apart := false }
def FnBlocksSaid : Prop := fnBlocksRow.holds Try.pinned (OpenSpec.ofChange fnBlocksSpec)

/-- ITS FALSE NEIGHBOUR: 'it returns false'. Refute it at one input. -/
def fnBlocksWrong : ChangeSpec := { name := "fnBlocks", fn := fun _ => fun
  | [d1, d2] => { results := [.lit (.bool false)], args := [d1, d2] }
  | _ => none }
def FnBlocksWrongFalsely : Prop := fnBlocksRow.holds Try.pinned (OpenSpec.ofChange fnBlocksWrong)

/- THE SECOND FORM. 'bulk': how many values and letters a reading holds, each counted each time it is reached (what is shared counts as often as it is met; a slice's spare places count too). A statement '..UptoSaid' is the law's where the arguments, and the package variables that the reading takes, are together of bulk at most 1048576: NARROWER than '..Said'. Prove '..Said' where nothing that the law and all that it calls make is longer than what came in: it says more and counts as full. Else prove '..UptoSaid'. A law counts once. -/
mutual
def uptoBulk {H : Type} : DataW H → Nat
  | .lit (.string bytes) => bytes.length + 1
  | .lit _ => 1
  | .nil => 1
  | .ptr d => uptoBulk d + 1
  | .slice elems spare => uptoBulkAll elems + uptoBulkAll spare + 1
  | .agg parts => uptoBulkAll parts + 1
  | .iface _ d => uptoBulk d + 1
  | .map entries => uptoBulkEntries entries + 1
  | .held _ => 1
def uptoBulkAll {H : Type} : List (DataW H) → Nat
  | [] => 0
  | d :: r => uptoBulk d + uptoBulkAll r
def uptoBulkEntries {H : Type} : List (Lit × DataW H) → Nat
  | [] => 0
  | x :: r => uptoBulkEntry x + uptoBulkEntries r
def uptoBulkEntry {H : Type} : Lit × DataW H → Nat
  | (.string bytes, d) => bytes.length + uptoBulk d + 1
  | (_, d) => uptoBulk d + 1
 end
def uptoSmall : (H : Type) → List (DataW H) → Bool := fun _ ds => decide (uptoBulkAll ds ≤ 1048576)
def OpenSpec.upto (s : _root_.Go.ChangeSpec) : _root_.Go.OpenSpec := { _root_.Go.OpenSpec.ofChange s with cond := some uptoSmall }

/-- 'laws.FnExactCountLines', WHERE WHAT IT READS IS OF BULK AT MOST 1048576: true; the input reads as it did. -/
def fnExactCountLinesUptoRow : OpenClaim := { program := "ytcoeihkaikmdpaa", sum := "f1e135a7cfe7fac7044361866c87f199e9c22c60df394fbfeca448ed0f3672ce", func := "loop.example/g01033/laws.FnExactCountLines", spec := "fnExactCountLines", unfollowed := true, recurses := true, apart := false, narrowed := true }
def FnExactCountLinesUptoSaid : Prop := fnExactCountLinesUptoRow.holds Try.pinned (OpenSpec.upto fnExactCountLinesSpec)

/-- 'laws.FnExactRelationOf', WHERE WHAT IT READS IS OF BULK AT MOST 1048576: true; the input reads as it did. -/
def fnExactRelationOfUptoRow : OpenClaim := { program := "ytcoeihkaikmdpaa", sum := "f1e135a7cfe7fac7044361866c87f199e9c22c60df394fbfeca448ed0f3672ce", func := "loop.example/g01033/laws.FnExactRelationOf", spec := "fnExactRelationOf", unfollowed := true, recurses := true, apart := false, narrowed := true }
def FnExactRelationOfUptoSaid : Prop := fnExactRelationOfUptoRow.holds Try.pinned (OpenSpec.upto fnExactRelationOfSpec)

/-- 'laws.FnExactDepthOf', WHERE WHAT IT READS IS OF BULK AT MOST 1048576: true; the input reads as it did. -/
def fnExactDepthOfUptoRow : OpenClaim := { program := "ytcoeihkaikmdpaa", sum := "f1e135a7cfe7fac7044361866c87f199e9c22c60df394fbfeca448ed0f3672ce", func := "loop.example/g01033/laws.FnExactDepthOf", spec := "fnExactDepthOf", unfollowed := true, recurses := true, apart := false, narrowed := true }
def FnExactDepthOfUptoSaid : Prop := fnExactDepthOfUptoRow.holds Try.pinned (OpenSpec.upto fnExactDepthOfSpec)

/-- 'laws.FnExactAddPerson', WHERE WHAT IT READS IS OF BULK AT MOST 1048576: true; the input reads as it did. -/
def fnExactAddPersonUptoRow : OpenClaim := { program := "ytcoeihkaikmdpaa", sum := "f1e135a7cfe7fac7044361866c87f199e9c22c60df394fbfeca448ed0f3672ce", func := "loop.example/g01033/laws.FnExactAddPerson", spec := "fnExactAddPerson", inPlace := ["slices.overlaps[loop.example/g01033/impl.Person]"], unfollowed := true, recurses := true, apart := false, narrowed := true }
def FnExactAddPersonUptoSaid : Prop := fnExactAddPersonUptoRow.holds Try.pinned (OpenSpec.upto fnExactAddPersonSpec)

/-- 'laws.FnLines', WHERE WHAT IT READS IS OF BULK AT MOST 1048576: true; the input reads as it did. -/
def fnLinesUptoRow : OpenClaim := { program := "ytcoeihkaikmdpaa", sum := "f1e135a7cfe7fac7044361866c87f199e9c22c60df394fbfeca448ed0f3672ce", func := "loop.example/g01033/laws.FnLines", spec := "fnLines", unfollowed := true, recurses := true, apart := false, narrowed := true }
def FnLinesUptoSaid : Prop := fnLinesUptoRow.holds Try.pinned (OpenSpec.upto fnLinesSpec)

/-- 'laws.FnExactRankPupils', WHERE WHAT IT READS IS OF BULK AT MOST 1048576: true; the input reads as it did. -/
def fnExactRankPupilsUptoRow : OpenClaim := { program := "ytcoeihkaikmdpaa", sum := "f1e135a7cfe7fac7044361866c87f199e9c22c60df394fbfeca448ed0f3672ce", func := "loop.example/g01033/laws.FnExactRankPupils", spec := "fnExactRankPupils", unfollowed := true, recurses := true, apart := false, narrowed := true }
def FnExactRankPupilsUptoSaid : Prop := fnExactRankPupilsUptoRow.holds Try.pinned (OpenSpec.upto fnExactRankPupilsSpec)

/-- 'laws.FnExactMergeVersions', WHERE WHAT IT READS IS OF BULK AT MOST 1048576: true; the input reads as it did. -/
def fnExactMergeVersionsUptoRow : OpenClaim := { program := "ytcoeihkaikmdpaa", sum := "f1e135a7cfe7fac7044361866c87f199e9c22c60df394fbfeca448ed0f3672ce", func := "loop.example/g01033/laws.FnExactMergeVersions", spec := "fnExactMergeVersions", unfollowed := true, recurses := true, apart := false, narrowed := true }
def FnExactMergeVersionsUptoSaid : Prop := fnExactMergeVersionsUptoRow.holds Try.pinned (OpenSpec.upto fnExactMergeVersionsSpec)

/-- 'laws.FnBlocks', WHERE WHAT IT READS IS OF BULK AT MOST 1048576: true; the input reads as it did. -/
def fnBlocksUptoRow : OpenClaim := { program := "ytcoeihkaikmdpaa", sum := "f1e135a7cfe7fac7044361866c87f199e9c22c60df394fbfeca448ed0f3672ce", func := "loop.example/g01033/laws.FnBlocks", spec := "fnBlocks", inPlace := ["internal/bytealg.IndexByteString", "internal/bytealg.IndexString", "slices.overlaps[loop.example/g01033/impl.Block]"], unfollowed := true, recurses := true, named := ["internal/bytealg.MaxLen"], apart := false, narrowed := true }
def FnBlocksUptoSaid : Prop := fnBlocksUptoRow.holds Try.pinned (OpenSpec.upto fnBlocksSpec)

end Rows
end Go.Proofs.Ytcoeihkaikmdpaa
