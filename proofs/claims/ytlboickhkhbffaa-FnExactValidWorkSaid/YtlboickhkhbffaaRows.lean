/-
  No cell of these rows narrows 'for every input' (looked for: loops, veiled, ifaces, maps, wideKeys, modest, calm, conditions, laid).
  DERIVED. THE GIVEN ROWS OF THIS SEAT. 5 by the template 'for every input the law returns true; each argument reads behind the call as it read before'; 0 by the template 'total and deterministic' (their statements: YtlboickhkhbffaaTotals.lean).
  GIVEN WITH THE SEED: the statements are not yours to turn. If you find one false, say at which input.
  Laid BY PROGRAM, IN A SANDBOX (cutbox-rows.mjs): the forced cells as the released guide's own fill.sh prints them over the translation ce32a696ffbcf2ec… (all of the seat's roots in one cut). By AI agents, Wed Nov 11 2026. No macro, syntax, notation, axiom, sorry.
-/
import Derived.Test.YtlboickhkhbffaaChecked
import GoSem.Claim
import GoSem.ClaimJoined
import GoSem.ClaimMapViews
import Derived.JoinedTies
import Derived.KernelRfl
namespace Go.Proofs.Ytlboickhkhbffaa
/- THE CELL 'sum', in the pinned program and in every row, IS THE sha256 OF THE DUMP (.gsa) THAT YtlboickhkhbffaaProg.lean LOADS. Nothing in Lean hashes anything: it is a label: what it is worth is what the hold of that sum in a sandbox is worth. -/
noncomputable def Try.pinned : Pinned := { name := "ytlboickhkhbffaa", sum := "ce32a696ffbcf2ec4a30719928840b588b2991f0984a27353e4e992bc5cec004", checked := Try.checked }
namespace Rows
def none {H : Type} : Left H := { results := [], args := [] }

/-- 'laws.FnExactValidWork': WHATEVER THE INPUT: true; the input reads as it did. -/
def fnExactValidWorkSpec : ChangeSpec := { name := "fnExactValidWork", fn := fun _ => fun
  | [d] => { results := [.lit (.bool true)], args := [d] }
  | _ => none }
def fnExactValidWorkRow : OpenClaim := { program := "ytlboickhkhbffaa", sum := "ce32a696ffbcf2ec4a30719928840b588b2991f0984a27353e4e992bc5cec004", func := "loop.example/g01033/laws.FnExactValidWork", spec := "fnExactValidWork", unfollowed := true, recurses := true, apart := false }
def FnExactValidWorkSaid : Prop := fnExactValidWorkRow.holds Try.pinned (OpenSpec.ofChange fnExactValidWorkSpec)

/-- ITS FALSE NEIGHBOUR: 'it returns false'. Refute it at one input. -/
def fnExactValidWorkWrong : ChangeSpec := { name := "fnExactValidWork", fn := fun _ => fun
  | [d] => { results := [.lit (.bool false)], args := [d] }
  | _ => none }
def FnExactValidWorkWrongFalsely : Prop := fnExactValidWorkRow.holds Try.pinned (OpenSpec.ofChange fnExactValidWorkWrong)

/-- 'laws.FnExactSameDesk': WHATEVER THE INPUT: true; the input reads as it did. -/
def fnExactSameDeskSpec : ChangeSpec := { name := "fnExactSameDesk", fn := fun _ => fun
  | [d1, d2] => { results := [.lit (.bool true)], args := [d1, d2] }
  | _ => none }
def fnExactSameDeskRow : OpenClaim := { program := "ytlboickhkhbffaa", sum := "ce32a696ffbcf2ec4a30719928840b588b2991f0984a27353e4e992bc5cec004", func := "loop.example/g01033/laws.FnExactSameDesk", spec := "fnExactSameDesk", unfollowed := true, recurses := true, apart := false }
def FnExactSameDeskSaid : Prop := fnExactSameDeskRow.holds Try.pinned (OpenSpec.ofChange fnExactSameDeskSpec)

/-- ITS FALSE NEIGHBOUR: 'it returns false'. Refute it at one input. -/
def fnExactSameDeskWrong : ChangeSpec := { name := "fnExactSameDesk", fn := fun _ => fun
  | [d1, d2] => { results := [.lit (.bool false)], args := [d1, d2] }
  | _ => none }
def FnExactSameDeskWrongFalsely : Prop := fnExactSameDeskRow.holds Try.pinned (OpenSpec.ofChange fnExactSameDeskWrong)

/-- 'laws.FnExactReadyTopics': WHATEVER THE INPUT: true; the input reads as it did. -/
def fnExactReadyTopicsSpec : ChangeSpec := { name := "fnExactReadyTopics", fn := fun _ => fun
  | [d1, d2, d3, d4] => { results := [.lit (.bool true)], args := [d1, d2, d3, d4] }
  | _ => none }
def fnExactReadyTopicsRow : OpenClaim := { program := "ytlboickhkhbffaa", sum := "ce32a696ffbcf2ec4a30719928840b588b2991f0984a27353e4e992bc5cec004", func := "loop.example/g01033/laws.FnExactReadyTopics", spec := "fnExactReadyTopics", unfollowed := true, recurses := true, apart := false }
def FnExactReadyTopicsSaid : Prop := fnExactReadyTopicsRow.holds Try.pinned (OpenSpec.ofChange fnExactReadyTopicsSpec)

/-- ITS FALSE NEIGHBOUR: 'it returns false'. Refute it at one input. -/
def fnExactReadyTopicsWrong : ChangeSpec := { name := "fnExactReadyTopics", fn := fun _ => fun
  | [d1, d2, d3, d4] => { results := [.lit (.bool false)], args := [d1, d2, d3, d4] }
  | _ => none }
def FnExactReadyTopicsWrongFalsely : Prop := fnExactReadyTopicsRow.holds Try.pinned (OpenSpec.ofChange fnExactReadyTopicsWrong)

/-- 'laws.FnExactRankPupils': WHATEVER THE INPUT: true; the input reads as it did. -/
def fnExactRankPupilsSpec : ChangeSpec := { name := "fnExactRankPupils", fn := fun _ => fun
  | [d] => { results := [.lit (.bool true)], args := [d] }
  | _ => none }
def fnExactRankPupilsRow : OpenClaim := { program := "ytlboickhkhbffaa", sum := "ce32a696ffbcf2ec4a30719928840b588b2991f0984a27353e4e992bc5cec004", func := "loop.example/g01033/laws.FnExactRankPupils", spec := "fnExactRankPupils", unfollowed := true, recurses := true, apart := false }
def FnExactRankPupilsSaid : Prop := fnExactRankPupilsRow.holds Try.pinned (OpenSpec.ofChange fnExactRankPupilsSpec)

/-- ITS FALSE NEIGHBOUR: 'it returns false'. Refute it at one input. -/
def fnExactRankPupilsWrong : ChangeSpec := { name := "fnExactRankPupils", fn := fun _ => fun
  | [d] => { results := [.lit (.bool false)], args := [d] }
  | _ => none }
def FnExactRankPupilsWrongFalsely : Prop := fnExactRankPupilsRow.holds Try.pinned (OpenSpec.ofChange fnExactRankPupilsWrong)

/-- 'laws.FnExactMergeVersions': WHATEVER THE INPUT: true; the input reads as it did. -/
def fnExactMergeVersionsSpec : ChangeSpec := { name := "fnExactMergeVersions", fn := fun _ => fun
  | [d1, d2, d3, d4] => { results := [.lit (.bool true)], args := [d1, d2, d3, d4] }
  | _ => none }
def fnExactMergeVersionsRow : OpenClaim := { program := "ytlboickhkhbffaa", sum := "ce32a696ffbcf2ec4a30719928840b588b2991f0984a27353e4e992bc5cec004", func := "loop.example/g01033/laws.FnExactMergeVersions", spec := "fnExactMergeVersions", unfollowed := true, recurses := true, apart := false }
def FnExactMergeVersionsSaid : Prop := fnExactMergeVersionsRow.holds Try.pinned (OpenSpec.ofChange fnExactMergeVersionsSpec)

/-- ITS FALSE NEIGHBOUR: 'it returns false'. Refute it at one input. -/
def fnExactMergeVersionsWrong : ChangeSpec := { name := "fnExactMergeVersions", fn := fun _ => fun
  | [d1, d2, d3, d4] => { results := [.lit (.bool false)], args := [d1, d2, d3, d4] }
  | _ => none }
def FnExactMergeVersionsWrongFalsely : Prop := fnExactMergeVersionsRow.holds Try.pinned (OpenSpec.ofChange fnExactMergeVersionsWrong)

/- THE SECOND FORM. 'bulk': how many values and letters a reading holds, each counted each time it is reached (what is shared counts as often as it is met; a slice's spare places count too). A statement '..UptoSaid' is the law's where the arguments, and the package variables that the reading takes, are together of bulk at most 1048576: NARROWER than '..Said'. Prove '..Said' where nothing that the law and all that it calls make is longer than what came in: it says more and counts as full. Else prove '..UptoSaid'. A law counts once. -/
mutual
def uptoBulk {H : Type} : DataW H → Nat
  | .lit (.string bytes) => bytes.length + 1
  | .lit _ => 1
  | .nil => 1
  | .ptr d => uptoBulk d + 1
  | .slice elems spare => uptoBulkAll elems + uptoBulkAll spare + 1
  | .agg parts => uptoBulkAll parts + 1
  | .iface _ d => uptoBulk d + 1
  | .map entries => uptoBulkEntries entries + 1
  | .held _ => 1
def uptoBulkAll {H : Type} : List (DataW H) → Nat
  | [] => 0
  | d :: r => uptoBulk d + uptoBulkAll r
def uptoBulkEntries {H : Type} : List (Lit × DataW H) → Nat
  | [] => 0
  | x :: r => uptoBulkEntry x + uptoBulkEntries r
def uptoBulkEntry {H : Type} : Lit × DataW H → Nat
  | (.string bytes, d) => bytes.length + uptoBulk d + 1
  | (_, d) => uptoBulk d + 1
 end
def uptoSmall : (H : Type) → List (DataW H) → Bool := fun _ ds => decide (uptoBulkAll ds ≤ 1048576)
def OpenSpec.upto (s : _root_.Go.ChangeSpec) : _root_.Go.OpenSpec := { _root_.Go.OpenSpec.ofChange s with cond := some uptoSmall }

/-- 'laws.FnExactValidWork', WHERE WHAT IT READS IS OF BULK AT MOST 1048576: true; the input reads as it did. -/
def fnExactValidWorkUptoRow : OpenClaim := { program := "ytlboickhkhbffaa", sum := "ce32a696ffbcf2ec4a30719928840b588b2991f0984a27353e4e992bc5cec004", func := "loop.example/g01033/laws.FnExactValidWork", spec := "fnExactValidWork", unfollowed := true, recurses := true, apart := false, narrowed := true }
def FnExactValidWorkUptoSaid : Prop := fnExactValidWorkUptoRow.holds Try.pinned (OpenSpec.upto fnExactValidWorkSpec)

/-- 'laws.FnExactSameDesk', WHERE WHAT IT READS IS OF BULK AT MOST 1048576: true; the input reads as it did. -/
def fnExactSameDeskUptoRow : OpenClaim := { program := "ytlboickhkhbffaa", sum := "ce32a696ffbcf2ec4a30719928840b588b2991f0984a27353e4e992bc5cec004", func := "loop.example/g01033/laws.FnExactSameDesk", spec := "fnExactSameDesk", unfollowed := true, recurses := true, apart := false, narrowed := true }
def FnExactSameDeskUptoSaid : Prop := fnExactSameDeskUptoRow.holds Try.pinned (OpenSpec.upto fnExactSameDeskSpec)

/-- 'laws.FnExactReadyTopics', WHERE WHAT IT READS IS OF BULK AT MOST 1048576: true; the input reads as it did. -/
def fnExactReadyTopicsUptoRow : OpenClaim := { program := "ytlboickhkhbffaa", sum := "ce32a696ffbcf2ec4a30719928840b588b2991f0984a27353e4e992bc5cec004", func := "loop.example/g01033/laws.FnExactReadyTopics", spec := "fnExactReadyTopics", unfollowed := true, recurses := true, apart := false, narrowed := true }
def FnExactReadyTopicsUptoSaid : Prop := fnExactReadyTopicsUptoRow.holds Try.pinned (OpenSpec.upto fnExactReadyTopicsSpec)

/-- 'laws.FnExactRankPupils', WHERE WHAT IT READS IS OF BULK AT MOST 1048576: true; the input reads as it did. -/
def fnExactRankPupilsUptoRow : OpenClaim := { program := "ytlboickhkhbffaa", sum := "ce32a696ffbcf2ec4a30719928840b588b2991f0984a27353e4e992bc5cec004", func := "loop.example/g01033/laws.FnExactRankPupils", spec := "fnExactRankPupils", unfollowed := true, recurses := true, apart := false, narrowed := true }
def FnExactRankPupilsUptoSaid : Prop := fnExactRankPupilsUptoRow.holds Try.pinned (OpenSpec.upto fnExactRankPupilsSpec)

/-- 'laws.FnExactMergeVersions', WHERE WHAT IT READS IS OF BULK AT MOST 1048576: true; the input reads as it did. -/
def fnExactMergeVersionsUptoRow : OpenClaim := { program := "ytlboickhkhbffaa", sum := "ce32a696ffbcf2ec4a30719928840b588b2991f0984a27353e4e992bc5cec004", func := "loop.example/g01033/laws.FnExactMergeVersions", spec := "fnExactMergeVersions", unfollowed := true, recurses := true, apart := false, narrowed := true }
def FnExactMergeVersionsUptoSaid : Prop := fnExactMergeVersionsUptoRow.holds Try.pinned (OpenSpec.upto fnExactMergeVersionsSpec)

end Rows
end Go.Proofs.Ytlboickhkhbffaa
