/-
  No cell of these rows narrows 'for every input' (looked for: loops, veiled, ifaces, maps, wideKeys, modest, calm, conditions, laid).
  DERIVED. THE GIVEN ROWS OF THIS SEAT. 12 by the template 'for every input the law returns true; each argument reads behind the call as it read before'; 0 by the template 'total and deterministic' (their statements: YtcfjjnajeccbhaaTotals.lean).
  GIVEN WITH THE SEED: the statements are not yours to turn. If you find one false, say at which input.
  Laid BY PROGRAM, IN A SANDBOX (cutbox-rows.mjs): the forced cells as the released guide's own fill.sh prints them over the translation 1ae6e3c6f80f453c… (all of the seat's roots in one cut). By AI agents, Wed Nov 11 2026. No macro, syntax, notation, axiom, sorry.
-/
import Derived.Test.YtcfjjnajeccbhaaChecked
import GoSem.Claim
import GoSem.ClaimJoined
import GoSem.ClaimMapViews
import Derived.JoinedTies
import Derived.KernelRfl
namespace Go.Proofs.Ytcfjjnajeccbhaa
/- THE CELL 'sum', in the pinned program and in every row, IS THE sha256 OF THE DUMP (.gsa) THAT YtcfjjnajeccbhaaProg.lean LOADS. Nothing in Lean hashes anything: it is a label: what it is worth is what the hold of that sum in a sandbox is worth. -/
noncomputable def Try.pinned : Pinned := { name := "ytcfjjnajeccbhaa", sum := "1ae6e3c6f80f453cc60c20cfa87e3784e47fdbf81fe4935380eb3faddd2438b9", checked := Try.checked }
namespace Rows
def none {H : Type} : Left H := { results := [], args := [] }

/-- 'laws.FnExactIsConfig': WHATEVER THE INPUT: true; the input reads as it did. -/
def fnExactIsConfigSpec : ChangeSpec := { name := "fnExactIsConfig", fn := fun _ => fun
  | [d1, d2] => { results := [.lit (.bool true)], args := [d1, d2] }
  | _ => none }
def fnExactIsConfigRow : OpenClaim := { program := "ytcfjjnajeccbhaa", sum := "1ae6e3c6f80f453cc60c20cfa87e3784e47fdbf81fe4935380eb3faddd2438b9", func := "loop.example/g01087/laws.FnExactIsConfig", spec := "fnExactIsConfig", unfollowed := true, recurses := true, apart := false }
def FnExactIsConfigSaid : Prop := fnExactIsConfigRow.holds Try.pinned (OpenSpec.ofChange fnExactIsConfigSpec)

/-- ITS FALSE NEIGHBOUR: 'it returns false'. Refute it at one input. -/
def fnExactIsConfigWrong : ChangeSpec := { name := "fnExactIsConfig", fn := fun _ => fun
  | [d1, d2] => { results := [.lit (.bool false)], args := [d1, d2] }
  | _ => none }
def FnExactIsConfigWrongFalsely : Prop := fnExactIsConfigRow.holds Try.pinned (OpenSpec.ofChange fnExactIsConfigWrong)

/-- 'laws.FnExactIsLineLike': WHATEVER THE INPUT: true; the input reads as it did. -/
def fnExactIsLineLikeSpec : ChangeSpec := { name := "fnExactIsLineLike", fn := fun _ => fun
  | [d] => { results := [.lit (.bool true)], args := [d] }
  | _ => none }
def fnExactIsLineLikeRow : OpenClaim := { program := "ytcfjjnajeccbhaa", sum := "1ae6e3c6f80f453cc60c20cfa87e3784e47fdbf81fe4935380eb3faddd2438b9", func := "loop.example/g01087/laws.FnExactIsLineLike", spec := "fnExactIsLineLike", unfollowed := true, recurses := true, apart := false }
def FnExactIsLineLikeSaid : Prop := fnExactIsLineLikeRow.holds Try.pinned (OpenSpec.ofChange fnExactIsLineLikeSpec)

/-- ITS FALSE NEIGHBOUR: 'it returns false'. Refute it at one input. -/
def fnExactIsLineLikeWrong : ChangeSpec := { name := "fnExactIsLineLike", fn := fun _ => fun
  | [d] => { results := [.lit (.bool false)], args := [d] }
  | _ => none }
def FnExactIsLineLikeWrongFalsely : Prop := fnExactIsLineLikeRow.holds Try.pinned (OpenSpec.ofChange fnExactIsLineLikeWrong)

/-- 'laws.FnExactShortestWay': WHATEVER THE INPUT: true; the input reads as it did. -/
def fnExactShortestWaySpec : ChangeSpec := { name := "fnExactShortestWay", fn := fun _ => fun
  | [d1, d2, d3] => { results := [.lit (.bool true)], args := [d1, d2, d3] }
  | _ => none }
def fnExactShortestWayRow : OpenClaim := { program := "ytcfjjnajeccbhaa", sum := "1ae6e3c6f80f453cc60c20cfa87e3784e47fdbf81fe4935380eb3faddd2438b9", func := "loop.example/g01087/laws.FnExactShortestWay", spec := "fnExactShortestWay", unfollowed := true, recurses := true, apart := false }
def FnExactShortestWaySaid : Prop := fnExactShortestWayRow.holds Try.pinned (OpenSpec.ofChange fnExactShortestWaySpec)

/-- ITS FALSE NEIGHBOUR: 'it returns false'. Refute it at one input. -/
def fnExactShortestWayWrong : ChangeSpec := { name := "fnExactShortestWay", fn := fun _ => fun
  | [d1, d2, d3] => { results := [.lit (.bool false)], args := [d1, d2, d3] }
  | _ => none }
def FnExactShortestWayWrongFalsely : Prop := fnExactShortestWayRow.holds Try.pinned (OpenSpec.ofChange fnExactShortestWayWrong)

/-- 'laws.FnExactCoverRun': WHATEVER THE INPUT: true; the input reads as it did. -/
def fnExactCoverRunSpec : ChangeSpec := { name := "fnExactCoverRun", fn := fun _ => fun
  | [d1, d2] => { results := [.lit (.bool true)], args := [d1, d2] }
  | _ => none }
def fnExactCoverRunRow : OpenClaim := { program := "ytcfjjnajeccbhaa", sum := "1ae6e3c6f80f453cc60c20cfa87e3784e47fdbf81fe4935380eb3faddd2438b9", func := "loop.example/g01087/laws.FnExactCoverRun", spec := "fnExactCoverRun", unfollowed := true, recurses := true, apart := false }
def FnExactCoverRunSaid : Prop := fnExactCoverRunRow.holds Try.pinned (OpenSpec.ofChange fnExactCoverRunSpec)

/-- ITS FALSE NEIGHBOUR: 'it returns false'. Refute it at one input. -/
def fnExactCoverRunWrong : ChangeSpec := { name := "fnExactCoverRun", fn := fun _ => fun
  | [d1, d2] => { results := [.lit (.bool false)], args := [d1, d2] }
  | _ => none }
def FnExactCoverRunWrongFalsely : Prop := fnExactCoverRunRow.holds Try.pinned (OpenSpec.ofChange fnExactCoverRunWrong)

/-- 'laws.FnExactClosedMetric': WHATEVER THE INPUT: true; the input reads as it did. -/
def fnExactClosedMetricSpec : ChangeSpec := { name := "fnExactClosedMetric", fn := fun _ => fun
  | [d] => { results := [.lit (.bool true)], args := [d] }
  | _ => none }
def fnExactClosedMetricRow : OpenClaim := { program := "ytcfjjnajeccbhaa", sum := "1ae6e3c6f80f453cc60c20cfa87e3784e47fdbf81fe4935380eb3faddd2438b9", func := "loop.example/g01087/laws.FnExactClosedMetric", spec := "fnExactClosedMetric", unfollowed := true, recurses := true, apart := false }
def FnExactClosedMetricSaid : Prop := fnExactClosedMetricRow.holds Try.pinned (OpenSpec.ofChange fnExactClosedMetricSpec)

/-- ITS FALSE NEIGHBOUR: 'it returns false'. Refute it at one input. -/
def fnExactClosedMetricWrong : ChangeSpec := { name := "fnExactClosedMetric", fn := fun _ => fun
  | [d] => { results := [.lit (.bool false)], args := [d] }
  | _ => none }
def FnExactClosedMetricWrongFalsely : Prop := fnExactClosedMetricRow.holds Try.pinned (OpenSpec.ofChange fnExactClosedMetricWrong)

/-- 'laws.FnExactMoveCost': WHATEVER THE INPUT: true; the input reads as it did. -/
def fnExactMoveCostSpec : ChangeSpec := { name := "fnExactMoveCost", fn := fun _ => fun
  | [d1, d2, d3] => { results := [.lit (.bool true)], args := [d1, d2, d3] }
  | _ => none }
def fnExactMoveCostRow : OpenClaim := { program := "ytcfjjnajeccbhaa", sum := "1ae6e3c6f80f453cc60c20cfa87e3784e47fdbf81fe4935380eb3faddd2438b9", func := "loop.example/g01087/laws.FnExactMoveCost", spec := "fnExactMoveCost", unfollowed := true, recurses := true, apart := false }
def FnExactMoveCostSaid : Prop := fnExactMoveCostRow.holds Try.pinned (OpenSpec.ofChange fnExactMoveCostSpec)

/-- ITS FALSE NEIGHBOUR: 'it returns false'. Refute it at one input. -/
def fnExactMoveCostWrong : ChangeSpec := { name := "fnExactMoveCost", fn := fun _ => fun
  | [d1, d2, d3] => { results := [.lit (.bool false)], args := [d1, d2, d3] }
  | _ => none }
def FnExactMoveCostWrongFalsely : Prop := fnExactMoveCostRow.holds Try.pinned (OpenSpec.ofChange fnExactMoveCostWrong)

/-- 'laws.FnExactTreeMetric': WHATEVER THE INPUT: true; the input reads as it did. -/
def fnExactTreeMetricSpec : ChangeSpec := { name := "fnExactTreeMetric", fn := fun _ => fun
  | [d1, d2] => { results := [.lit (.bool true)], args := [d1, d2] }
  | _ => none }
def fnExactTreeMetricRow : OpenClaim := { program := "ytcfjjnajeccbhaa", sum := "1ae6e3c6f80f453cc60c20cfa87e3784e47fdbf81fe4935380eb3faddd2438b9", func := "loop.example/g01087/laws.FnExactTreeMetric", spec := "fnExactTreeMetric", unfollowed := true, recurses := true, apart := false }
def FnExactTreeMetricSaid : Prop := fnExactTreeMetricRow.holds Try.pinned (OpenSpec.ofChange fnExactTreeMetricSpec)

/-- ITS FALSE NEIGHBOUR: 'it returns false'. Refute it at one input. -/
def fnExactTreeMetricWrong : ChangeSpec := { name := "fnExactTreeMetric", fn := fun _ => fun
  | [d1, d2] => { results := [.lit (.bool false)], args := [d1, d2] }
  | _ => none }
def FnExactTreeMetricWrongFalsely : Prop := fnExactTreeMetricRow.holds Try.pinned (OpenSpec.ofChange fnExactTreeMetricWrong)

/-- 'laws.FnExactScheduleMoves': WHATEVER THE INPUT: true; the input reads as it did. -/
def fnExactScheduleMovesSpec : ChangeSpec := { name := "fnExactScheduleMoves", fn := fun _ => fun
  | [d1, d2, d3, d4] => { results := [.lit (.bool true)], args := [d1, d2, d3, d4] }
  | _ => none }
def fnExactScheduleMovesRow : OpenClaim := { program := "ytcfjjnajeccbhaa", sum := "1ae6e3c6f80f453cc60c20cfa87e3784e47fdbf81fe4935380eb3faddd2438b9", func := "loop.example/g01087/laws.FnExactScheduleMoves", spec := "fnExactScheduleMoves", unfollowed := true, recurses := true, apart := false }
def FnExactScheduleMovesSaid : Prop := fnExactScheduleMovesRow.holds Try.pinned (OpenSpec.ofChange fnExactScheduleMovesSpec)

/-- ITS FALSE NEIGHBOUR: 'it returns false'. Refute it at one input. -/
def fnExactScheduleMovesWrong : ChangeSpec := { name := "fnExactScheduleMoves", fn := fun _ => fun
  | [d1, d2, d3, d4] => { results := [.lit (.bool false)], args := [d1, d2, d3, d4] }
  | _ => none }
def FnExactScheduleMovesWrongFalsely : Prop := fnExactScheduleMovesRow.holds Try.pinned (OpenSpec.ofChange fnExactScheduleMovesWrong)

/-- 'laws.FnExactMatchConfigs': WHATEVER THE INPUT: true; the input reads as it did. -/
def fnExactMatchConfigsSpec : ChangeSpec := { name := "fnExactMatchConfigs", fn := fun _ => fun
  | [d1, d2, d3] => { results := [.lit (.bool true)], args := [d1, d2, d3] }
  | _ => none }
def fnExactMatchConfigsRow : OpenClaim := { program := "ytcfjjnajeccbhaa", sum := "1ae6e3c6f80f453cc60c20cfa87e3784e47fdbf81fe4935380eb3faddd2438b9", func := "loop.example/g01087/laws.FnExactMatchConfigs", spec := "fnExactMatchConfigs", unfollowed := true, recurses := true, apart := false }
def FnExactMatchConfigsSaid : Prop := fnExactMatchConfigsRow.holds Try.pinned (OpenSpec.ofChange fnExactMatchConfigsSpec)

/-- ITS FALSE NEIGHBOUR: 'it returns false'. Refute it at one input. -/
def fnExactMatchConfigsWrong : ChangeSpec := { name := "fnExactMatchConfigs", fn := fun _ => fun
  | [d1, d2, d3] => { results := [.lit (.bool false)], args := [d1, d2, d3] }
  | _ => none }
def FnExactMatchConfigsWrongFalsely : Prop := fnExactMatchConfigsRow.holds Try.pinned (OpenSpec.ofChange fnExactMatchConfigsWrong)

/-- 'laws.FnExactIsTreeLike': WHATEVER THE INPUT: true; the input reads as it did. -/
def fnExactIsTreeLikeSpec : ChangeSpec := { name := "fnExactIsTreeLike", fn := fun _ => fun
  | [d] => { results := [.lit (.bool true)], args := [d] }
  | _ => none }
def fnExactIsTreeLikeRow : OpenClaim := { program := "ytcfjjnajeccbhaa", sum := "1ae6e3c6f80f453cc60c20cfa87e3784e47fdbf81fe4935380eb3faddd2438b9", func := "loop.example/g01087/laws.FnExactIsTreeLike", spec := "fnExactIsTreeLike", unfollowed := true, recurses := true, apart := false }
def FnExactIsTreeLikeSaid : Prop := fnExactIsTreeLikeRow.holds Try.pinned (OpenSpec.ofChange fnExactIsTreeLikeSpec)

/-- ITS FALSE NEIGHBOUR: 'it returns false'. Refute it at one input. -/
def fnExactIsTreeLikeWrong : ChangeSpec := { name := "fnExactIsTreeLike", fn := fun _ => fun
  | [d] => { results := [.lit (.bool false)], args := [d] }
  | _ => none }
def FnExactIsTreeLikeWrongFalsely : Prop := fnExactIsTreeLikeRow.holds Try.pinned (OpenSpec.ofChange fnExactIsTreeLikeWrong)

/-- 'laws.FnExactIsIsometry': WHATEVER THE INPUT: true; the input reads as it did. -/
def fnExactIsIsometrySpec : ChangeSpec := { name := "fnExactIsIsometry", fn := fun _ => fun
  | [d1, d2] => { results := [.lit (.bool true)], args := [d1, d2] }
  | _ => none }
def fnExactIsIsometryRow : OpenClaim := { program := "ytcfjjnajeccbhaa", sum := "1ae6e3c6f80f453cc60c20cfa87e3784e47fdbf81fe4935380eb3faddd2438b9", func := "loop.example/g01087/laws.FnExactIsIsometry", spec := "fnExactIsIsometry", unfollowed := true, recurses := true, apart := false }
def FnExactIsIsometrySaid : Prop := fnExactIsIsometryRow.holds Try.pinned (OpenSpec.ofChange fnExactIsIsometrySpec)

/-- ITS FALSE NEIGHBOUR: 'it returns false'. Refute it at one input. -/
def fnExactIsIsometryWrong : ChangeSpec := { name := "fnExactIsIsometry", fn := fun _ => fun
  | [d1, d2] => { results := [.lit (.bool false)], args := [d1, d2] }
  | _ => none }
def FnExactIsIsometryWrongFalsely : Prop := fnExactIsIsometryRow.holds Try.pinned (OpenSpec.ofChange fnExactIsIsometryWrong)

/-- 'laws.FnExactGreedyServers': WHATEVER THE INPUT: true; the input reads as it did. -/
def fnExactGreedyServersSpec : ChangeSpec := { name := "fnExactGreedyServers", fn := fun _ => fun
  | [d1, d2, d3] => { results := [.lit (.bool true)], args := [d1, d2, d3] }
  | _ => none }
def fnExactGreedyServersRow : OpenClaim := { program := "ytcfjjnajeccbhaa", sum := "1ae6e3c6f80f453cc60c20cfa87e3784e47fdbf81fe4935380eb3faddd2438b9", func := "loop.example/g01087/laws.FnExactGreedyServers", spec := "fnExactGreedyServers", unfollowed := true, recurses := true, apart := false }
def FnExactGreedyServersSaid : Prop := fnExactGreedyServersRow.holds Try.pinned (OpenSpec.ofChange fnExactGreedyServersSpec)

/-- ITS FALSE NEIGHBOUR: 'it returns false'. Refute it at one input. -/
def fnExactGreedyServersWrong : ChangeSpec := { name := "fnExactGreedyServers", fn := fun _ => fun
  | [d1, d2, d3] => { results := [.lit (.bool false)], args := [d1, d2, d3] }
  | _ => none }
def FnExactGreedyServersWrongFalsely : Prop := fnExactGreedyServersRow.holds Try.pinned (OpenSpec.ofChange fnExactGreedyServersWrong)

/- THE SECOND FORM. 'bulk': how many values and letters a reading holds, each counted each time it is reached (what is shared counts as often as it is met; a slice's spare places count too). A statement '..UptoSaid' is the law's where the arguments, and the package variables that the reading takes, are together of bulk at most 1048576: NARROWER than '..Said'. Prove '..Said' where nothing that the law and all that it calls make is longer than what came in: it says more and counts as full. Else prove '..UptoSaid'. A law counts once. -/
mutual
def uptoBulk {H : Type} : DataW H → Nat
  | .lit (.string bytes) => bytes.length + 1
  | .lit _ => 1
  | .nil => 1
  | .ptr d => uptoBulk d + 1
  | .slice elems spare => uptoBulkAll elems + uptoBulkAll spare + 1
  | .agg parts => uptoBulkAll parts + 1
  | .iface _ d => uptoBulk d + 1
  | .map entries => uptoBulkEntries entries + 1
  | .held _ => 1
def uptoBulkAll {H : Type} : List (DataW H) → Nat
  | [] => 0
  | d :: r => uptoBulk d + uptoBulkAll r
def uptoBulkEntries {H : Type} : List (Lit × DataW H) → Nat
  | [] => 0
  | x :: r => uptoBulkEntry x + uptoBulkEntries r
def uptoBulkEntry {H : Type} : Lit × DataW H → Nat
  | (.string bytes, d) => bytes.length + uptoBulk d + 1
  | (_, d) => uptoBulk d + 1
 end
def uptoSmall : (H : Type) → List (DataW H) → Bool := fun _ ds => decide (uptoBulkAll ds ≤ 1048576)
def OpenSpec.upto (s : _root_.Go.ChangeSpec) : _root_.Go.OpenSpec := { _root_.Go.OpenSpec.ofChange s with cond := some uptoSmall }

/-- 'laws.FnExactIsConfig', WHERE WHAT IT READS IS OF BULK AT MOST 1048576: true; the input reads as it did. -/
def fnExactIsConfigUptoRow : OpenClaim := { program := "ytcfjjnajeccbhaa", sum := "1ae6e3c6f80f453cc60c20cfa87e3784e47fdbf81fe4935380eb3faddd2438b9", func := "loop.example/g01087/laws.FnExactIsConfig", spec := "fnExactIsConfig", unfollowed := true, recurses := true, apart := false, narrowed := true }
def FnExactIsConfigUptoSaid : Prop := fnExactIsConfigUptoRow.holds Try.pinned (OpenSpec.upto fnExactIsConfigSpec)

/-- 'laws.FnExactIsLineLike', WHERE WHAT IT READS IS OF BULK AT MOST 1048576: true; the input reads as it did. -/
def fnExactIsLineLikeUptoRow : OpenClaim := { program := "ytcfjjnajeccbhaa", sum := "1ae6e3c6f80f453cc60c20cfa87e3784e47fdbf81fe4935380eb3faddd2438b9", func := "loop.example/g01087/laws.FnExactIsLineLike", spec := "fnExactIsLineLike", unfollowed := true, recurses := true, apart := false, narrowed := true }
def FnExactIsLineLikeUptoSaid : Prop := fnExactIsLineLikeUptoRow.holds Try.pinned (OpenSpec.upto fnExactIsLineLikeSpec)

/-- 'laws.FnExactShortestWay', WHERE WHAT IT READS IS OF BULK AT MOST 1048576: true; the input reads as it did. -/
def fnExactShortestWayUptoRow : OpenClaim := { program := "ytcfjjnajeccbhaa", sum := "1ae6e3c6f80f453cc60c20cfa87e3784e47fdbf81fe4935380eb3faddd2438b9", func := "loop.example/g01087/laws.FnExactShortestWay", spec := "fnExactShortestWay", unfollowed := true, recurses := true, apart := false, narrowed := true }
def FnExactShortestWayUptoSaid : Prop := fnExactShortestWayUptoRow.holds Try.pinned (OpenSpec.upto fnExactShortestWaySpec)

/-- 'laws.FnExactCoverRun', WHERE WHAT IT READS IS OF BULK AT MOST 1048576: true; the input reads as it did. -/
def fnExactCoverRunUptoRow : OpenClaim := { program := "ytcfjjnajeccbhaa", sum := "1ae6e3c6f80f453cc60c20cfa87e3784e47fdbf81fe4935380eb3faddd2438b9", func := "loop.example/g01087/laws.FnExactCoverRun", spec := "fnExactCoverRun", unfollowed := true, recurses := true, apart := false, narrowed := true }
def FnExactCoverRunUptoSaid : Prop := fnExactCoverRunUptoRow.holds Try.pinned (OpenSpec.upto fnExactCoverRunSpec)

/-- 'laws.FnExactClosedMetric', WHERE WHAT IT READS IS OF BULK AT MOST 1048576: true; the input reads as it did. -/
def fnExactClosedMetricUptoRow : OpenClaim := { program := "ytcfjjnajeccbhaa", sum := "1ae6e3c6f80f453cc60c20cfa87e3784e47fdbf81fe4935380eb3faddd2438b9", func := "loop.example/g01087/laws.FnExactClosedMetric", spec := "fnExactClosedMetric", unfollowed := true, recurses := true, apart := false, narrowed := true }
def FnExactClosedMetricUptoSaid : Prop := fnExactClosedMetricUptoRow.holds Try.pinned (OpenSpec.upto fnExactClosedMetricSpec)

/-- 'laws.FnExactMoveCost', WHERE WHAT IT READS IS OF BULK AT MOST 1048576: true; the input reads as it did. -/
def fnExactMoveCostUptoRow : OpenClaim := { program := "ytcfjjnajeccbhaa", sum := "1ae6e3c6f80f453cc60c20cfa87e3784e47fdbf81fe4935380eb3faddd2438b9", func := "loop.example/g01087/laws.FnExactMoveCost", spec := "fnExactMoveCost", unfollowed := true, recurses := true, apart := false, narrowed := true }
def FnExactMoveCostUptoSaid : Prop := fnExactMoveCostUptoRow.holds Try.pinned (OpenSpec.upto fnExactMoveCostSpec)

/-- 'laws.FnExactTreeMetric', WHERE WHAT IT READS IS OF BULK AT MOST 1048576: true; the input reads as it did. -/
def fnExactTreeMetricUptoRow : OpenClaim := { program := "ytcfjjnajeccbhaa", sum := "1ae6e3c6f80f453cc60c20cfa87e3784e47fdbf81fe4935380eb3faddd2438b9", func := "loop.example/g01087/laws.FnExactTreeMetric", spec := "fnExactTreeMetric", unfollowed := true, recurses := true, apart := false, narrowed := true }
def FnExactTreeMetricUptoSaid : Prop := fnExactTreeMetricUptoRow.holds Try.pinned (OpenSpec.upto fnExactTreeMetricSpec)

/-- 'laws.FnExactScheduleMoves', WHERE WHAT IT READS IS OF BULK AT MOST 1048576: true; the input reads as it did. -/
def fnExactScheduleMovesUptoRow : OpenClaim := { program := "ytcfjjnajeccbhaa", sum := "1ae6e3c6f80f453cc60c20cfa87e3784e47fdbf81fe4935380eb3faddd2438b9", func := "loop.example/g01087/laws.FnExactScheduleMoves", spec := "fnExactScheduleMoves", unfollowed := true, recurses := true, apart := false, narrowed := true }
def FnExactScheduleMovesUptoSaid : Prop := fnExactScheduleMovesUptoRow.holds Try.pinned (OpenSpec.upto fnExactScheduleMovesSpec)

/-- 'laws.FnExactMatchConfigs', WHERE WHAT IT READS IS OF BULK AT MOST 1048576: true; the input reads as it did. -/
def fnExactMatchConfigsUptoRow : OpenClaim := { program := "ytcfjjnajeccbhaa", sum := "1ae6e3c6f80f453cc60c20cfa87e3784e47fdbf81fe4935380eb3faddd2438b9", func := "loop.example/g01087/laws.FnExactMatchConfigs", spec := "fnExactMatchConfigs", unfollowed := true, recurses := true, apart := false, narrowed := true }
def FnExactMatchConfigsUptoSaid : Prop := fnExactMatchConfigsUptoRow.holds Try.pinned (OpenSpec.upto fnExactMatchConfigsSpec)

/-- 'laws.FnExactIsTreeLike', WHERE WHAT IT READS IS OF BULK AT MOST 1048576: true; the input reads as it did. -/
def fnExactIsTreeLikeUptoRow : OpenClaim := { program := "ytcfjjnajeccbhaa", sum := "1ae6e3c6f80f453cc60c20cfa87e3784e47fdbf81fe4935380eb3faddd2438b9", func := "loop.example/g01087/laws.FnExactIsTreeLike", spec := "fnExactIsTreeLike", unfollowed := true, recurses := true, apart := false, narrowed := true }
def FnExactIsTreeLikeUptoSaid : Prop := fnExactIsTreeLikeUptoRow.holds Try.pinned (OpenSpec.upto fnExactIsTreeLikeSpec)

/-- 'laws.FnExactIsIsometry', WHERE WHAT IT READS IS OF BULK AT MOST 1048576: true; the input reads as it did. -/
def fnExactIsIsometryUptoRow : OpenClaim := { program := "ytcfjjnajeccbhaa", sum := "1ae6e3c6f80f453cc60c20cfa87e3784e47fdbf81fe4935380eb3faddd2438b9", func := "loop.example/g01087/laws.FnExactIsIsometry", spec := "fnExactIsIsometry", unfollowed := true, recurses := true, apart := false, narrowed := true }
def FnExactIsIsometryUptoSaid : Prop := fnExactIsIsometryUptoRow.holds Try.pinned (OpenSpec.upto fnExactIsIsometrySpec)

/-- 'laws.FnExactGreedyServers', WHERE WHAT IT READS IS OF BULK AT MOST 1048576: true; the input reads as it did. -/
def fnExactGreedyServersUptoRow : OpenClaim := { program := "ytcfjjnajeccbhaa", sum := "1ae6e3c6f80f453cc60c20cfa87e3784e47fdbf81fe4935380eb3faddd2438b9", func := "loop.example/g01087/laws.FnExactGreedyServers", spec := "fnExactGreedyServers", unfollowed := true, recurses := true, apart := false, narrowed := true }
def FnExactGreedyServersUptoSaid : Prop := fnExactGreedyServersUptoRow.holds Try.pinned (OpenSpec.upto fnExactGreedyServersSpec)

end Rows
end Go.Proofs.Ytcfjjnajeccbhaa
