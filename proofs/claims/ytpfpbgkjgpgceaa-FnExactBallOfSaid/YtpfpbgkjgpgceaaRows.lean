/-
  No cell of these rows narrows 'for every input' (looked for: loops, veiled, ifaces, maps, wideKeys, modest, calm, conditions, laid).
  DERIVED. THE GIVEN ROWS OF THIS SEAT. 12 by the template 'for every input the law returns true; each argument reads behind the call as it read before'; 0 by the template 'total and deterministic' (their statements: YtpfpbgkjgpgceaaTotals.lean).
  GIVEN WITH THE SEED: the statements are not yours to turn. If you find one false, say at which input.
  Laid BY PROGRAM, IN A SANDBOX (cutbox-rows.mjs): the forced cells as the released guide's own fill.sh prints them over the translation 6b49f1c91396426c… (all of the seat's roots in one cut). By AI agents, Wed Nov 11 2026. No macro, syntax, notation, axiom, sorry.
-/
import Derived.Test.YtpfpbgkjgpgceaaChecked
import GoSem.Claim
import GoSem.ClaimJoined
import GoSem.ClaimMapViews
import Derived.JoinedTies
import Derived.KernelRfl
namespace Go.Proofs.Ytpfpbgkjgpgceaa
/- THE CELL 'sum', in the pinned program and in every row, IS THE sha256 OF THE DUMP (.gsa) THAT YtpfpbgkjgpgceaaProg.lean LOADS. Nothing in Lean hashes anything: it is a label: what it is worth is what the hold of that sum in a sandbox is worth. -/
noncomputable def Try.pinned : Pinned := { name := "ytpfpbgkjgpgceaa", sum := "6b49f1c91396426c86e5e7db94f72bf67de7265a9c2c9fd002458d4dfa75568f", checked := Try.checked }
namespace Rows
def none {H : Type} : Left H := { results := [], args := [] }

/-- 'laws.FnExactConfigsOf': WHATEVER THE INPUT: true; the input reads as it did. -/
def fnExactConfigsOfSpec : ChangeSpec := { name := "fnExactConfigsOf", fn := fun _ => fun
  | [d1, d2] => { results := [.lit (.bool true)], args := [d1, d2] }
  | _ => none }
def fnExactConfigsOfRow : OpenClaim := { program := "ytpfpbgkjgpgceaa", sum := "6b49f1c91396426c86e5e7db94f72bf67de7265a9c2c9fd002458d4dfa75568f", func := "loop.example/g01087/laws.FnExactConfigsOf", spec := "fnExactConfigsOf", recurses := true, apart := false }
def FnExactConfigsOfSaid : Prop := fnExactConfigsOfRow.holds Try.pinned (OpenSpec.ofChange fnExactConfigsOfSpec)

/-- ITS FALSE NEIGHBOUR: 'it returns false'. Refute it at one input. -/
def fnExactConfigsOfWrong : ChangeSpec := { name := "fnExactConfigsOf", fn := fun _ => fun
  | [d1, d2] => { results := [.lit (.bool false)], args := [d1, d2] }
  | _ => none }
def FnExactConfigsOfWrongFalsely : Prop := fnExactConfigsOfRow.holds Try.pinned (OpenSpec.ofChange fnExactConfigsOfWrong)

/-- 'laws.FnExactRowDistance': WHATEVER THE INPUT: true; the input reads as it did. -/
def fnExactRowDistanceSpec : ChangeSpec := { name := "fnExactRowDistance", fn := fun _ => fun
  | [d1, d2] => { results := [.lit (.bool true)], args := [d1, d2] }
  | _ => none }
def fnExactRowDistanceRow : OpenClaim := { program := "ytpfpbgkjgpgceaa", sum := "6b49f1c91396426c86e5e7db94f72bf67de7265a9c2c9fd002458d4dfa75568f", func := "loop.example/g01087/laws.FnExactRowDistance", spec := "fnExactRowDistance", unfollowed := true, recurses := true, apart := false }
def FnExactRowDistanceSaid : Prop := fnExactRowDistanceRow.holds Try.pinned (OpenSpec.ofChange fnExactRowDistanceSpec)

/-- ITS FALSE NEIGHBOUR: 'it returns false'. Refute it at one input. -/
def fnExactRowDistanceWrong : ChangeSpec := { name := "fnExactRowDistance", fn := fun _ => fun
  | [d1, d2] => { results := [.lit (.bool false)], args := [d1, d2] }
  | _ => none }
def FnExactRowDistanceWrongFalsely : Prop := fnExactRowDistanceRow.holds Try.pinned (OpenSpec.ofChange fnExactRowDistanceWrong)

/-- 'laws.FnExactCoverPotential': WHATEVER THE INPUT: true; the input reads as it did. -/
def fnExactCoverPotentialSpec : ChangeSpec := { name := "fnExactCoverPotential", fn := fun _ => fun
  | [d1, d2] => { results := [.lit (.bool true)], args := [d1, d2] }
  | _ => none }
def fnExactCoverPotentialRow : OpenClaim := { program := "ytpfpbgkjgpgceaa", sum := "6b49f1c91396426c86e5e7db94f72bf67de7265a9c2c9fd002458d4dfa75568f", func := "loop.example/g01087/laws.FnExactCoverPotential", spec := "fnExactCoverPotential", unfollowed := true, recurses := true, apart := false }
def FnExactCoverPotentialSaid : Prop := fnExactCoverPotentialRow.holds Try.pinned (OpenSpec.ofChange fnExactCoverPotentialSpec)

/-- ITS FALSE NEIGHBOUR: 'it returns false'. Refute it at one input. -/
def fnExactCoverPotentialWrong : ChangeSpec := { name := "fnExactCoverPotential", fn := fun _ => fun
  | [d1, d2] => { results := [.lit (.bool false)], args := [d1, d2] }
  | _ => none }
def FnExactCoverPotentialWrongFalsely : Prop := fnExactCoverPotentialRow.holds Try.pinned (OpenSpec.ofChange fnExactCoverPotentialWrong)

/-- 'laws.FnExactIsMetric': WHATEVER THE INPUT: true; the input reads as it did. -/
def fnExactIsMetricSpec : ChangeSpec := { name := "fnExactIsMetric", fn := fun _ => fun
  | [d] => { results := [.lit (.bool true)], args := [d] }
  | _ => none }
def fnExactIsMetricRow : OpenClaim := { program := "ytpfpbgkjgpgceaa", sum := "6b49f1c91396426c86e5e7db94f72bf67de7265a9c2c9fd002458d4dfa75568f", func := "loop.example/g01087/laws.FnExactIsMetric", spec := "fnExactIsMetric", unfollowed := true, recurses := true, apart := false }
def FnExactIsMetricSaid : Prop := fnExactIsMetricRow.holds Try.pinned (OpenSpec.ofChange fnExactIsMetricSpec)

/-- ITS FALSE NEIGHBOUR: 'it returns false'. Refute it at one input. -/
def fnExactIsMetricWrong : ChangeSpec := { name := "fnExactIsMetric", fn := fun _ => fun
  | [d] => { results := [.lit (.bool false)], args := [d] }
  | _ => none }
def FnExactIsMetricWrongFalsely : Prop := fnExactIsMetricRow.holds Try.pinned (OpenSpec.ofChange fnExactIsMetricWrong)

/-- 'laws.FnExactUniformMetric': WHATEVER THE INPUT: true; the input reads as it did. -/
def fnExactUniformMetricSpec : ChangeSpec := { name := "fnExactUniformMetric", fn := fun _ => fun
  | [d1, d2] => { results := [.lit (.bool true)], args := [d1, d2] }
  | _ => none }
def fnExactUniformMetricRow : OpenClaim := { program := "ytpfpbgkjgpgceaa", sum := "6b49f1c91396426c86e5e7db94f72bf67de7265a9c2c9fd002458d4dfa75568f", func := "loop.example/g01087/laws.FnExactUniformMetric", spec := "fnExactUniformMetric", unfollowed := true, recurses := true, apart := false }
def FnExactUniformMetricSaid : Prop := fnExactUniformMetricRow.holds Try.pinned (OpenSpec.ofChange fnExactUniformMetricSpec)

/-- ITS FALSE NEIGHBOUR: 'it returns false'. Refute it at one input. -/
def fnExactUniformMetricWrong : ChangeSpec := { name := "fnExactUniformMetric", fn := fun _ => fun
  | [d1, d2] => { results := [.lit (.bool false)], args := [d1, d2] }
  | _ => none }
def FnExactUniformMetricWrongFalsely : Prop := fnExactUniformMetricRow.holds Try.pinned (OpenSpec.ofChange fnExactUniformMetricWrong)

/-- 'laws.FnSplitJoin': WHATEVER THE INPUT: true; the input reads as it did. -/
def fnSplitJoinSpec : ChangeSpec := { name := "fnSplitJoin", fn := fun _ => fun
  | [d] => { results := [.lit (.bool true)], args := [d] }
  | _ => none }
def fnSplitJoinRow : OpenClaim := { program := "ytpfpbgkjgpgceaa", sum := "6b49f1c91396426c86e5e7db94f72bf67de7265a9c2c9fd002458d4dfa75568f", func := "loop.example/g01087/laws.FnSplitJoin", spec := "fnSplitJoin", inPlace := ["internal/bytealg.IndexByteString", "internal/abi.NoEscape", "internal/bytealg.MakeNoZero"], apart := false }
def FnSplitJoinSaid : Prop := fnSplitJoinRow.holds Try.pinned (OpenSpec.ofChange fnSplitJoinSpec)

/-- ITS FALSE NEIGHBOUR: 'it returns false'. Refute it at one input. -/
def fnSplitJoinWrong : ChangeSpec := { name := "fnSplitJoin", fn := fun _ => fun
  | [d] => { results := [.lit (.bool false)], args := [d] }
  | _ => none }
def FnSplitJoinWrongFalsely : Prop := fnSplitJoinRow.holds Try.pinned (OpenSpec.ofChange fnSplitJoinWrong)

/-- 'laws.FnExactFirstDetour': WHATEVER THE INPUT: true; the input reads as it did. -/
def fnExactFirstDetourSpec : ChangeSpec := { name := "fnExactFirstDetour", fn := fun _ => fun
  | [d] => { results := [.lit (.bool true)], args := [d] }
  | _ => none }
def fnExactFirstDetourRow : OpenClaim := { program := "ytpfpbgkjgpgceaa", sum := "6b49f1c91396426c86e5e7db94f72bf67de7265a9c2c9fd002458d4dfa75568f", func := "loop.example/g01087/laws.FnExactFirstDetour", spec := "fnExactFirstDetour", unfollowed := true, recurses := true, apart := false }
def FnExactFirstDetourSaid : Prop := fnExactFirstDetourRow.holds Try.pinned (OpenSpec.ofChange fnExactFirstDetourSpec)

/-- ITS FALSE NEIGHBOUR: 'it returns false'. Refute it at one input. -/
def fnExactFirstDetourWrong : ChangeSpec := { name := "fnExactFirstDetour", fn := fun _ => fun
  | [d] => { results := [.lit (.bool false)], args := [d] }
  | _ => none }
def FnExactFirstDetourWrongFalsely : Prop := fnExactFirstDetourRow.holds Try.pinned (OpenSpec.ofChange fnExactFirstDetourWrong)

/-- 'laws.FnExactCoverStep': WHATEVER THE INPUT: true; the input reads as it did. -/
def fnExactCoverStepSpec : ChangeSpec := { name := "fnExactCoverStep", fn := fun _ => fun
  | [d1, d2] => { results := [.lit (.bool true)], args := [d1, d2] }
  | _ => none }
def fnExactCoverStepRow : OpenClaim := { program := "ytpfpbgkjgpgceaa", sum := "6b49f1c91396426c86e5e7db94f72bf67de7265a9c2c9fd002458d4dfa75568f", func := "loop.example/g01087/laws.FnExactCoverStep", spec := "fnExactCoverStep", unfollowed := true, recurses := true, apart := false }
def FnExactCoverStepSaid : Prop := fnExactCoverStepRow.holds Try.pinned (OpenSpec.ofChange fnExactCoverStepSpec)

/-- ITS FALSE NEIGHBOUR: 'it returns false'. Refute it at one input. -/
def fnExactCoverStepWrong : ChangeSpec := { name := "fnExactCoverStep", fn := fun _ => fun
  | [d1, d2] => { results := [.lit (.bool false)], args := [d1, d2] }
  | _ => none }
def FnExactCoverStepWrongFalsely : Prop := fnExactCoverStepRow.holds Try.pinned (OpenSpec.ofChange fnExactCoverStepWrong)

/-- 'laws.FnExactStarMetric': WHATEVER THE INPUT: true; the input reads as it did. -/
def fnExactStarMetricSpec : ChangeSpec := { name := "fnExactStarMetric", fn := fun _ => fun
  | [d] => { results := [.lit (.bool true)], args := [d] }
  | _ => none }
def fnExactStarMetricRow : OpenClaim := { program := "ytpfpbgkjgpgceaa", sum := "6b49f1c91396426c86e5e7db94f72bf67de7265a9c2c9fd002458d4dfa75568f", func := "loop.example/g01087/laws.FnExactStarMetric", spec := "fnExactStarMetric", unfollowed := true, recurses := true, apart := false }
def FnExactStarMetricSaid : Prop := fnExactStarMetricRow.holds Try.pinned (OpenSpec.ofChange fnExactStarMetricSpec)

/-- ITS FALSE NEIGHBOUR: 'it returns false'. Refute it at one input. -/
def fnExactStarMetricWrong : ChangeSpec := { name := "fnExactStarMetric", fn := fun _ => fun
  | [d] => { results := [.lit (.bool false)], args := [d] }
  | _ => none }
def FnExactStarMetricWrongFalsely : Prop := fnExactStarMetricRow.holds Try.pinned (OpenSpec.ofChange fnExactStarMetricWrong)

/-- 'laws.FnExactDiameterOf': WHATEVER THE INPUT: true; the input reads as it did. -/
def fnExactDiameterOfSpec : ChangeSpec := { name := "fnExactDiameterOf", fn := fun _ => fun
  | [d] => { results := [.lit (.bool true)], args := [d] }
  | _ => none }
def fnExactDiameterOfRow : OpenClaim := { program := "ytpfpbgkjgpgceaa", sum := "6b49f1c91396426c86e5e7db94f72bf67de7265a9c2c9fd002458d4dfa75568f", func := "loop.example/g01087/laws.FnExactDiameterOf", spec := "fnExactDiameterOf", unfollowed := true, recurses := true, apart := false }
def FnExactDiameterOfSaid : Prop := fnExactDiameterOfRow.holds Try.pinned (OpenSpec.ofChange fnExactDiameterOfSpec)

/-- ITS FALSE NEIGHBOUR: 'it returns false'. Refute it at one input. -/
def fnExactDiameterOfWrong : ChangeSpec := { name := "fnExactDiameterOf", fn := fun _ => fun
  | [d] => { results := [.lit (.bool false)], args := [d] }
  | _ => none }
def FnExactDiameterOfWrongFalsely : Prop := fnExactDiameterOfRow.holds Try.pinned (OpenSpec.ofChange fnExactDiameterOfWrong)

/-- 'laws.FnExactLineMetric': WHATEVER THE INPUT: true; the input reads as it did. -/
def fnExactLineMetricSpec : ChangeSpec := { name := "fnExactLineMetric", fn := fun _ => fun
  | [d] => { results := [.lit (.bool true)], args := [d] }
  | _ => none }
def fnExactLineMetricRow : OpenClaim := { program := "ytpfpbgkjgpgceaa", sum := "6b49f1c91396426c86e5e7db94f72bf67de7265a9c2c9fd002458d4dfa75568f", func := "loop.example/g01087/laws.FnExactLineMetric", spec := "fnExactLineMetric", unfollowed := true, recurses := true, apart := false }
def FnExactLineMetricSaid : Prop := fnExactLineMetricRow.holds Try.pinned (OpenSpec.ofChange fnExactLineMetricSpec)

/-- ITS FALSE NEIGHBOUR: 'it returns false'. Refute it at one input. -/
def fnExactLineMetricWrong : ChangeSpec := { name := "fnExactLineMetric", fn := fun _ => fun
  | [d] => { results := [.lit (.bool false)], args := [d] }
  | _ => none }
def FnExactLineMetricWrongFalsely : Prop := fnExactLineMetricRow.holds Try.pinned (OpenSpec.ofChange fnExactLineMetricWrong)

/-- 'laws.FnExactBallOf': WHATEVER THE INPUT: true; the input reads as it did. -/
def fnExactBallOfSpec : ChangeSpec := { name := "fnExactBallOf", fn := fun _ => fun
  | [d1, d2, d3] => { results := [.lit (.bool true)], args := [d1, d2, d3] }
  | _ => none }
def fnExactBallOfRow : OpenClaim := { program := "ytpfpbgkjgpgceaa", sum := "6b49f1c91396426c86e5e7db94f72bf67de7265a9c2c9fd002458d4dfa75568f", func := "loop.example/g01087/laws.FnExactBallOf", spec := "fnExactBallOf", unfollowed := true, recurses := true, apart := false }
def FnExactBallOfSaid : Prop := fnExactBallOfRow.holds Try.pinned (OpenSpec.ofChange fnExactBallOfSpec)

/-- ITS FALSE NEIGHBOUR: 'it returns false'. Refute it at one input. -/
def fnExactBallOfWrong : ChangeSpec := { name := "fnExactBallOf", fn := fun _ => fun
  | [d1, d2, d3] => { results := [.lit (.bool false)], args := [d1, d2, d3] }
  | _ => none }
def FnExactBallOfWrongFalsely : Prop := fnExactBallOfRow.holds Try.pinned (OpenSpec.ofChange fnExactBallOfWrong)

/- THE SECOND FORM. 'bulk': how many values and letters a reading holds, each counted each time it is reached (what is shared counts as often as it is met; a slice's spare places count too). A statement '..UptoSaid' is the law's where the arguments, and the package variables that the reading takes, are together of bulk at most 1048576: NARROWER than '..Said'. Prove '..Said' where nothing that the law and all that it calls make is longer than what came in: it says more and counts as full. Else prove '..UptoSaid'. A law counts once. -/
mutual
def uptoBulk {H : Type} : DataW H → Nat
  | .lit (.string bytes) => bytes.length + 1
  | .lit _ => 1
  | .nil => 1
  | .ptr d => uptoBulk d + 1
  | .slice elems spare => uptoBulkAll elems + uptoBulkAll spare + 1
  | .agg parts => uptoBulkAll parts + 1
  | .iface _ d => uptoBulk d + 1
  | .map entries => uptoBulkEntries entries + 1
  | .held _ => 1
def uptoBulkAll {H : Type} : List (DataW H) → Nat
  | [] => 0
  | d :: r => uptoBulk d + uptoBulkAll r
def uptoBulkEntries {H : Type} : List (Lit × DataW H) → Nat
  | [] => 0
  | x :: r => uptoBulkEntry x + uptoBulkEntries r
def uptoBulkEntry {H : Type} : Lit × DataW H → Nat
  | (.string bytes, d) => bytes.length + uptoBulk d + 1
  | (_, d) => uptoBulk d + 1
 end
def uptoSmall : (H : Type) → List (DataW H) → Bool := fun _ ds => decide (uptoBulkAll ds ≤ 1048576)
def OpenSpec.upto (s : _root_.Go.ChangeSpec) : _root_.Go.OpenSpec := { _root_.Go.OpenSpec.ofChange s with cond := some uptoSmall }

/-- 'laws.FnExactConfigsOf', WHERE WHAT IT READS IS OF BULK AT MOST 1048576: true; the input reads as it did. -/
def fnExactConfigsOfUptoRow : OpenClaim := { program := "ytpfpbgkjgpgceaa", sum := "6b49f1c91396426c86e5e7db94f72bf67de7265a9c2c9fd002458d4dfa75568f", func := "loop.example/g01087/laws.FnExactConfigsOf", spec := "fnExactConfigsOf", recurses := true, apart := false, narrowed := true }
def FnExactConfigsOfUptoSaid : Prop := fnExactConfigsOfUptoRow.holds Try.pinned (OpenSpec.upto fnExactConfigsOfSpec)

/-- 'laws.FnExactRowDistance', WHERE WHAT IT READS IS OF BULK AT MOST 1048576: true; the input reads as it did. -/
def fnExactRowDistanceUptoRow : OpenClaim := { program := "ytpfpbgkjgpgceaa", sum := "6b49f1c91396426c86e5e7db94f72bf67de7265a9c2c9fd002458d4dfa75568f", func := "loop.example/g01087/laws.FnExactRowDistance", spec := "fnExactRowDistance", unfollowed := true, recurses := true, apart := false, narrowed := true }
def FnExactRowDistanceUptoSaid : Prop := fnExactRowDistanceUptoRow.holds Try.pinned (OpenSpec.upto fnExactRowDistanceSpec)

/-- 'laws.FnExactCoverPotential', WHERE WHAT IT READS IS OF BULK AT MOST 1048576: true; the input reads as it did. -/
def fnExactCoverPotentialUptoRow : OpenClaim := { program := "ytpfpbgkjgpgceaa", sum := "6b49f1c91396426c86e5e7db94f72bf67de7265a9c2c9fd002458d4dfa75568f", func := "loop.example/g01087/laws.FnExactCoverPotential", spec := "fnExactCoverPotential", unfollowed := true, recurses := true, apart := false, narrowed := true }
def FnExactCoverPotentialUptoSaid : Prop := fnExactCoverPotentialUptoRow.holds Try.pinned (OpenSpec.upto fnExactCoverPotentialSpec)

/-- 'laws.FnExactIsMetric', WHERE WHAT IT READS IS OF BULK AT MOST 1048576: true; the input reads as it did. -/
def fnExactIsMetricUptoRow : OpenClaim := { program := "ytpfpbgkjgpgceaa", sum := "6b49f1c91396426c86e5e7db94f72bf67de7265a9c2c9fd002458d4dfa75568f", func := "loop.example/g01087/laws.FnExactIsMetric", spec := "fnExactIsMetric", unfollowed := true, recurses := true, apart := false, narrowed := true }
def FnExactIsMetricUptoSaid : Prop := fnExactIsMetricUptoRow.holds Try.pinned (OpenSpec.upto fnExactIsMetricSpec)

/-- 'laws.FnExactUniformMetric', WHERE WHAT IT READS IS OF BULK AT MOST 1048576: true; the input reads as it did. -/
def fnExactUniformMetricUptoRow : OpenClaim := { program := "ytpfpbgkjgpgceaa", sum := "6b49f1c91396426c86e5e7db94f72bf67de7265a9c2c9fd002458d4dfa75568f", func := "loop.example/g01087/laws.FnExactUniformMetric", spec := "fnExactUniformMetric", unfollowed := true, recurses := true, apart := false, narrowed := true }
def FnExactUniformMetricUptoSaid : Prop := fnExactUniformMetricUptoRow.holds Try.pinned (OpenSpec.upto fnExactUniformMetricSpec)

/-- 'laws.FnSplitJoin', WHERE WHAT IT READS IS OF BULK AT MOST 1048576: true; the input reads as it did. -/
def fnSplitJoinUptoRow : OpenClaim := { program := "ytpfpbgkjgpgceaa", sum := "6b49f1c91396426c86e5e7db94f72bf67de7265a9c2c9fd002458d4dfa75568f", func := "loop.example/g01087/laws.FnSplitJoin", spec := "fnSplitJoin", inPlace := ["internal/bytealg.IndexByteString", "internal/abi.NoEscape", "internal/bytealg.MakeNoZero"], apart := false, narrowed := true }
def FnSplitJoinUptoSaid : Prop := fnSplitJoinUptoRow.holds Try.pinned (OpenSpec.upto fnSplitJoinSpec)

/-- 'laws.FnExactFirstDetour', WHERE WHAT IT READS IS OF BULK AT MOST 1048576: true; the input reads as it did. -/
def fnExactFirstDetourUptoRow : OpenClaim := { program := "ytpfpbgkjgpgceaa", sum := "6b49f1c91396426c86e5e7db94f72bf67de7265a9c2c9fd002458d4dfa75568f", func := "loop.example/g01087/laws.FnExactFirstDetour", spec := "fnExactFirstDetour", unfollowed := true, recurses := true, apart := false, narrowed := true }
def FnExactFirstDetourUptoSaid : Prop := fnExactFirstDetourUptoRow.holds Try.pinned (OpenSpec.upto fnExactFirstDetourSpec)

/-- 'laws.FnExactCoverStep', WHERE WHAT IT READS IS OF BULK AT MOST 1048576: true; the input reads as it did. -/
def fnExactCoverStepUptoRow : OpenClaim := { program := "ytpfpbgkjgpgceaa", sum := "6b49f1c91396426c86e5e7db94f72bf67de7265a9c2c9fd002458d4dfa75568f", func := "loop.example/g01087/laws.FnExactCoverStep", spec := "fnExactCoverStep", unfollowed := true, recurses := true, apart := false, narrowed := true }
def FnExactCoverStepUptoSaid : Prop := fnExactCoverStepUptoRow.holds Try.pinned (OpenSpec.upto fnExactCoverStepSpec)

/-- 'laws.FnExactStarMetric', WHERE WHAT IT READS IS OF BULK AT MOST 1048576: true; the input reads as it did. -/
def fnExactStarMetricUptoRow : OpenClaim := { program := "ytpfpbgkjgpgceaa", sum := "6b49f1c91396426c86e5e7db94f72bf67de7265a9c2c9fd002458d4dfa75568f", func := "loop.example/g01087/laws.FnExactStarMetric", spec := "fnExactStarMetric", unfollowed := true, recurses := true, apart := false, narrowed := true }
def FnExactStarMetricUptoSaid : Prop := fnExactStarMetricUptoRow.holds Try.pinned (OpenSpec.upto fnExactStarMetricSpec)

/-- 'laws.FnExactDiameterOf', WHERE WHAT IT READS IS OF BULK AT MOST 1048576: true; the input reads as it did. -/
def fnExactDiameterOfUptoRow : OpenClaim := { program := "ytpfpbgkjgpgceaa", sum := "6b49f1c91396426c86e5e7db94f72bf67de7265a9c2c9fd002458d4dfa75568f", func := "loop.example/g01087/laws.FnExactDiameterOf", spec := "fnExactDiameterOf", unfollowed := true, recurses := true, apart := false, narrowed := true }
def FnExactDiameterOfUptoSaid : Prop := fnExactDiameterOfUptoRow.holds Try.pinned (OpenSpec.upto fnExactDiameterOfSpec)

/-- 'laws.FnExactLineMetric', WHERE WHAT IT READS IS OF BULK AT MOST 1048576: true; the input reads as it did. -/
def fnExactLineMetricUptoRow : OpenClaim := { program := "ytpfpbgkjgpgceaa", sum := "6b49f1c91396426c86e5e7db94f72bf67de7265a9c2c9fd002458d4dfa75568f", func := "loop.example/g01087/laws.FnExactLineMetric", spec := "fnExactLineMetric", unfollowed := true, recurses := true, apart := false, narrowed := true }
def FnExactLineMetricUptoSaid : Prop := fnExactLineMetricUptoRow.holds Try.pinned (OpenSpec.upto fnExactLineMetricSpec)

/-- 'laws.FnExactBallOf', WHERE WHAT IT READS IS OF BULK AT MOST 1048576: true; the input reads as it did. -/
def fnExactBallOfUptoRow : OpenClaim := { program := "ytpfpbgkjgpgceaa", sum := "6b49f1c91396426c86e5e7db94f72bf67de7265a9c2c9fd002458d4dfa75568f", func := "loop.example/g01087/laws.FnExactBallOf", spec := "fnExactBallOf", unfollowed := true, recurses := true, apart := false, narrowed := true }
def FnExactBallOfUptoSaid : Prop := fnExactBallOfUptoRow.holds Try.pinned (OpenSpec.upto fnExactBallOfSpec)

end Rows
end Go.Proofs.Ytpfpbgkjgpgceaa
