/-
  No cell of these rows narrows 'for every input' (looked for: loops, veiled, ifaces, maps, wideKeys, modest, calm, conditions, laid).
  DERIVED. THE GIVEN ROWS OF THIS SEAT. 10 by the template 'for every input the law returns true; each argument reads behind the call as it read before'; 0 by the template 'total and deterministic' (their statements: YtlhmmhlfledleaaTotals.lean).
  GIVEN WITH THE SEED: the statements are not yours to turn. If you find one false, say at which input.
  Laid BY PROGRAM, IN A SANDBOX (cutbox-rows.mjs): the forced cells as the released guide's own fill.sh prints them over the translation 283c1b35d1cf051a… (all of the seat's roots in one cut). By AI agents, Wed Nov 11 2026. No macro, syntax, notation, axiom, sorry.
-/
import Derived.Test.YtlhmmhlfledleaaChecked
import GoSem.Claim
import GoSem.ClaimJoined
import GoSem.ClaimMapViews
import Derived.JoinedTies
import Derived.KernelRfl
namespace Go.Proofs.Ytlhmmhlfledleaa
/- THE CELL 'sum', in the pinned program and in every row, IS THE sha256 OF THE DUMP (.gsa) THAT YtlhmmhlfledleaaProg.lean LOADS. Nothing in Lean hashes anything: it is a label: what it is worth is what the hold of that sum in a sandbox is worth. -/
noncomputable def Try.pinned : Pinned := { name := "ytlhmmhlfledleaa", sum := "283c1b35d1cf051a0dd90a1dc94c8e0a7e2e4764d641a34ad814687892877e7c", checked := Try.checked }
namespace Rows
def none {H : Type} : Left H := { results := [], args := [] }

/-- 'laws.FnExactPlanFaults': WHATEVER THE INPUT: true; the input reads as it did. -/
def fnExactPlanFaultsSpec : ChangeSpec := { name := "fnExactPlanFaults", fn := fun _ => fun
  | [d1, d2, d3, d4] => { results := [.lit (.bool true)], args := [d1, d2, d3, d4] }
  | _ => none }
def fnExactPlanFaultsRow : OpenClaim := { program := "ytlhmmhlfledleaa", sum := "283c1b35d1cf051a0dd90a1dc94c8e0a7e2e4764d641a34ad814687892877e7c", func := "loop.example/g01087/laws.FnExactPlanFaults", spec := "fnExactPlanFaults", unfollowed := true, recurses := true, plainKeys := false, apart := false }
def FnExactPlanFaultsSaid : Prop := fnExactPlanFaultsRow.holds Try.pinned (OpenSpec.ofChange fnExactPlanFaultsSpec)

/-- ITS FALSE NEIGHBOUR: 'it returns false'. Refute it at one input. -/
def fnExactPlanFaultsWrong : ChangeSpec := { name := "fnExactPlanFaults", fn := fun _ => fun
  | [d1, d2, d3, d4] => { results := [.lit (.bool false)], args := [d1, d2, d3, d4] }
  | _ => none }
def FnExactPlanFaultsWrongFalsely : Prop := fnExactPlanFaultsRow.holds Try.pinned (OpenSpec.ofChange fnExactPlanFaultsWrong)

/-- 'laws.FnExactFarthestPlan': WHATEVER THE INPUT: true; the input reads as it did. -/
def fnExactFarthestPlanSpec : ChangeSpec := { name := "fnExactFarthestPlan", fn := fun _ => fun
  | [d1, d2, d3] => { results := [.lit (.bool true)], args := [d1, d2, d3] }
  | _ => none }
def fnExactFarthestPlanRow : OpenClaim := { program := "ytlhmmhlfledleaa", sum := "283c1b35d1cf051a0dd90a1dc94c8e0a7e2e4764d641a34ad814687892877e7c", func := "loop.example/g01087/laws.FnExactFarthestPlan", spec := "fnExactFarthestPlan", unfollowed := true, recurses := true, plainKeys := false, apart := false }
def FnExactFarthestPlanSaid : Prop := fnExactFarthestPlanRow.holds Try.pinned (OpenSpec.ofChange fnExactFarthestPlanSpec)

/-- ITS FALSE NEIGHBOUR: 'it returns false'. Refute it at one input. -/
def fnExactFarthestPlanWrong : ChangeSpec := { name := "fnExactFarthestPlan", fn := fun _ => fun
  | [d1, d2, d3] => { results := [.lit (.bool false)], args := [d1, d2, d3] }
  | _ => none }
def FnExactFarthestPlanWrongFalsely : Prop := fnExactFarthestPlanRow.holds Try.pinned (OpenSpec.ofChange fnExactFarthestPlanWrong)

/-- 'laws.FnExactFewestFaults': WHATEVER THE INPUT: true; the input reads as it did. -/
def fnExactFewestFaultsSpec : ChangeSpec := { name := "fnExactFewestFaults", fn := fun _ => fun
  | [d1, d2, d3] => { results := [.lit (.bool true)], args := [d1, d2, d3] }
  | _ => none }
def fnExactFewestFaultsRow : OpenClaim := { program := "ytlhmmhlfledleaa", sum := "283c1b35d1cf051a0dd90a1dc94c8e0a7e2e4764d641a34ad814687892877e7c", func := "loop.example/g01087/laws.FnExactFewestFaults", spec := "fnExactFewestFaults", unfollowed := true, recurses := true, plainKeys := false, apart := false }
def FnExactFewestFaultsSaid : Prop := fnExactFewestFaultsRow.holds Try.pinned (OpenSpec.ofChange fnExactFewestFaultsSpec)

/-- ITS FALSE NEIGHBOUR: 'it returns false'. Refute it at one input. -/
def fnExactFewestFaultsWrong : ChangeSpec := { name := "fnExactFewestFaults", fn := fun _ => fun
  | [d1, d2, d3] => { results := [.lit (.bool false)], args := [d1, d2, d3] }
  | _ => none }
def FnExactFewestFaultsWrongFalsely : Prop := fnExactFewestFaultsRow.holds Try.pinned (OpenSpec.ofChange fnExactFewestFaultsWrong)

/-- 'laws.FnExactPlanCaches': WHATEVER THE INPUT: true; the input reads as it did. -/
def fnExactPlanCachesSpec : ChangeSpec := { name := "fnExactPlanCaches", fn := fun _ => fun
  | [d1, d2, d3, d4] => { results := [.lit (.bool true)], args := [d1, d2, d3, d4] }
  | _ => none }
def fnExactPlanCachesRow : OpenClaim := { program := "ytlhmmhlfledleaa", sum := "283c1b35d1cf051a0dd90a1dc94c8e0a7e2e4764d641a34ad814687892877e7c", func := "loop.example/g01087/laws.FnExactPlanCaches", spec := "fnExactPlanCaches", unfollowed := true, recurses := true, plainKeys := false, apart := false }
def FnExactPlanCachesSaid : Prop := fnExactPlanCachesRow.holds Try.pinned (OpenSpec.ofChange fnExactPlanCachesSpec)

/-- ITS FALSE NEIGHBOUR: 'it returns false'. Refute it at one input. -/
def fnExactPlanCachesWrong : ChangeSpec := { name := "fnExactPlanCaches", fn := fun _ => fun
  | [d1, d2, d3, d4] => { results := [.lit (.bool false)], args := [d1, d2, d3, d4] }
  | _ => none }
def FnExactPlanCachesWrongFalsely : Prop := fnExactPlanCachesRow.holds Try.pinned (OpenSpec.ofChange fnExactPlanCachesWrong)

/-- 'laws.FnExactOptimalCurve': WHATEVER THE INPUT: true; the input reads as it did. -/
def fnExactOptimalCurveSpec : ChangeSpec := { name := "fnExactOptimalCurve", fn := fun _ => fun
  | [d1, d2] => { results := [.lit (.bool true)], args := [d1, d2] }
  | _ => none }
def fnExactOptimalCurveRow : OpenClaim := { program := "ytlhmmhlfledleaa", sum := "283c1b35d1cf051a0dd90a1dc94c8e0a7e2e4764d641a34ad814687892877e7c", func := "loop.example/g01087/laws.FnExactOptimalCurve", spec := "fnExactOptimalCurve", unfollowed := true, recurses := true, plainKeys := false, apart := false }
def FnExactOptimalCurveSaid : Prop := fnExactOptimalCurveRow.holds Try.pinned (OpenSpec.ofChange fnExactOptimalCurveSpec)

/-- ITS FALSE NEIGHBOUR: 'it returns false'. Refute it at one input. -/
def fnExactOptimalCurveWrong : ChangeSpec := { name := "fnExactOptimalCurve", fn := fun _ => fun
  | [d1, d2] => { results := [.lit (.bool false)], args := [d1, d2] }
  | _ => none }
def FnExactOptimalCurveWrongFalsely : Prop := fnExactOptimalCurveRow.holds Try.pinned (OpenSpec.ofChange fnExactOptimalCurveWrong)

/-- 'laws.FnExactLazyPlan': WHATEVER THE INPUT: true; the input reads as it did. -/
def fnExactLazyPlanSpec : ChangeSpec := { name := "fnExactLazyPlan", fn := fun _ => fun
  | [d1, d2, d3, d4] => { results := [.lit (.bool true)], args := [d1, d2, d3, d4] }
  | _ => none }
def fnExactLazyPlanRow : OpenClaim := { program := "ytlhmmhlfledleaa", sum := "283c1b35d1cf051a0dd90a1dc94c8e0a7e2e4764d641a34ad814687892877e7c", func := "loop.example/g01087/laws.FnExactLazyPlan", spec := "fnExactLazyPlan", unfollowed := true, recurses := true, plainKeys := false, apart := false }
def FnExactLazyPlanSaid : Prop := fnExactLazyPlanRow.holds Try.pinned (OpenSpec.ofChange fnExactLazyPlanSpec)

/-- ITS FALSE NEIGHBOUR: 'it returns false'. Refute it at one input. -/
def fnExactLazyPlanWrong : ChangeSpec := { name := "fnExactLazyPlan", fn := fun _ => fun
  | [d1, d2, d3, d4] => { results := [.lit (.bool false)], args := [d1, d2, d3, d4] }
  | _ => none }
def FnExactLazyPlanWrongFalsely : Prop := fnExactLazyPlanRow.holds Try.pinned (OpenSpec.ofChange fnExactLazyPlanWrong)

/-- 'laws.FnExactFlowCost': WHATEVER THE INPUT: true; the input reads as it did. -/
def fnExactFlowCostSpec : ChangeSpec := { name := "fnExactFlowCost", fn := fun _ => fun
  | [d1, d2, d3] => { results := [.lit (.bool true)], args := [d1, d2, d3] }
  | _ => none }
def fnExactFlowCostRow : OpenClaim := { program := "ytlhmmhlfledleaa", sum := "283c1b35d1cf051a0dd90a1dc94c8e0a7e2e4764d641a34ad814687892877e7c", func := "loop.example/g01087/laws.FnExactFlowCost", spec := "fnExactFlowCost", unfollowed := true, recurses := true, plainKeys := false, apart := false }
def FnExactFlowCostSaid : Prop := fnExactFlowCostRow.holds Try.pinned (OpenSpec.ofChange fnExactFlowCostSpec)

/-- ITS FALSE NEIGHBOUR: 'it returns false'. Refute it at one input. -/
def fnExactFlowCostWrong : ChangeSpec := { name := "fnExactFlowCost", fn := fun _ => fun
  | [d1, d2, d3] => { results := [.lit (.bool false)], args := [d1, d2, d3] }
  | _ => none }
def FnExactFlowCostWrongFalsely : Prop := fnExactFlowCostRow.holds Try.pinned (OpenSpec.ofChange fnExactFlowCostWrong)

/-- 'laws.FnExactLeastPrices': WHATEVER THE INPUT: true; the input reads as it did. -/
def fnExactLeastPricesSpec : ChangeSpec := { name := "fnExactLeastPrices", fn := fun _ => fun
  | [d1, d2, d3] => { results := [.lit (.bool true)], args := [d1, d2, d3] }
  | _ => none }
def fnExactLeastPricesRow : OpenClaim := { program := "ytlhmmhlfledleaa", sum := "283c1b35d1cf051a0dd90a1dc94c8e0a7e2e4764d641a34ad814687892877e7c", func := "loop.example/g01087/laws.FnExactLeastPrices", spec := "fnExactLeastPrices", unfollowed := true, recurses := true, plainKeys := false, apart := false }
def FnExactLeastPricesSaid : Prop := fnExactLeastPricesRow.holds Try.pinned (OpenSpec.ofChange fnExactLeastPricesSpec)

/-- ITS FALSE NEIGHBOUR: 'it returns false'. Refute it at one input. -/
def fnExactLeastPricesWrong : ChangeSpec := { name := "fnExactLeastPrices", fn := fun _ => fun
  | [d1, d2, d3] => { results := [.lit (.bool false)], args := [d1, d2, d3] }
  | _ => none }
def FnExactLeastPricesWrongFalsely : Prop := fnExactLeastPricesRow.holds Try.pinned (OpenSpec.ofChange fnExactLeastPricesWrong)

/-- 'laws.FnExactChainsOf': WHATEVER THE INPUT: true; the input reads as it did. -/
def fnExactChainsOfSpec : ChangeSpec := { name := "fnExactChainsOf", fn := fun _ => fun
  | [d1, d2, d3] => { results := [.lit (.bool true)], args := [d1, d2, d3] }
  | _ => none }
def fnExactChainsOfRow : OpenClaim := { program := "ytlhmmhlfledleaa", sum := "283c1b35d1cf051a0dd90a1dc94c8e0a7e2e4764d641a34ad814687892877e7c", func := "loop.example/g01087/laws.FnExactChainsOf", spec := "fnExactChainsOf", unfollowed := true, recurses := true, plainKeys := false, apart := false }
def FnExactChainsOfSaid : Prop := fnExactChainsOfRow.holds Try.pinned (OpenSpec.ofChange fnExactChainsOfSpec)

/-- ITS FALSE NEIGHBOUR: 'it returns false'. Refute it at one input. -/
def fnExactChainsOfWrong : ChangeSpec := { name := "fnExactChainsOf", fn := fun _ => fun
  | [d1, d2, d3] => { results := [.lit (.bool false)], args := [d1, d2, d3] }
  | _ => none }
def FnExactChainsOfWrongFalsely : Prop := fnExactChainsOfRow.holds Try.pinned (OpenSpec.ofChange fnExactChainsOfWrong)

/-- 'laws.FnExactLeastRows': WHATEVER THE INPUT: true; the input reads as it did. -/
def fnExactLeastRowsSpec : ChangeSpec := { name := "fnExactLeastRows", fn := fun _ => fun
  | [d1, d2] => { results := [.lit (.bool true)], args := [d1, d2] }
  | _ => none }
def fnExactLeastRowsRow : OpenClaim := { program := "ytlhmmhlfledleaa", sum := "283c1b35d1cf051a0dd90a1dc94c8e0a7e2e4764d641a34ad814687892877e7c", func := "loop.example/g01087/laws.FnExactLeastRows", spec := "fnExactLeastRows", unfollowed := true, recurses := true, plainKeys := false, apart := false }
def FnExactLeastRowsSaid : Prop := fnExactLeastRowsRow.holds Try.pinned (OpenSpec.ofChange fnExactLeastRowsSpec)

/-- ITS FALSE NEIGHBOUR: 'it returns false'. Refute it at one input. -/
def fnExactLeastRowsWrong : ChangeSpec := { name := "fnExactLeastRows", fn := fun _ => fun
  | [d1, d2] => { results := [.lit (.bool false)], args := [d1, d2] }
  | _ => none }
def FnExactLeastRowsWrongFalsely : Prop := fnExactLeastRowsRow.holds Try.pinned (OpenSpec.ofChange fnExactLeastRowsWrong)

/- THE SECOND FORM. 'bulk': how many values and letters a reading holds, each counted each time it is reached (what is shared counts as often as it is met; a slice's spare places count too). A statement '..UptoSaid' is the law's where the arguments, and the package variables that the reading takes, are together of bulk at most 1048576: NARROWER than '..Said'. Prove '..Said' where nothing that the law and all that it calls make is longer than what came in: it says more and counts as full. Else prove '..UptoSaid'. A law counts once. -/
mutual
def uptoBulk {H : Type} : DataW H → Nat
  | .lit (.string bytes) => bytes.length + 1
  | .lit _ => 1
  | .nil => 1
  | .ptr d => uptoBulk d + 1
  | .slice elems spare => uptoBulkAll elems + uptoBulkAll spare + 1
  | .agg parts => uptoBulkAll parts + 1
  | .iface _ d => uptoBulk d + 1
  | .map entries => uptoBulkEntries entries + 1
  | .held _ => 1
def uptoBulkAll {H : Type} : List (DataW H) → Nat
  | [] => 0
  | d :: r => uptoBulk d + uptoBulkAll r
def uptoBulkEntries {H : Type} : List (Lit × DataW H) → Nat
  | [] => 0
  | x :: r => uptoBulkEntry x + uptoBulkEntries r
def uptoBulkEntry {H : Type} : Lit × DataW H → Nat
  | (.string bytes, d) => bytes.length + uptoBulk d + 1
  | (_, d) => uptoBulk d + 1
 end
def uptoSmall : (H : Type) → List (DataW H) → Bool := fun _ ds => decide (uptoBulkAll ds ≤ 1048576)
def OpenSpec.upto (s : _root_.Go.ChangeSpec) : _root_.Go.OpenSpec := { _root_.Go.OpenSpec.ofChange s with cond := some uptoSmall }

/-- 'laws.FnExactPlanFaults', WHERE WHAT IT READS IS OF BULK AT MOST 1048576: true; the input reads as it did. -/
def fnExactPlanFaultsUptoRow : OpenClaim := { program := "ytlhmmhlfledleaa", sum := "283c1b35d1cf051a0dd90a1dc94c8e0a7e2e4764d641a34ad814687892877e7c", func := "loop.example/g01087/laws.FnExactPlanFaults", spec := "fnExactPlanFaults", unfollowed := true, recurses := true, plainKeys := false, apart := false, narrowed := true }
def FnExactPlanFaultsUptoSaid : Prop := fnExactPlanFaultsUptoRow.holds Try.pinned (OpenSpec.upto fnExactPlanFaultsSpec)

/-- 'laws.FnExactFarthestPlan', WHERE WHAT IT READS IS OF BULK AT MOST 1048576: true; the input reads as it did. -/
def fnExactFarthestPlanUptoRow : OpenClaim := { program := "ytlhmmhlfledleaa", sum := "283c1b35d1cf051a0dd90a1dc94c8e0a7e2e4764d641a34ad814687892877e7c", func := "loop.example/g01087/laws.FnExactFarthestPlan", spec := "fnExactFarthestPlan", unfollowed := true, recurses := true, plainKeys := false, apart := false, narrowed := true }
def FnExactFarthestPlanUptoSaid : Prop := fnExactFarthestPlanUptoRow.holds Try.pinned (OpenSpec.upto fnExactFarthestPlanSpec)

/-- 'laws.FnExactFewestFaults', WHERE WHAT IT READS IS OF BULK AT MOST 1048576: true; the input reads as it did. -/
def fnExactFewestFaultsUptoRow : OpenClaim := { program := "ytlhmmhlfledleaa", sum := "283c1b35d1cf051a0dd90a1dc94c8e0a7e2e4764d641a34ad814687892877e7c", func := "loop.example/g01087/laws.FnExactFewestFaults", spec := "fnExactFewestFaults", unfollowed := true, recurses := true, plainKeys := false, apart := false, narrowed := true }
def FnExactFewestFaultsUptoSaid : Prop := fnExactFewestFaultsUptoRow.holds Try.pinned (OpenSpec.upto fnExactFewestFaultsSpec)

/-- 'laws.FnExactPlanCaches', WHERE WHAT IT READS IS OF BULK AT MOST 1048576: true; the input reads as it did. -/
def fnExactPlanCachesUptoRow : OpenClaim := { program := "ytlhmmhlfledleaa", sum := "283c1b35d1cf051a0dd90a1dc94c8e0a7e2e4764d641a34ad814687892877e7c", func := "loop.example/g01087/laws.FnExactPlanCaches", spec := "fnExactPlanCaches", unfollowed := true, recurses := true, plainKeys := false, apart := false, narrowed := true }
def FnExactPlanCachesUptoSaid : Prop := fnExactPlanCachesUptoRow.holds Try.pinned (OpenSpec.upto fnExactPlanCachesSpec)

/-- 'laws.FnExactOptimalCurve', WHERE WHAT IT READS IS OF BULK AT MOST 1048576: true; the input reads as it did. -/
def fnExactOptimalCurveUptoRow : OpenClaim := { program := "ytlhmmhlfledleaa", sum := "283c1b35d1cf051a0dd90a1dc94c8e0a7e2e4764d641a34ad814687892877e7c", func := "loop.example/g01087/laws.FnExactOptimalCurve", spec := "fnExactOptimalCurve", unfollowed := true, recurses := true, plainKeys := false, apart := false, narrowed := true }
def FnExactOptimalCurveUptoSaid : Prop := fnExactOptimalCurveUptoRow.holds Try.pinned (OpenSpec.upto fnExactOptimalCurveSpec)

/-- 'laws.FnExactLazyPlan', WHERE WHAT IT READS IS OF BULK AT MOST 1048576: true; the input reads as it did. -/
def fnExactLazyPlanUptoRow : OpenClaim := { program := "ytlhmmhlfledleaa", sum := "283c1b35d1cf051a0dd90a1dc94c8e0a7e2e4764d641a34ad814687892877e7c", func := "loop.example/g01087/laws.FnExactLazyPlan", spec := "fnExactLazyPlan", unfollowed := true, recurses := true, plainKeys := false, apart := false, narrowed := true }
def FnExactLazyPlanUptoSaid : Prop := fnExactLazyPlanUptoRow.holds Try.pinned (OpenSpec.upto fnExactLazyPlanSpec)

/-- 'laws.FnExactFlowCost', WHERE WHAT IT READS IS OF BULK AT MOST 1048576: true; the input reads as it did. -/
def fnExactFlowCostUptoRow : OpenClaim := { program := "ytlhmmhlfledleaa", sum := "283c1b35d1cf051a0dd90a1dc94c8e0a7e2e4764d641a34ad814687892877e7c", func := "loop.example/g01087/laws.FnExactFlowCost", spec := "fnExactFlowCost", unfollowed := true, recurses := true, plainKeys := false, apart := false, narrowed := true }
def FnExactFlowCostUptoSaid : Prop := fnExactFlowCostUptoRow.holds Try.pinned (OpenSpec.upto fnExactFlowCostSpec)

/-- 'laws.FnExactLeastPrices', WHERE WHAT IT READS IS OF BULK AT MOST 1048576: true; the input reads as it did. -/
def fnExactLeastPricesUptoRow : OpenClaim := { program := "ytlhmmhlfledleaa", sum := "283c1b35d1cf051a0dd90a1dc94c8e0a7e2e4764d641a34ad814687892877e7c", func := "loop.example/g01087/laws.FnExactLeastPrices", spec := "fnExactLeastPrices", unfollowed := true, recurses := true, plainKeys := false, apart := false, narrowed := true }
def FnExactLeastPricesUptoSaid : Prop := fnExactLeastPricesUptoRow.holds Try.pinned (OpenSpec.upto fnExactLeastPricesSpec)

/-- 'laws.FnExactChainsOf', WHERE WHAT IT READS IS OF BULK AT MOST 1048576: true; the input reads as it did. -/
def fnExactChainsOfUptoRow : OpenClaim := { program := "ytlhmmhlfledleaa", sum := "283c1b35d1cf051a0dd90a1dc94c8e0a7e2e4764d641a34ad814687892877e7c", func := "loop.example/g01087/laws.FnExactChainsOf", spec := "fnExactChainsOf", unfollowed := true, recurses := true, plainKeys := false, apart := false, narrowed := true }
def FnExactChainsOfUptoSaid : Prop := fnExactChainsOfUptoRow.holds Try.pinned (OpenSpec.upto fnExactChainsOfSpec)

/-- 'laws.FnExactLeastRows', WHERE WHAT IT READS IS OF BULK AT MOST 1048576: true; the input reads as it did. -/
def fnExactLeastRowsUptoRow : OpenClaim := { program := "ytlhmmhlfledleaa", sum := "283c1b35d1cf051a0dd90a1dc94c8e0a7e2e4764d641a34ad814687892877e7c", func := "loop.example/g01087/laws.FnExactLeastRows", spec := "fnExactLeastRows", unfollowed := true, recurses := true, plainKeys := false, apart := false, narrowed := true }
def FnExactLeastRowsUptoSaid : Prop := fnExactLeastRowsUptoRow.holds Try.pinned (OpenSpec.upto fnExactLeastRowsSpec)

end Rows
end Go.Proofs.Ytlhmmhlfledleaa
