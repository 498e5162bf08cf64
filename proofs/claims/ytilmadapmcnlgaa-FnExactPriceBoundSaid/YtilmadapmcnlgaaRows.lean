/-
  No cell of these rows narrows 'for every input' (looked for: loops, veiled, ifaces, maps, wideKeys, modest, calm, conditions, laid).
  DERIVED. THE GIVEN ROWS OF THIS SEAT. 12 by the template 'for every input the law returns true; each argument reads behind the call as it read before'; 0 by the template 'total and deterministic' (their statements: YtilmadapmcnlgaaTotals.lean).
  GIVEN WITH THE SEED: the statements are not yours to turn. If you find one false, say at which input.
  Laid BY PROGRAM, IN A SANDBOX (cutbox-rows.mjs): the forced cells as the released guide's own fill.sh prints them over the translation 00b95f41ffc2adea… (all of the seat's roots in one cut). By AI agents, Wed Nov 11 2026. No macro, syntax, notation, axiom, sorry.
-/
import Derived.Test.YtilmadapmcnlgaaChecked
import GoSem.Claim
import GoSem.ClaimJoined
import GoSem.ClaimMapViews
import Derived.JoinedTies
import Derived.KernelRfl
namespace Go.Proofs.Ytilmadapmcnlgaa
/- THE CELL 'sum', in the pinned program and in every row, IS THE sha256 OF THE DUMP (.gsa) THAT YtilmadapmcnlgaaProg.lean LOADS. Nothing in Lean hashes anything: it is a label: what it is worth is what the hold of that sum in a sandbox is worth. -/
noncomputable def Try.pinned : Pinned := { name := "ytilmadapmcnlgaa", sum := "00b95f41ffc2adea316865b603fcf969251bd8066831a432c09bf05fb3a2f9df", checked := Try.checked }
namespace Rows
def none {H : Type} : Left H := { results := [], args := [] }

/-- 'laws.FnExactIsWork': WHATEVER THE INPUT: true; the input reads as it did. -/
def fnExactIsWorkSpec : ChangeSpec := { name := "fnExactIsWork", fn := fun _ => fun
  | [d1, d2, d3] => { results := [.lit (.bool true)], args := [d1, d2, d3] }
  | _ => none }
def fnExactIsWorkRow : OpenClaim := { program := "ytilmadapmcnlgaa", sum := "00b95f41ffc2adea316865b603fcf969251bd8066831a432c09bf05fb3a2f9df", func := "loop.example/g01087/laws.FnExactIsWork", spec := "fnExactIsWork", unfollowed := true, recurses := true, apart := false }
def FnExactIsWorkSaid : Prop := fnExactIsWorkRow.holds Try.pinned (OpenSpec.ofChange fnExactIsWorkSpec)

/-- ITS FALSE NEIGHBOUR: 'it returns false'. Refute it at one input. -/
def fnExactIsWorkWrong : ChangeSpec := { name := "fnExactIsWork", fn := fun _ => fun
  | [d1, d2, d3] => { results := [.lit (.bool false)], args := [d1, d2, d3] }
  | _ => none }
def FnExactIsWorkWrongFalsely : Prop := fnExactIsWorkRow.holds Try.pinned (OpenSpec.ofChange fnExactIsWorkWrong)

/-- 'laws.FnExactFarConfig': WHATEVER THE INPUT: true; the input reads as it did. -/
def fnExactFarConfigSpec : ChangeSpec := { name := "fnExactFarConfig", fn := fun _ => fun
  | [d1, d2, d3, d4] => { results := [.lit (.bool true)], args := [d1, d2, d3, d4] }
  | _ => none }
def fnExactFarConfigRow : OpenClaim := { program := "ytilmadapmcnlgaa", sum := "00b95f41ffc2adea316865b603fcf969251bd8066831a432c09bf05fb3a2f9df", func := "loop.example/g01087/laws.FnExactFarConfig", spec := "fnExactFarConfig", unfollowed := true, recurses := true, apart := false }
def FnExactFarConfigSaid : Prop := fnExactFarConfigRow.holds Try.pinned (OpenSpec.ofChange fnExactFarConfigSpec)

/-- ITS FALSE NEIGHBOUR: 'it returns false'. Refute it at one input. -/
def fnExactFarConfigWrong : ChangeSpec := { name := "fnExactFarConfig", fn := fun _ => fun
  | [d1, d2, d3, d4] => { results := [.lit (.bool false)], args := [d1, d2, d3, d4] }
  | _ => none }
def FnExactFarConfigWrongFalsely : Prop := fnExactFarConfigRow.holds Try.pinned (OpenSpec.ofChange fnExactFarConfigWrong)

/-- 'laws.FnExactSupportOf': WHATEVER THE INPUT: true; the input reads as it did. -/
def fnExactSupportOfSpec : ChangeSpec := { name := "fnExactSupportOf", fn := fun _ => fun
  | [d1, d2, d3] => { results := [.lit (.bool true)], args := [d1, d2, d3] }
  | _ => none }
def fnExactSupportOfRow : OpenClaim := { program := "ytilmadapmcnlgaa", sum := "00b95f41ffc2adea316865b603fcf969251bd8066831a432c09bf05fb3a2f9df", func := "loop.example/g01087/laws.FnExactSupportOf", spec := "fnExactSupportOf", unfollowed := true, recurses := true, apart := false }
def FnExactSupportOfSaid : Prop := fnExactSupportOfRow.holds Try.pinned (OpenSpec.ofChange fnExactSupportOfSpec)

/-- ITS FALSE NEIGHBOUR: 'it returns false'. Refute it at one input. -/
def fnExactSupportOfWrong : ChangeSpec := { name := "fnExactSupportOf", fn := fun _ => fun
  | [d1, d2, d3] => { results := [.lit (.bool false)], args := [d1, d2, d3] }
  | _ => none }
def FnExactSupportOfWrongFalsely : Prop := fnExactSupportOfRow.holds Try.pinned (OpenSpec.ofChange fnExactSupportOfWrong)

/-- 'laws.FnExactStartWork': WHATEVER THE INPUT: true; the input reads as it did. -/
def fnExactStartWorkSpec : ChangeSpec := { name := "fnExactStartWork", fn := fun _ => fun
  | [d1, d2] => { results := [.lit (.bool true)], args := [d1, d2] }
  | _ => none }
def fnExactStartWorkRow : OpenClaim := { program := "ytilmadapmcnlgaa", sum := "00b95f41ffc2adea316865b603fcf969251bd8066831a432c09bf05fb3a2f9df", func := "loop.example/g01087/laws.FnExactStartWork", spec := "fnExactStartWork", unfollowed := true, recurses := true, apart := false }
def FnExactStartWorkSaid : Prop := fnExactStartWorkRow.holds Try.pinned (OpenSpec.ofChange fnExactStartWorkSpec)

/-- ITS FALSE NEIGHBOUR: 'it returns false'. Refute it at one input. -/
def fnExactStartWorkWrong : ChangeSpec := { name := "fnExactStartWork", fn := fun _ => fun
  | [d1, d2] => { results := [.lit (.bool false)], args := [d1, d2] }
  | _ => none }
def FnExactStartWorkWrongFalsely : Prop := fnExactStartWorkRow.holds Try.pinned (OpenSpec.ofChange fnExactStartWorkWrong)

/-- 'laws.FnExactWorkOf': WHATEVER THE INPUT: true; the input reads as it did. -/
def fnExactWorkOfSpec : ChangeSpec := { name := "fnExactWorkOf", fn := fun _ => fun
  | [d1, d2, d3, d4] => { results := [.lit (.bool true)], args := [d1, d2, d3, d4] }
  | _ => none }
def fnExactWorkOfRow : OpenClaim := { program := "ytilmadapmcnlgaa", sum := "00b95f41ffc2adea316865b603fcf969251bd8066831a432c09bf05fb3a2f9df", func := "loop.example/g01087/laws.FnExactWorkOf", spec := "fnExactWorkOf", unfollowed := true, recurses := true, apart := false }
def FnExactWorkOfSaid : Prop := fnExactWorkOfRow.holds Try.pinned (OpenSpec.ofChange fnExactWorkOfSpec)

/-- ITS FALSE NEIGHBOUR: 'it returns false'. Refute it at one input. -/
def fnExactWorkOfWrong : ChangeSpec := { name := "fnExactWorkOf", fn := fun _ => fun
  | [d1, d2, d3, d4] => { results := [.lit (.bool false)], args := [d1, d2, d3, d4] }
  | _ => none }
def FnExactWorkOfWrongFalsely : Prop := fnExactWorkOfRow.holds Try.pinned (OpenSpec.ofChange fnExactWorkOfWrong)

/-- 'laws.FnExactGrowthOf': WHATEVER THE INPUT: true; the input reads as it did. -/
def fnExactGrowthOfSpec : ChangeSpec := { name := "fnExactGrowthOf", fn := fun _ => fun
  | [d1, d2, d3, d4] => { results := [.lit (.bool true)], args := [d1, d2, d3, d4] }
  | _ => none }
def fnExactGrowthOfRow : OpenClaim := { program := "ytilmadapmcnlgaa", sum := "00b95f41ffc2adea316865b603fcf969251bd8066831a432c09bf05fb3a2f9df", func := "loop.example/g01087/laws.FnExactGrowthOf", spec := "fnExactGrowthOf", unfollowed := true, recurses := true, apart := false }
def FnExactGrowthOfSaid : Prop := fnExactGrowthOfRow.holds Try.pinned (OpenSpec.ofChange fnExactGrowthOfSpec)

/-- ITS FALSE NEIGHBOUR: 'it returns false'. Refute it at one input. -/
def fnExactGrowthOfWrong : ChangeSpec := { name := "fnExactGrowthOf", fn := fun _ => fun
  | [d1, d2, d3, d4] => { results := [.lit (.bool false)], args := [d1, d2, d3, d4] }
  | _ => none }
def FnExactGrowthOfWrongFalsely : Prop := fnExactGrowthOfRow.holds Try.pinned (OpenSpec.ofChange fnExactGrowthOfWrong)

/-- 'laws.FnExactFromSupport': WHATEVER THE INPUT: true; the input reads as it did. -/
def fnExactFromSupportSpec : ChangeSpec := { name := "fnExactFromSupport", fn := fun _ => fun
  | [d1, d2, d3] => { results := [.lit (.bool true)], args := [d1, d2, d3] }
  | _ => none }
def fnExactFromSupportRow : OpenClaim := { program := "ytilmadapmcnlgaa", sum := "00b95f41ffc2adea316865b603fcf969251bd8066831a432c09bf05fb3a2f9df", func := "loop.example/g01087/laws.FnExactFromSupport", spec := "fnExactFromSupport", unfollowed := true, recurses := true, apart := false }
def FnExactFromSupportSaid : Prop := fnExactFromSupportRow.holds Try.pinned (OpenSpec.ofChange fnExactFromSupportSpec)

/-- ITS FALSE NEIGHBOUR: 'it returns false'. Refute it at one input. -/
def fnExactFromSupportWrong : ChangeSpec := { name := "fnExactFromSupport", fn := fun _ => fun
  | [d1, d2, d3] => { results := [.lit (.bool false)], args := [d1, d2, d3] }
  | _ => none }
def FnExactFromSupportWrongFalsely : Prop := fnExactFromSupportRow.holds Try.pinned (OpenSpec.ofChange fnExactFromSupportWrong)

/-- 'laws.FnExactStepWork': WHATEVER THE INPUT: true; the input reads as it did. -/
def fnExactStepWorkSpec : ChangeSpec := { name := "fnExactStepWork", fn := fun _ => fun
  | [d1, d2, d3, d4] => { results := [.lit (.bool true)], args := [d1, d2, d3, d4] }
  | _ => none }
def fnExactStepWorkRow : OpenClaim := { program := "ytilmadapmcnlgaa", sum := "00b95f41ffc2adea316865b603fcf969251bd8066831a432c09bf05fb3a2f9df", func := "loop.example/g01087/laws.FnExactStepWork", spec := "fnExactStepWork", unfollowed := true, recurses := true, apart := false }
def FnExactStepWorkSaid : Prop := fnExactStepWorkRow.holds Try.pinned (OpenSpec.ofChange fnExactStepWorkSpec)

/-- ITS FALSE NEIGHBOUR: 'it returns false'. Refute it at one input. -/
def fnExactStepWorkWrong : ChangeSpec := { name := "fnExactStepWork", fn := fun _ => fun
  | [d1, d2, d3, d4] => { results := [.lit (.bool false)], args := [d1, d2, d3, d4] }
  | _ => none }
def FnExactStepWorkWrongFalsely : Prop := fnExactStepWorkRow.holds Try.pinned (OpenSpec.ofChange fnExactStepWorkWrong)

/-- 'laws.FnExactLeastWork': WHATEVER THE INPUT: true; the input reads as it did. -/
def fnExactLeastWorkSpec : ChangeSpec := { name := "fnExactLeastWork", fn := fun _ => fun
  | [d1, d2, d3] => { results := [.lit (.bool true)], args := [d1, d2, d3] }
  | _ => none }
def fnExactLeastWorkRow : OpenClaim := { program := "ytilmadapmcnlgaa", sum := "00b95f41ffc2adea316865b603fcf969251bd8066831a432c09bf05fb3a2f9df", func := "loop.example/g01087/laws.FnExactLeastWork", spec := "fnExactLeastWork", unfollowed := true, recurses := true, apart := false }
def FnExactLeastWorkSaid : Prop := fnExactLeastWorkRow.holds Try.pinned (OpenSpec.ofChange fnExactLeastWorkSpec)

/-- ITS FALSE NEIGHBOUR: 'it returns false'. Refute it at one input. -/
def fnExactLeastWorkWrong : ChangeSpec := { name := "fnExactLeastWork", fn := fun _ => fun
  | [d1, d2, d3] => { results := [.lit (.bool false)], args := [d1, d2, d3] }
  | _ => none }
def FnExactLeastWorkWrongFalsely : Prop := fnExactLeastWorkRow.holds Try.pinned (OpenSpec.ofChange fnExactLeastWorkWrong)

/-- 'laws.FnExactWorkLists': WHATEVER THE INPUT: true; the input reads as it did. -/
def fnExactWorkListsSpec : ChangeSpec := { name := "fnExactWorkLists", fn := fun _ => fun
  | [d1, d2, d3] => { results := [.lit (.bool true)], args := [d1, d2, d3] }
  | _ => none }
def fnExactWorkListsRow : OpenClaim := { program := "ytilmadapmcnlgaa", sum := "00b95f41ffc2adea316865b603fcf969251bd8066831a432c09bf05fb3a2f9df", func := "loop.example/g01087/laws.FnExactWorkLists", spec := "fnExactWorkLists", unfollowed := true, recurses := true, apart := false }
def FnExactWorkListsSaid : Prop := fnExactWorkListsRow.holds Try.pinned (OpenSpec.ofChange fnExactWorkListsSpec)

/-- ITS FALSE NEIGHBOUR: 'it returns false'. Refute it at one input. -/
def fnExactWorkListsWrong : ChangeSpec := { name := "fnExactWorkLists", fn := fun _ => fun
  | [d1, d2, d3] => { results := [.lit (.bool false)], args := [d1, d2, d3] }
  | _ => none }
def FnExactWorkListsWrongFalsely : Prop := fnExactWorkListsRow.holds Try.pinned (OpenSpec.ofChange fnExactWorkListsWrong)

/-- 'laws.FnExactLeastSchedule': WHATEVER THE INPUT: true; the input reads as it did. -/
def fnExactLeastScheduleSpec : ChangeSpec := { name := "fnExactLeastSchedule", fn := fun _ => fun
  | [d1, d2, d3] => { results := [.lit (.bool true)], args := [d1, d2, d3] }
  | _ => none }
def fnExactLeastScheduleRow : OpenClaim := { program := "ytilmadapmcnlgaa", sum := "00b95f41ffc2adea316865b603fcf969251bd8066831a432c09bf05fb3a2f9df", func := "loop.example/g01087/laws.FnExactLeastSchedule", spec := "fnExactLeastSchedule", unfollowed := true, recurses := true, apart := false }
def FnExactLeastScheduleSaid : Prop := fnExactLeastScheduleRow.holds Try.pinned (OpenSpec.ofChange fnExactLeastScheduleSpec)

/-- ITS FALSE NEIGHBOUR: 'it returns false'. Refute it at one input. -/
def fnExactLeastScheduleWrong : ChangeSpec := { name := "fnExactLeastSchedule", fn := fun _ => fun
  | [d1, d2, d3] => { results := [.lit (.bool false)], args := [d1, d2, d3] }
  | _ => none }
def FnExactLeastScheduleWrongFalsely : Prop := fnExactLeastScheduleRow.holds Try.pinned (OpenSpec.ofChange fnExactLeastScheduleWrong)

/-- 'laws.FnExactPriceBound': WHATEVER THE INPUT: true; the input reads as it did. -/
def fnExactPriceBoundSpec : ChangeSpec := { name := "fnExactPriceBound", fn := fun _ => fun
  | [d1, d2, d3, d4] => { results := [.lit (.bool true)], args := [d1, d2, d3, d4] }
  | _ => none }
def fnExactPriceBoundRow : OpenClaim := { program := "ytilmadapmcnlgaa", sum := "00b95f41ffc2adea316865b603fcf969251bd8066831a432c09bf05fb3a2f9df", func := "loop.example/g01087/laws.FnExactPriceBound", spec := "fnExactPriceBound", unfollowed := true, recurses := true, apart := false }
def FnExactPriceBoundSaid : Prop := fnExactPriceBoundRow.holds Try.pinned (OpenSpec.ofChange fnExactPriceBoundSpec)

/-- ITS FALSE NEIGHBOUR: 'it returns false'. Refute it at one input. -/
def fnExactPriceBoundWrong : ChangeSpec := { name := "fnExactPriceBound", fn := fun _ => fun
  | [d1, d2, d3, d4] => { results := [.lit (.bool false)], args := [d1, d2, d3, d4] }
  | _ => none }
def FnExactPriceBoundWrongFalsely : Prop := fnExactPriceBoundRow.holds Try.pinned (OpenSpec.ofChange fnExactPriceBoundWrong)

/- THE SECOND FORM. 'bulk': how many values and letters a reading holds, each counted each time it is reached (what is shared counts as often as it is met; a slice's spare places count too). A statement '..UptoSaid' is the law's where the arguments, and the package variables that the reading takes, are together of bulk at most 1048576: NARROWER than '..Said'. Prove '..Said' where nothing that the law and all that it calls make is longer than what came in: it says more and counts as full. Else prove '..UptoSaid'. A law counts once. -/
mutual
def uptoBulk {H : Type} : DataW H → Nat
  | .lit (.string bytes) => bytes.length + 1
  | .lit _ => 1
  | .nil => 1
  | .ptr d => uptoBulk d + 1
  | .slice elems spare => uptoBulkAll elems + uptoBulkAll spare + 1
  | .agg parts => uptoBulkAll parts + 1
  | .iface _ d => uptoBulk d + 1
  | .map entries => uptoBulkEntries entries + 1
  | .held _ => 1
def uptoBulkAll {H : Type} : List (DataW H) → Nat
  | [] => 0
  | d :: r => uptoBulk d + uptoBulkAll r
def uptoBulkEntries {H : Type} : List (Lit × DataW H) → Nat
  | [] => 0
  | x :: r => uptoBulkEntry x + uptoBulkEntries r
def uptoBulkEntry {H : Type} : Lit × DataW H → Nat
  | (.string bytes, d) => bytes.length + uptoBulk d + 1
  | (_, d) => uptoBulk d + 1
 end
def uptoSmall : (H : Type) → List (DataW H) → Bool := fun _ ds => decide (uptoBulkAll ds ≤ 1048576)
def OpenSpec.upto (s : _root_.Go.ChangeSpec) : _root_.Go.OpenSpec := { _root_.Go.OpenSpec.ofChange s with cond := some uptoSmall }

/-- 'laws.FnExactIsWork', WHERE WHAT IT READS IS OF BULK AT MOST 1048576: true; the input reads as it did. -/
def fnExactIsWorkUptoRow : OpenClaim := { program := "ytilmadapmcnlgaa", sum := "00b95f41ffc2adea316865b603fcf969251bd8066831a432c09bf05fb3a2f9df", func := "loop.example/g01087/laws.FnExactIsWork", spec := "fnExactIsWork", unfollowed := true, recurses := true, apart := false, narrowed := true }
def FnExactIsWorkUptoSaid : Prop := fnExactIsWorkUptoRow.holds Try.pinned (OpenSpec.upto fnExactIsWorkSpec)

/-- 'laws.FnExactFarConfig', WHERE WHAT IT READS IS OF BULK AT MOST 1048576: true; the input reads as it did. -/
def fnExactFarConfigUptoRow : OpenClaim := { program := "ytilmadapmcnlgaa", sum := "00b95f41ffc2adea316865b603fcf969251bd8066831a432c09bf05fb3a2f9df", func := "loop.example/g01087/laws.FnExactFarConfig", spec := "fnExactFarConfig", unfollowed := true, recurses := true, apart := false, narrowed := true }
def FnExactFarConfigUptoSaid : Prop := fnExactFarConfigUptoRow.holds Try.pinned (OpenSpec.upto fnExactFarConfigSpec)

/-- 'laws.FnExactSupportOf', WHERE WHAT IT READS IS OF BULK AT MOST 1048576: true; the input reads as it did. -/
def fnExactSupportOfUptoRow : OpenClaim := { program := "ytilmadapmcnlgaa", sum := "00b95f41ffc2adea316865b603fcf969251bd8066831a432c09bf05fb3a2f9df", func := "loop.example/g01087/laws.FnExactSupportOf", spec := "fnExactSupportOf", unfollowed := true, recurses := true, apart := false, narrowed := true }
def FnExactSupportOfUptoSaid : Prop := fnExactSupportOfUptoRow.holds Try.pinned (OpenSpec.upto fnExactSupportOfSpec)

/-- 'laws.FnExactStartWork', WHERE WHAT IT READS IS OF BULK AT MOST 1048576: true; the input reads as it did. -/
def fnExactStartWorkUptoRow : OpenClaim := { program := "ytilmadapmcnlgaa", sum := "00b95f41ffc2adea316865b603fcf969251bd8066831a432c09bf05fb3a2f9df", func := "loop.example/g01087/laws.FnExactStartWork", spec := "fnExactStartWork", unfollowed := true, recurses := true, apart := false, narrowed := true }
def FnExactStartWorkUptoSaid : Prop := fnExactStartWorkUptoRow.holds Try.pinned (OpenSpec.upto fnExactStartWorkSpec)

/-- 'laws.FnExactWorkOf', WHERE WHAT IT READS IS OF BULK AT MOST 1048576: true; the input reads as it did. -/
def fnExactWorkOfUptoRow : OpenClaim := { program := "ytilmadapmcnlgaa", sum := "00b95f41ffc2adea316865b603fcf969251bd8066831a432c09bf05fb3a2f9df", func := "loop.example/g01087/laws.FnExactWorkOf", spec := "fnExactWorkOf", unfollowed := true, recurses := true, apart := false, narrowed := true }
def FnExactWorkOfUptoSaid : Prop := fnExactWorkOfUptoRow.holds Try.pinned (OpenSpec.upto fnExactWorkOfSpec)

/-- 'laws.FnExactGrowthOf', WHERE WHAT IT READS IS OF BULK AT MOST 1048576: true; the input reads as it did. -/
def fnExactGrowthOfUptoRow : OpenClaim := { program := "ytilmadapmcnlgaa", sum := "00b95f41ffc2adea316865b603fcf969251bd8066831a432c09bf05fb3a2f9df", func := "loop.example/g01087/laws.FnExactGrowthOf", spec := "fnExactGrowthOf", unfollowed := true, recurses := true, apart := false, narrowed := true }
def FnExactGrowthOfUptoSaid : Prop := fnExactGrowthOfUptoRow.holds Try.pinned (OpenSpec.upto fnExactGrowthOfSpec)

/-- 'laws.FnExactFromSupport', WHERE WHAT IT READS IS OF BULK AT MOST 1048576: true; the input reads as it did. -/
def fnExactFromSupportUptoRow : OpenClaim := { program := "ytilmadapmcnlgaa", sum := "00b95f41ffc2adea316865b603fcf969251bd8066831a432c09bf05fb3a2f9df", func := "loop.example/g01087/laws.FnExactFromSupport", spec := "fnExactFromSupport", unfollowed := true, recurses := true, apart := false, narrowed := true }
def FnExactFromSupportUptoSaid : Prop := fnExactFromSupportUptoRow.holds Try.pinned (OpenSpec.upto fnExactFromSupportSpec)

/-- 'laws.FnExactStepWork', WHERE WHAT IT READS IS OF BULK AT MOST 1048576: true; the input reads as it did. -/
def fnExactStepWorkUptoRow : OpenClaim := { program := "ytilmadapmcnlgaa", sum := "00b95f41ffc2adea316865b603fcf969251bd8066831a432c09bf05fb3a2f9df", func := "loop.example/g01087/laws.FnExactStepWork", spec := "fnExactStepWork", unfollowed := true, recurses := true, apart := false, narrowed := true }
def FnExactStepWorkUptoSaid : Prop := fnExactStepWorkUptoRow.holds Try.pinned (OpenSpec.upto fnExactStepWorkSpec)

/-- 'laws.FnExactLeastWork', WHERE WHAT IT READS IS OF BULK AT MOST 1048576: true; the input reads as it did. -/
def fnExactLeastWorkUptoRow : OpenClaim := { program := "ytilmadapmcnlgaa", sum := "00b95f41ffc2adea316865b603fcf969251bd8066831a432c09bf05fb3a2f9df", func := "loop.example/g01087/laws.FnExactLeastWork", spec := "fnExactLeastWork", unfollowed := true, recurses := true, apart := false, narrowed := true }
def FnExactLeastWorkUptoSaid : Prop := fnExactLeastWorkUptoRow.holds Try.pinned (OpenSpec.upto fnExactLeastWorkSpec)

/-- 'laws.FnExactWorkLists', WHERE WHAT IT READS IS OF BULK AT MOST 1048576: true; the input reads as it did. -/
def fnExactWorkListsUptoRow : OpenClaim := { program := "ytilmadapmcnlgaa", sum := "00b95f41ffc2adea316865b603fcf969251bd8066831a432c09bf05fb3a2f9df", func := "loop.example/g01087/laws.FnExactWorkLists", spec := "fnExactWorkLists", unfollowed := true, recurses := true, apart := false, narrowed := true }
def FnExactWorkListsUptoSaid : Prop := fnExactWorkListsUptoRow.holds Try.pinned (OpenSpec.upto fnExactWorkListsSpec)

/-- 'laws.FnExactLeastSchedule', WHERE WHAT IT READS IS OF BULK AT MOST 1048576: true; the input reads as it did. -/
def fnExactLeastScheduleUptoRow : OpenClaim := { program := "ytilmadapmcnlgaa", sum := "00b95f41ffc2adea316865b603fcf969251bd8066831a432c09bf05fb3a2f9df", func := "loop.example/g01087/laws.FnExactLeastSchedule", spec := "fnExactLeastSchedule", unfollowed := true, recurses := true, apart := false, narrowed := true }
def FnExactLeastScheduleUptoSaid : Prop := fnExactLeastScheduleUptoRow.holds Try.pinned (OpenSpec.upto fnExactLeastScheduleSpec)

/-- 'laws.FnExactPriceBound', WHERE WHAT IT READS IS OF BULK AT MOST 1048576: true; the input reads as it did. -/
def fnExactPriceBoundUptoRow : OpenClaim := { program := "ytilmadapmcnlgaa", sum := "00b95f41ffc2adea316865b603fcf969251bd8066831a432c09bf05fb3a2f9df", func := "loop.example/g01087/laws.FnExactPriceBound", spec := "fnExactPriceBound", unfollowed := true, recurses := true, apart := false, narrowed := true }
def FnExactPriceBoundUptoSaid : Prop := fnExactPriceBoundUptoRow.holds Try.pinned (OpenSpec.upto fnExactPriceBoundSpec)

end Rows
end Go.Proofs.Ytilmadapmcnlgaa
