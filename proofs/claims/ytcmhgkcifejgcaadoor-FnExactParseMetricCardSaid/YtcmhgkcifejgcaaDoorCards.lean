/-
  DERIVED. GIVEN WITH THE SEED: THE CARDS: each row of YtcmhgkcifejgcaaDoorRows.lean that lists a variable, with what it lists TIED to the program's text (the seventh form; the later family's looks); each row that meets fmt, with fmt's text TOLD by the authors' own Lean function (tested against real Go, not proved from fmt's source: count such statements apart). THE CARD IS WHAT COUNTS. Prove the row's statement (the work); the ties are given (YtcmhgkcifejgcaaDoorTie.lean); close each card by the builder's one call (the guide's Derived/Test/ToyasCard.lean, 'card_holds'). Laid BY PROGRAM, IN A SANDBOX (cutbox-door.mjs). By AI agents, Wed Nov 11 2026. No macro, syntax, notation, axiom, sorry.
-/
import Derived.Test.YtcmhgkcifejgcaaDoorRows
import GoSem.ClaimSeven
namespace Go.Proofs.YtcmhgkcifejgcaaDoor
namespace Rows

/-- THE TIED CARD OF 'laws.FnExactMetricText'. -/
def fnExactMetricTextCard : Claim7 := { stood := { row := fnExactMetricTextRow, standIns := [], harness := (true, "fc3f00ccfbf9f3519589a422f01c23de65dd77c259ceb8428f06c480f8282930"), looks := true }, kinds := [], alts := [], laidByText := true, laidKinds := [.data, .data, .data], laidTests := true, laidLooks := .later }
def FnExactMetricTextCardSaid : Prop := Claim7.holds Tryd.pinned (.plain (OpenSpec.ofChange fnExactMetricTextSpec)) fnExactMetricTextCard

/-- THE TIED CARD OF 'laws.FnExactParseMetric'. -/
def fnExactParseMetricCard : Claim7 := { stood := { row := fnExactParseMetricRow, standIns := [], harness := (true, "fc3f00ccfbf9f3519589a422f01c23de65dd77c259ceb8428f06c480f8282930"), looks := true }, kinds := [], alts := [], laidByText := true, laidKinds := [.data, .data, .data, .data, .sentinel, .sentinel, .pinned], laidTests := true, laidLooks := .later }
def FnExactParseMetricCardSaid : Prop := Claim7.holds Tryd.pinned (.plain (OpenSpec.ofChange fnExactParseMetricSpec)) fnExactParseMetricCard

/-- THE SECOND FORM's CARD OF 'laws.FnExactMetricText'. -/
def fnExactMetricTextUptoCard : Claim7 := { stood := { row := fnExactMetricTextUptoRow, standIns := [], harness := (true, "fc3f00ccfbf9f3519589a422f01c23de65dd77c259ceb8428f06c480f8282930"), looks := true }, kinds := [], alts := [], laidByText := true, laidKinds := [.data, .data, .data], laidTests := true, laidLooks := .later }
def FnExactMetricTextUptoCardSaid : Prop := Claim7.holds Tryd.pinned (.plain (OpenSpec.upto fnExactMetricTextSpec)) fnExactMetricTextUptoCard

/-- THE SECOND FORM's CARD OF 'laws.FnExactParseMetric'. -/
def fnExactParseMetricUptoCard : Claim7 := { stood := { row := fnExactParseMetricUptoRow, standIns := [], harness := (true, "fc3f00ccfbf9f3519589a422f01c23de65dd77c259ceb8428f06c480f8282930"), looks := true }, kinds := [], alts := [], laidByText := true, laidKinds := [.data, .data, .data, .data, .sentinel, .sentinel, .pinned], laidTests := true, laidLooks := .later }
def FnExactParseMetricUptoCardSaid : Prop := Claim7.holds Tryd.pinned (.plain (OpenSpec.upto fnExactParseMetricSpec)) fnExactParseMetricUptoCard
end Rows
end Go.Proofs.YtcmhgkcifejgcaaDoor
