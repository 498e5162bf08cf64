/-
  What functions of the program compute, as plain functions. No condition.
-/
import Derived.Test.YtilmadapmcnlgaaDefG
namespace Go.Proofs.Ytilmadapmcnlgaa
open Go Go.RowKit

def F_impl_isServed (m : List (List Int)) (a : List Int) (reqs : List Int) : Bool := ((((F_impl_IsMetric m) && (F_impl_Metric_isConfig m a)) && (decide ((reqs.length : Int) ≤ 60))) && (F_impl_areBelow (m.length : Int) reqs))

def F_spec_l6Start (m : List (List Int)) (start : List Int) (reqs : List Int) : Bool := ((((F_spec_l6Good m) && (F_spec_l6Config (m.length : Int) start)) && (decide ((reqs.length : Int) ≤ 60))) && (F_spec_l6List (m.length : Int) reqs))


end Go.Proofs.Ytilmadapmcnlgaa
