/-
  What functions of the program compute, as plain functions. No condition.
-/
import Derived.Test.YtilmadapmcnlgaaDefD
namespace Go.Proofs.Ytilmadapmcnlgaa
open Go Go.RowKit


end Go.Proofs.Ytilmadapmcnlgaa
