/-
  Walks of functions of the program: each computes its plain function. No condition but the bounds that are typed.
-/
import Derived.Test.YtilmadapmcnlgaaFnD
import Derived.Test.YtilmadapmcnlgaaDefE
import Derived.Test.YtilmadapmcnlgaaLawMet
namespace Go.Proofs.Ytilmadapmcnlgaa
open Go Go.RowKit


end Go.Proofs.Ytilmadapmcnlgaa
