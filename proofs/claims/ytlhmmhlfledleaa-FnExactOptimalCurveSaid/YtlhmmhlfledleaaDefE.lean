/-
  What functions of the program compute, as plain functions. No condition.
-/
import Derived.Test.YtlhmmhlfledleaaDefD
namespace Go.Proofs.Ytlhmmhlfledleaa
open Go Go.RowKit


end Go.Proofs.Ytlhmmhlfledleaa
