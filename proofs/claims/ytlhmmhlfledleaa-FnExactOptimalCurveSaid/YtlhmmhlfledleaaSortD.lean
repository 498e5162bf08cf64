/-
  Numbers in ascending order. No condition.
-/
import Derived.Test.YtlhmmhlfledleaaMore
import Derived.Lib.SlicesCompact
import Derived.Lib.RowBridge
namespace Go.Proofs.Ytlhmmhlfledleaa

/-- Numbers in ascending order. -/
abbrev sortI (xs : List Int) : List Int := xs.mergeSort fun x y => decide (x ≤ y)
end Go.Proofs.Ytlhmmhlfledleaa
