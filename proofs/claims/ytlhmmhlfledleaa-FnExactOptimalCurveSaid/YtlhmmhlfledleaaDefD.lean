/-
  What functions of the program compute, as plain functions. No condition.
-/
import Derived.Test.YtlhmmhlfledleaaDefC
namespace Go.Proofs.Ytlhmmhlfledleaa
open Go Go.RowKit

def F_spec_l1Own (a : List Int) : List Int := (([] : List Int) ++ a)

def F_slices_Clone_Sint_int (s : List Int) : List Int := (([] : List Int) ++ s)


end Go.Proofs.Ytlhmmhlfledleaa
