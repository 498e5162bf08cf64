/-
  What functions of the program compute, as plain functions. No condition.
-/
import Derived.Test.YtilmadapmcnlgaaDefC
namespace Go.Proofs.Ytilmadapmcnlgaa
open Go Go.RowKit

def F_spec_l1Own (a : List Int) : List Int := (([] : List Int) ++ a)

def F_slices_Clone_Sint_int (s : List Int) : List Int := (([] : List Int) ++ s)

def F_spec_l1Least (a : Int) (b : Int) : Int := (bif decide (a < b) then a else b)


end Go.Proofs.Ytilmadapmcnlgaa
