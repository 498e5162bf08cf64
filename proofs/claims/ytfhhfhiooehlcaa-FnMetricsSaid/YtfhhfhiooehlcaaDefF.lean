/-
  What functions of the program compute, as plain functions. No condition.
-/
import Derived.Test.YtfhhfhiooehlcaaDefE
namespace Go.Proofs.Ytfhhfhiooehlcaa
open Go Go.RowKit

def F_impl_areBelow_1 (a : Int) (n : Int) : Bool := !((decide (0 ≤ a)) && (decide (a ≤ (n - 1))))

def F_impl_areBelow (n : Int) (l : List Int) : Bool := !(F_slices_ContainsFunc_Sint_int l (fun a => F_impl_areBelow_1 a n))

def F_impl_Metric_isConfig (m : List (List Int)) (a : List Int) : Bool := ((((decide (1 ≤ (a.length : Int))) && (decide ((a.length : Int) ≤ 3))) && (F_impl_areBelow (m.length : Int) a)) && (F_slices_IsSorted_Sint_int a))


end Go.Proofs.Ytfhhfhiooehlcaa
