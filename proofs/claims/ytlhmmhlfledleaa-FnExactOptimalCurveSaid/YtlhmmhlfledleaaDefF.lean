/-
  What functions of the program compute, as plain functions. No condition.
-/
import Derived.Test.YtlhmmhlfledleaaDefE
namespace Go.Proofs.Ytlhmmhlfledleaa
open Go Go.RowKit

def F_impl_areBelow_1 (a : Int) (n : Int) : Bool := !((decide (0 ≤ a)) && (decide (a ≤ (n - 1))))

def F_impl_areBelow (n : Int) (l : List Int) : Bool := !(F_slices_ContainsFunc_Sint_int l (fun a => F_impl_areBelow_1 a n))

def F_impl_Metric_isConfig (m : List (List Int)) (a : List Int) : Bool := ((((decide (1 ≤ (a.length : Int))) && (decide ((a.length : Int) ≤ 3))) && (F_impl_areBelow (m.length : Int) a)) && (F_slices_IsSorted_Sint_int a))

def F_spec_l6List_L1 (n : Int) (list : List Int) : Nat → Nat → Ctl (Nat) (Bool)
  | 0, s => .next s
  | mf1 + 1, i1 => (bif decide ((i1 : Int) < (list.length : Int)) then (bif !((decide (0 ≤ (list.getD i1 0))) && (decide ((list.getD i1 0) ≤ (n - 1)))) then (.ret false) else F_spec_l6List_L1 n list mf1 (i1 + 1)) else (.next i1))
theorem F_spec_l6List_L1_s (n : Int) (list : List Int) (i1 : Nat) (mf1 : Nat) : F_spec_l6List_L1 n list (mf1 + 1) i1 = (bif decide ((i1 : Int) < (list.length : Int)) then (bif !((decide (0 ≤ (list.getD i1 0))) && (decide ((list.getD i1 0) ≤ (n - 1)))) then (.ret false) else F_spec_l6List_L1 n list mf1 (i1 + 1)) else (.next i1)) := rfl
def F_spec_l6List (n : Int) (list : List Int) : Bool := ((F_spec_l6List_L1 n list ((list.length - 0) + 1) 0).elim (fun _ => true) (fun r => r))

def F_spec_l6Config (n : Int) (a : List Int) : Bool := ((((decide (1 ≤ (a.length : Int))) && (decide ((a.length : Int) ≤ 3))) && (F_spec_l6List n a)) && (F_spec_l6Ascending a))


end Go.Proofs.Ytlhmmhlfledleaa
