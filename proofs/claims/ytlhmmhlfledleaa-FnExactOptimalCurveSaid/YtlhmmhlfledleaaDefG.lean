/-
  What functions of the program compute, as plain functions. No condition.
-/
import Derived.Test.YtlhmmhlfledleaaDefF
namespace Go.Proofs.Ytlhmmhlfledleaa
open Go Go.RowKit

def F_slices_Index_Sint_int_L1 (s : List Int) (v : Int) : Nat → Nat → Ctl (Nat) (Int)
  | 0, s => .next s
  | mf1 + 1, k8_1 => (bif decide ((k8_1 : Int) < (s.length : Int)) then (bif decide (v = (s.getD k8_1 0)) then (.ret (k8_1 : Int)) else F_slices_Index_Sint_int_L1 s v mf1 (k8_1 + 1)) else (.next k8_1))
theorem F_slices_Index_Sint_int_L1_s (s : List Int) (v : Int) (k8_1 : Nat) (mf1 : Nat) : F_slices_Index_Sint_int_L1 s v (mf1 + 1) k8_1 = (bif decide ((k8_1 : Int) < (s.length : Int)) then (bif decide (v = (s.getD k8_1 0)) then (.ret (k8_1 : Int)) else F_slices_Index_Sint_int_L1 s v mf1 (k8_1 + 1)) else (.next k8_1)) := rfl
def F_slices_Index_Sint_int (s : List Int) (v : Int) : Int := ((F_slices_Index_Sint_int_L1 s v ((s.length - 0) + 1) 0).elim (fun _ => -1) (fun r => r))

def F_slices_Contains_Sint_int (s : List Int) (v : Int) : Bool := decide (0 ≤ (F_slices_Index_Sint_int s v))


end Go.Proofs.Ytlhmmhlfledleaa
