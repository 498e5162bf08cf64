/-
  What functions of the program compute, as plain functions. No condition.
-/
import Derived.Test.YtcfjjnajeccbhaaDefC
namespace Go.Proofs.Ytcfjjnajeccbhaa
open Go Go.RowKit

def F_spec_l1Own (a : List Int) : List Int := (([] : List Int) ++ a)

def F_slices_Clone_Sint_int (s : List Int) : List Int := (([] : List Int) ++ s)

def F_spec_l1Least (a : Int) (b : Int) : Int := (bif decide (a < b) then a else b)

def F_impl_covered (row : List Int) (r : Int) : List Int := (bif (F_slices_BinarySearch_Sint_int row r).2 then row else (bif decide ((F_slices_BinarySearch_Sint_int row r).1 = 0) then (row.set 0 r) else (bif decide ((F_slices_BinarySearch_Sint_int row r).1 = (row.length : Int)) then (row.set ((((F_slices_BinarySearch_Sint_int row r).1) - 1).toNat) r) else ((row.set ((((F_slices_BinarySearch_Sint_int row r).1) - 1).toNat) ((row.getD ((((F_slices_BinarySearch_Sint_int row r).1) - 1).toNat) 0) + (min (r - (row.getD ((((F_slices_BinarySearch_Sint_int row r).1) - 1).toNat) 0)) ((row.getD (((F_slices_BinarySearch_Sint_int row r).1).toNat) 0) - r)))).set (((F_slices_BinarySearch_Sint_int row r).1).toNat) (((row.set ((((F_slices_BinarySearch_Sint_int row r).1) - 1).toNat) ((row.getD ((((F_slices_BinarySearch_Sint_int row r).1) - 1).toNat) 0) + (min (r - (row.getD ((((F_slices_BinarySearch_Sint_int row r).1) - 1).toNat) 0)) ((row.getD (((F_slices_BinarySearch_Sint_int row r).1).toNat) 0) - r)))).getD (((F_slices_BinarySearch_Sint_int row r).1).toNat) 0) - (min (r - (row.getD ((((F_slices_BinarySearch_Sint_int row r).1) - 1).toNat) 0)) ((row.getD (((F_slices_BinarySearch_Sint_int row r).1).toNat) 0) - r)))))))

def F_spec_l6Cover_L1 (row : List Int) (r : Int) : Nat → Nat → Ctl (Nat) (List Int × Int)
  | 0, s => .next s
  | mf1 + 1, k8_1 => (bif decide ((row.getD (k8_1 + 1) 0) < r) then F_spec_l6Cover_L1 row r mf1 (k8_1 + 1) else (.next k8_1))
theorem F_spec_l6Cover_L1_s (row : List Int) (r : Int) (k8_1 : Nat) (mf1 : Nat) : F_spec_l6Cover_L1 row r (mf1 + 1) k8_1 = (bif decide ((row.getD (k8_1 + 1) 0) < r) then F_spec_l6Cover_L1 row r mf1 (k8_1 + 1) else (.next k8_1)) := rfl
def F_spec_l6Cover (row : List Int) (r : Int) : List Int × Int := (bif (F_spec_l1Has row r) then (row, 0) else (bif decide (r < (row.getD 0 0)) then ((row.set 0 r), (row.getD 0 0) - r) else (bif decide ((row.getD (((row.length : Int) - 1).toNat) 0) < r) then ((row.set (((row.length : Int) - 1).toNat) r), r - (row.getD (((row.length : Int) - 1).toNat) 0)) else ((F_spec_l6Cover_L1 row r ((row.length - 0) + 1) 0).elim (fun k8_1 => (((row.set k8_1 ((row.getD k8_1 0) + (F_spec_l1Least (r - (row.getD k8_1 0)) ((row.getD (k8_1 + 1) 0) - r)))).set (k8_1 + 1) ((row.getD (k8_1 + 1) 0) - (F_spec_l1Least (r - (row.getD k8_1 0)) ((row.getD (k8_1 + 1) 0) - r)))), 2 * (F_spec_l1Least (r - (row.getD k8_1 0)) ((row.getD (k8_1 + 1) 0) - r)))) (fun r => r)))))


end Go.Proofs.Ytcfjjnajeccbhaa
