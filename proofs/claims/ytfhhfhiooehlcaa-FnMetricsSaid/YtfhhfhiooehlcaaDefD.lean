/-
  What functions of the program compute, as plain functions. No condition.
-/
import Derived.Test.YtfhhfhiooehlcaaDefC
namespace Go.Proofs.Ytfhhfhiooehlcaa
open Go Go.RowKit

def F_spec_l6Spread_L2 (row : List Int) (i1 : Nat) : Nat → Int × Nat → Ctl (Int × Nat) (Int)
  | 0, s => .next s
  | mf2 + 1, (sum2, k2) => (bif decide ((k2 : Int) < (i1 : Int)) then F_spec_l6Spread_L2 row i1 mf2 (((sum2 + (row.getD i1 0)) - (row.getD k2 0)), (k2 + 1)) else (.next (sum2, k2)))
theorem F_spec_l6Spread_L2_s (row : List Int) (i1 : Nat) (sum2 : Int) (k2 : Nat) (mf2 : Nat) : F_spec_l6Spread_L2 row i1 (mf2 + 1) (sum2, k2) = (bif decide ((k2 : Int) < (i1 : Int)) then F_spec_l6Spread_L2 row i1 mf2 (((sum2 + (row.getD i1 0)) - (row.getD k2 0)), (k2 + 1)) else (.next (sum2, k2))) := rfl
def F_spec_l6Spread_L1 (row : List Int) : Nat → Int × Nat → Ctl (Int × Nat) (Int)
  | 0, s => .next s
  | mf1 + 1, (sum1, i1) => (bif decide ((i1 : Int) < (row.length : Int)) then ((F_spec_l6Spread_L2 row i1 ((i1 - 0) + 1) (sum1, 0)).elim (fun (sum2, _) => F_spec_l6Spread_L1 row mf1 (sum2, (i1 + 1))) (fun r => .ret r)) else (.next (sum1, i1)))
theorem F_spec_l6Spread_L1_s (row : List Int) (sum1 : Int) (i1 : Nat) (mf1 : Nat) : F_spec_l6Spread_L1 row (mf1 + 1) (sum1, i1) = (bif decide ((i1 : Int) < (row.length : Int)) then ((F_spec_l6Spread_L2 row i1 ((i1 - 0) + 1) (sum1, 0)).elim (fun (sum2, _) => F_spec_l6Spread_L1 row mf1 (sum2, (i1 + 1))) (fun r => .ret r)) else (.next (sum1, i1))) := rfl
def F_spec_l6Spread (row : List Int) : Int := ((F_spec_l6Spread_L1 row ((row.length - 0) + 1) (0, 0)).elim (fun (sum1, _) => sum1) (fun r => r))

def F_spec_CoverPotential (row : List Int) (other : List Int) : Int × Bool := (bif (((!(F_spec_l6Row row)) || (!(F_spec_l6Row other))) || (!decide ((row.length : Int) = (other.length : Int)))) then (0, false) else (((row.length : Int) * (F_spec_l6Apart row other)) + (F_spec_l6Spread row), true))

def F_impl_CoverPotential_L2 (row : List Int) (k23_1 : Nat) : Nat → Int × Nat → Ctl (Int × Nat) (Int × Bool)
  | 0, s => .next s
  | mf2 + 1, (sum2, k32_2) => (bif decide ((k32_2 : Int) < (((row.take k23_1).drop 0).length : Int)) then F_impl_CoverPotential_L2 row k23_1 mf2 ((sum2 + ((row.getD k23_1 0) - (((row.take k23_1).drop 0).getD k32_2 0))), (k32_2 + 1)) else (.next (sum2, k32_2)))
theorem F_impl_CoverPotential_L2_s (row : List Int) (k23_1 : Nat) (sum2 : Int) (k32_2 : Nat) (mf2 : Nat) : F_impl_CoverPotential_L2 row k23_1 (mf2 + 1) (sum2, k32_2) = (bif decide ((k32_2 : Int) < (((row.take k23_1).drop 0).length : Int)) then F_impl_CoverPotential_L2 row k23_1 mf2 ((sum2 + ((row.getD k23_1 0) - (((row.take k23_1).drop 0).getD k32_2 0))), (k32_2 + 1)) else (.next (sum2, k32_2))) := rfl
def F_impl_CoverPotential_L1 (row : List Int) : Nat → Int × Nat → Ctl (Int × Nat) (Int × Bool)
  | 0, s => .next s
  | mf1 + 1, (sum1, k23_1) => (bif decide ((k23_1 : Int) < (row.length : Int)) then ((F_impl_CoverPotential_L2 row k23_1 (((((row.take k23_1).drop 0).length) - 0) + 1) (sum1, 0)).elim (fun (sum2, _) => F_impl_CoverPotential_L1 row mf1 (sum2, (k23_1 + 1))) (fun r => .ret r)) else (.next (sum1, k23_1)))
theorem F_impl_CoverPotential_L1_s (row : List Int) (sum1 : Int) (k23_1 : Nat) (mf1 : Nat) : F_impl_CoverPotential_L1 row (mf1 + 1) (sum1, k23_1) = (bif decide ((k23_1 : Int) < (row.length : Int)) then ((F_impl_CoverPotential_L2 row k23_1 (((((row.take k23_1).drop 0).length) - 0) + 1) (sum1, 0)).elim (fun (sum2, _) => F_impl_CoverPotential_L1 row mf1 (sum2, (k23_1 + 1))) (fun r => .ret r)) else (.next (sum1, k23_1))) := rfl
def F_impl_CoverPotential (row : List Int) (other : List Int) : Int × Bool := (bif !(F_impl_areRows row other) then (0, false) else ((F_impl_CoverPotential_L1 row ((row.length - 0) + 1) (((row.length : Int) * (F_impl_rowDistance row other)), 0)).elim (fun (sum1, _) => (sum1, true)) (fun r => r)))

def F_spec_l1Own (a : List Int) : List Int := (([] : List Int) ++ a)

def F_slices_Clone_Sint_int (s : List Int) : List Int := (([] : List Int) ++ s)

def F_spec_l1Least (a : Int) (b : Int) : Int := (bif decide (a < b) then a else b)

def F_impl_isPlace (r : Int) : Bool := ((decide (0 ≤ r)) && (decide (r ≤ 99)))

def F_impl_covered (row : List Int) (r : Int) : List Int := (bif (F_slices_BinarySearch_Sint_int row r).2 then row else (bif decide ((F_slices_BinarySearch_Sint_int row r).1 = 0) then (row.set 0 r) else (bif decide ((F_slices_BinarySearch_Sint_int row r).1 = (row.length : Int)) then (row.set ((((F_slices_BinarySearch_Sint_int row r).1) - 1).toNat) r) else ((row.set ((((F_slices_BinarySearch_Sint_int row r).1) - 1).toNat) ((row.getD ((((F_slices_BinarySearch_Sint_int row r).1) - 1).toNat) 0) + (min (r - (row.getD ((((F_slices_BinarySearch_Sint_int row r).1) - 1).toNat) 0)) ((row.getD (((F_slices_BinarySearch_Sint_int row r).1).toNat) 0) - r)))).set (((F_slices_BinarySearch_Sint_int row r).1).toNat) (((row.set ((((F_slices_BinarySearch_Sint_int row r).1) - 1).toNat) ((row.getD ((((F_slices_BinarySearch_Sint_int row r).1) - 1).toNat) 0) + (min (r - (row.getD ((((F_slices_BinarySearch_Sint_int row r).1) - 1).toNat) 0)) ((row.getD (((F_slices_BinarySearch_Sint_int row r).1).toNat) 0) - r)))).getD (((F_slices_BinarySearch_Sint_int row r).1).toNat) 0) - (min (r - (row.getD ((((F_slices_BinarySearch_Sint_int row r).1) - 1).toNat) 0)) ((row.getD (((F_slices_BinarySearch_Sint_int row r).1).toNat) 0) - r)))))))

def F_impl_CoverStep (row : List Int) (r : Int) : List Int × Int × Bool := (bif ((!(F_impl_isRow row)) || (!((decide (0 ≤ r)) && (decide (r ≤ 99))))) then ([], 0, false) else ((F_impl_covered row r), (F_impl_rowDistance row (F_impl_covered row r)), true))

def F_spec_l6Cover_L1 (row : List Int) (r : Int) : Nat → Nat → Ctl (Nat) (List Int × Int)
  | 0, s => .next s
  | mf1 + 1, k8_1 => (bif decide ((row.getD (k8_1 + 1) 0) < r) then F_spec_l6Cover_L1 row r mf1 (k8_1 + 1) else (.next k8_1))
theorem F_spec_l6Cover_L1_s (row : List Int) (r : Int) (k8_1 : Nat) (mf1 : Nat) : F_spec_l6Cover_L1 row r (mf1 + 1) k8_1 = (bif decide ((row.getD (k8_1 + 1) 0) < r) then F_spec_l6Cover_L1 row r mf1 (k8_1 + 1) else (.next k8_1)) := rfl
def F_spec_l6Cover (row : List Int) (r : Int) : List Int × Int := (bif (F_spec_l1Has row r) then (row, 0) else (bif decide (r < (row.getD 0 0)) then ((row.set 0 r), (row.getD 0 0) - r) else (bif decide ((row.getD (((row.length : Int) - 1).toNat) 0) < r) then ((row.set (((row.length : Int) - 1).toNat) r), r - (row.getD (((row.length : Int) - 1).toNat) 0)) else ((F_spec_l6Cover_L1 row r ((row.length - 0) + 1) 0).elim (fun k8_1 => (((row.set k8_1 ((row.getD k8_1 0) + (F_spec_l1Least (r - (row.getD k8_1 0)) ((row.getD (k8_1 + 1) 0) - r)))).set (k8_1 + 1) ((row.getD (k8_1 + 1) 0) - (F_spec_l1Least (r - (row.getD k8_1 0)) ((row.getD (k8_1 + 1) 0) - r)))), 2 * (F_spec_l1Least (r - (row.getD k8_1 0)) ((row.getD (k8_1 + 1) 0) - r)))) (fun r => r)))))

def F_spec_CoverStep (row : List Int) (r : Int) : List Int × Int × Bool := (bif ((!(F_spec_l6Row row)) || (!((decide (0 ≤ r)) && (decide (r ≤ 99))))) then (([] : List Int), 0, false) else ((F_spec_l6Cover row r).1, (F_spec_l6Cover row r).2, true))


end Go.Proofs.Ytfhhfhiooehlcaa
