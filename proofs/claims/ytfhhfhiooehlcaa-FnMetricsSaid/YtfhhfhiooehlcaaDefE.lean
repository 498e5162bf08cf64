/-
  What functions of the program compute, as plain functions. No condition.
-/
import Derived.Test.YtfhhfhiooehlcaaDefD
namespace Go.Proofs.Ytfhhfhiooehlcaa
open Go Go.RowKit

def F_spec_l6Uniform_L2 (n : Int) (d : Int) (x1 : Nat) : Nat → List Int × Nat → Ctl (List Int × Nat) (List (List Int))
  | 0, s => .next s
  | mf2 + 1, (row2, y2) => (bif decide ((y2 : Int) < n) then (bif decide ((x1 : Int) = (y2 : Int)) then F_spec_l6Uniform_L2 n d x1 mf2 ((row2 ++ ([0])), (y2 + 1)) else F_spec_l6Uniform_L2 n d x1 mf2 ((row2 ++ ([d])), (y2 + 1))) else (.next (row2, y2)))
theorem F_spec_l6Uniform_L2_s (n : Int) (d : Int) (x1 : Nat) (row2 : List Int) (y2 : Nat) (mf2 : Nat) : F_spec_l6Uniform_L2 n d x1 (mf2 + 1) (row2, y2) = (bif decide ((y2 : Int) < n) then (bif decide ((x1 : Int) = (y2 : Int)) then F_spec_l6Uniform_L2 n d x1 mf2 ((row2 ++ ([0])), (y2 + 1)) else F_spec_l6Uniform_L2 n d x1 mf2 ((row2 ++ ([d])), (y2 + 1))) else (.next (row2, y2))) := rfl
def F_spec_l6Uniform_L1 (n : Int) (d : Int) : Nat → Nat × List (List Int) → Ctl (Nat × List (List Int)) (List (List Int))
  | 0, s => .next s
  | mf1 + 1, (x1, zg1_2_0_1) => (bif decide ((x1 : Int) < n) then ((F_spec_l6Uniform_L2 n d x1 ((((n).toNat) - 0) + 1) (([] : List Int), 0)).elim (fun (row2, _) => F_spec_l6Uniform_L1 n d mf1 ((x1 + 1), (zg1_2_0_1 ++ [row2]))) (fun r => .ret r)) else (.next (x1, zg1_2_0_1)))
theorem F_spec_l6Uniform_L1_s (n : Int) (d : Int) (x1 : Nat) (zg1_2_0_1 : List (List Int)) (mf1 : Nat) : F_spec_l6Uniform_L1 n d (mf1 + 1) (x1, zg1_2_0_1) = (bif decide ((x1 : Int) < n) then ((F_spec_l6Uniform_L2 n d x1 ((((n).toNat) - 0) + 1) (([] : List Int), 0)).elim (fun (row2, _) => F_spec_l6Uniform_L1 n d mf1 ((x1 + 1), (zg1_2_0_1 ++ [row2]))) (fun r => .ret r)) else (.next (x1, zg1_2_0_1))) := rfl
def F_spec_l6Uniform (n : Int) (d : Int) : List (List Int) := ((F_spec_l6Uniform_L1 n d ((((n).toNat) - 0) + 1) (0, ([]))).elim (fun (_, zg1_2_0_1) => zg1_2_0_1) (fun r => r))

def F_impl_metricOf (dist : List (List Int)) : List (List Int) × Bool := (bif !(F_impl_IsMetric dist) then ([], false) else (dist, true))

def F_impl_metricBy_L2 (n : Int) (dst : Int → Int → Int) (k12_1 : Nat) : Nat → List Int × Nat → Ctl (List Int × Nat) (List (List Int) × Bool)
  | 0, s => .next s
  | mf2 + 1, (row2, k17_2) => (bif decide ((k17_2 : Int) < n) then (bif decide ((k12_1 : Int) = (k17_2 : Int)) then F_impl_metricBy_L2 n dst k12_1 mf2 ((row2 ++ ([0])), (k17_2 + 1)) else F_impl_metricBy_L2 n dst k12_1 mf2 ((row2 ++ ([(dst (k12_1 : Int) (k17_2 : Int))])), (k17_2 + 1))) else (.next (row2, k17_2)))
theorem F_impl_metricBy_L2_s (n : Int) (dst : Int → Int → Int) (k12_1 : Nat) (row2 : List Int) (k17_2 : Nat) (mf2 : Nat) : F_impl_metricBy_L2 n dst k12_1 (mf2 + 1) (row2, k17_2) = (bif decide ((k17_2 : Int) < n) then (bif decide ((k12_1 : Int) = (k17_2 : Int)) then F_impl_metricBy_L2 n dst k12_1 mf2 ((row2 ++ ([0])), (k17_2 + 1)) else F_impl_metricBy_L2 n dst k12_1 mf2 ((row2 ++ ([(dst (k12_1 : Int) (k17_2 : Int))])), (k17_2 + 1))) else (.next (row2, k17_2))) := rfl
def F_impl_metricBy_L1 (n : Int) (dst : Int → Int → Int) : Nat → List (List Int) × Nat → Ctl (List (List Int) × Nat) (List (List Int) × Bool)
  | 0, s => .next s
  | mf1 + 1, (dist1, k12_1) => (bif decide ((k12_1 : Int) < n) then ((F_impl_metricBy_L2 n dst k12_1 ((((n).toNat) - 0) + 1) (([] : List Int), 0)).elim (fun (row2, _) => F_impl_metricBy_L1 n dst mf1 ((dist1 ++ [row2]), (k12_1 + 1))) (fun r => .ret r)) else (.next (dist1, k12_1)))
theorem F_impl_metricBy_L1_s (n : Int) (dst : Int → Int → Int) (dist1 : List (List Int)) (k12_1 : Nat) (mf1 : Nat) : F_impl_metricBy_L1 n dst (mf1 + 1) (dist1, k12_1) = (bif decide ((k12_1 : Int) < n) then ((F_impl_metricBy_L2 n dst k12_1 ((((n).toNat) - 0) + 1) (([] : List Int), 0)).elim (fun (row2, _) => F_impl_metricBy_L1 n dst mf1 ((dist1 ++ [row2]), (k12_1 + 1))) (fun r => .ret r)) else (.next (dist1, k12_1))) := rfl
def F_impl_metricBy (n : Int) (dst : Int → Int → Int) : List (List Int) × Bool := ((F_impl_metricBy_L1 n dst ((((n).toNat) - 0) + 1) (([]), 0)).elim (fun (dist1, _) => ((F_impl_metricOf dist1).1, (F_impl_metricOf dist1).2)) (fun r => r))

def F_impl_LineMetric_1 (x : Int) (y : Int) (places : List Int) : Int := max ((places.getD ((x).toNat) 0) - (places.getD ((y).toNat) 0)) (-((places.getD ((x).toNat) 0) - (places.getD ((y).toNat) 0)))

def F_impl_LineMetric (places : List Int) : List (List Int) × Bool := (bif !(F_impl_areIn places 6 0 99) then ([], false) else ((F_impl_metricBy (places.length : Int) (fun x y => F_impl_LineMetric_1 x y places)).1, (F_impl_metricBy (places.length : Int) (fun x y => F_impl_LineMetric_1 x y places)).2))

def F_spec_l6Line_L2 (places : List Int) (x1 : Nat) : Nat → Nat × List (List Int) → Ctl (Nat × List (List Int)) (List (List Int))
  | 0, s => .next s
  | mf2 + 1, (y2, m0_2) => (bif decide ((y2 : Int) < (places.length : Int)) then F_spec_l6Line_L2 places x1 mf2 ((y2 + 1), (m0_2.set x1 ((m0_2.getD x1 []).set y2 (F_spec_l1Most ((places.getD x1 0) - (places.getD y2 0)) ((places.getD y2 0) - (places.getD x1 0)))))) else (.next (y2, m0_2)))
theorem F_spec_l6Line_L2_s (places : List Int) (x1 : Nat) (y2 : Nat) (m0_2 : List (List Int)) (mf2 : Nat) : F_spec_l6Line_L2 places x1 (mf2 + 1) (y2, m0_2) = (bif decide ((y2 : Int) < (places.length : Int)) then F_spec_l6Line_L2 places x1 mf2 ((y2 + 1), (m0_2.set x1 ((m0_2.getD x1 []).set y2 (F_spec_l1Most ((places.getD x1 0) - (places.getD y2 0)) ((places.getD y2 0) - (places.getD x1 0)))))) else (.next (y2, m0_2))) := rfl
def F_spec_l6Line_L1 (places : List Int) : Nat → Nat × List (List Int) → Ctl (Nat × List (List Int)) (List (List Int))
  | 0, s => .next s
  | mf1 + 1, (x1, m0_1) => (bif decide ((x1 : Int) < (places.length : Int)) then ((F_spec_l6Line_L2 places x1 ((places.length - 0) + 1) (0, m0_1)).elim (fun (_, m0_2) => F_spec_l6Line_L1 places mf1 ((x1 + 1), m0_2)) (fun r => .ret r)) else (.next (x1, m0_1)))
theorem F_spec_l6Line_L1_s (places : List Int) (x1 : Nat) (m0_1 : List (List Int)) (mf1 : Nat) : F_spec_l6Line_L1 places (mf1 + 1) (x1, m0_1) = (bif decide ((x1 : Int) < (places.length : Int)) then ((F_spec_l6Line_L2 places x1 ((places.length - 0) + 1) (0, m0_1)).elim (fun (_, m0_2) => F_spec_l6Line_L1 places mf1 ((x1 + 1), m0_2)) (fun r => .ret r)) else (.next (x1, m0_1))) := rfl
def F_spec_l6Line (places : List Int) : List (List Int) := ((F_spec_l6Line_L1 places ((places.length - 0) + 1) (0, (F_spec_l6Uniform (places.length : Int) 0))).elim (fun (_, m0_1) => m0_1) (fun r => r))

def F_spec_LineMetric_L1 (places : List Int) : Nat → Nat → Ctl (Nat) (List (List Int) × Bool)
  | 0, s => .next s
  | mf1 + 1, i1 => (bif decide ((i1 : Int) < (places.length : Int)) then (bif ((!((decide (0 ≤ (places.getD i1 0))) && (decide ((places.getD i1 0) ≤ 99)))) || (F_spec_l1Has ((places.take i1).drop 0) (places.getD i1 0))) then (.ret ([], false)) else F_spec_LineMetric_L1 places mf1 (i1 + 1)) else (.next i1))
theorem F_spec_LineMetric_L1_s (places : List Int) (i1 : Nat) (mf1 : Nat) : F_spec_LineMetric_L1 places (mf1 + 1) i1 = (bif decide ((i1 : Int) < (places.length : Int)) then (bif ((!((decide (0 ≤ (places.getD i1 0))) && (decide ((places.getD i1 0) ≤ 99)))) || (F_spec_l1Has ((places.take i1).drop 0) (places.getD i1 0))) then (.ret ([], false)) else F_spec_LineMetric_L1 places mf1 (i1 + 1)) else (.next i1)) := rfl
def F_spec_LineMetric (places : List Int) : List (List Int) × Bool := (bif !((decide (1 ≤ (places.length : Int))) && (decide ((places.length : Int) ≤ 6))) then ([], false) else ((F_spec_LineMetric_L1 places ((places.length - 0) + 1) 0).elim (fun _ => ((F_spec_l6Line places), true)) (fun r => r)))


end Go.Proofs.Ytfhhfhiooehlcaa
