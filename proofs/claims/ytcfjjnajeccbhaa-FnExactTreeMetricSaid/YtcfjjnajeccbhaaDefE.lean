/-
  What functions of the program compute, as plain functions. No condition.
-/
import Derived.Test.YtcfjjnajeccbhaaDefD
namespace Go.Proofs.Ytcfjjnajeccbhaa
open Go Go.RowKit

def F_spec_l6Uniform_L2 (n : Int) (d : Int) (x1 : Nat) : Nat → List Int × Nat → Ctl (List Int × Nat) (List (List Int))
  | 0, s => .next s
  | mf2 + 1, (row2, y2) => (bif decide ((y2 : Int) < n) then (bif decide ((x1 : Int) = (y2 : Int)) then F_spec_l6Uniform_L2 n d x1 mf2 ((row2 ++ ([0])), (y2 + 1)) else F_spec_l6Uniform_L2 n d x1 mf2 ((row2 ++ ([d])), (y2 + 1))) else (.next (row2, y2)))
theorem F_spec_l6Uniform_L2_s (n : Int) (d : Int) (x1 : Nat) (row2 : List Int) (y2 : Nat) (mf2 : Nat) : F_spec_l6Uniform_L2 n d x1 (mf2 + 1) (row2, y2) = (bif decide ((y2 : Int) < n) then (bif decide ((x1 : Int) = (y2 : Int)) then F_spec_l6Uniform_L2 n d x1 mf2 ((row2 ++ ([0])), (y2 + 1)) else F_spec_l6Uniform_L2 n d x1 mf2 ((row2 ++ ([d])), (y2 + 1))) else (.next (row2, y2))) := rfl
def F_spec_l6Uniform_L1 (n : Int) (d : Int) : Nat → Nat × List (List Int) → Ctl (Nat × List (List Int)) (List (List Int))
  | 0, s => .next s
  | mf1 + 1, (x1, zg1_2_0_1) => (bif decide ((x1 : Int) < n) then ((F_spec_l6Uniform_L2 n d x1 ((((n).toNat) - 0) + 1) (([] : List Int), 0)).elim (fun (row2, _) => F_spec_l6Uniform_L1 n d mf1 ((x1 + 1), (zg1_2_0_1 ++ [row2]))) (fun r => .ret r)) else (.next (x1, zg1_2_0_1)))
theorem F_spec_l6Uniform_L1_s (n : Int) (d : Int) (x1 : Nat) (zg1_2_0_1 : List (List Int)) (mf1 : Nat) : F_spec_l6Uniform_L1 n d (mf1 + 1) (x1, zg1_2_0_1) = (bif decide ((x1 : Int) < n) then ((F_spec_l6Uniform_L2 n d x1 ((((n).toNat) - 0) + 1) (([] : List Int), 0)).elim (fun (row2, _) => F_spec_l6Uniform_L1 n d mf1 ((x1 + 1), (zg1_2_0_1 ++ [row2]))) (fun r => .ret r)) else (.next (x1, zg1_2_0_1))) := rfl
def F_spec_l6Uniform (n : Int) (d : Int) : List (List Int) := ((F_spec_l6Uniform_L1 n d ((((n).toNat) - 0) + 1) (0, ([]))).elim (fun (_, zg1_2_0_1) => zg1_2_0_1) (fun r => r))

def F_impl_metricOf (dist : List (List Int)) : List (List Int) × Bool := (bif !(F_impl_IsMetric dist) then ([], false) else (dist, true))


end Go.Proofs.Ytcfjjnajeccbhaa
