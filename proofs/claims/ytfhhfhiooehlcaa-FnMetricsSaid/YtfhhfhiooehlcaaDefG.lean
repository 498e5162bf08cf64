/-
  What functions of the program compute, as plain functions. No condition.
-/
import Derived.Test.YtfhhfhiooehlcaaDefF
namespace Go.Proofs.Ytfhhfhiooehlcaa
open Go Go.RowKit

def F_slices_Index_Sint_int_L1 (s : List Int) (v : Int) : Nat → Nat → Ctl (Nat) (Int)
  | 0, s => .next s
  | mf1 + 1, k8_1 => (bif decide ((k8_1 : Int) < (s.length : Int)) then (bif decide (v = (s.getD k8_1 0)) then (.ret (k8_1 : Int)) else F_slices_Index_Sint_int_L1 s v mf1 (k8_1 + 1)) else (.next k8_1))
theorem F_slices_Index_Sint_int_L1_s (s : List Int) (v : Int) (k8_1 : Nat) (mf1 : Nat) : F_slices_Index_Sint_int_L1 s v (mf1 + 1) k8_1 = (bif decide ((k8_1 : Int) < (s.length : Int)) then (bif decide (v = (s.getD k8_1 0)) then (.ret (k8_1 : Int)) else F_slices_Index_Sint_int_L1 s v mf1 (k8_1 + 1)) else (.next k8_1)) := rfl
def F_slices_Index_Sint_int (s : List Int) (v : Int) : Int := ((F_slices_Index_Sint_int_L1 s v ((s.length - 0) + 1) 0).elim (fun _ => -1) (fun r => r))

def F_slices_Contains_Sint_int (s : List Int) (v : Int) : Bool := decide (0 ≤ (F_slices_Index_Sint_int s v))

def F_impl_orders_L3 (k : Int) (out1 : List (List Int)) (k16_2 : Nat) : Nat → List (List Int) × Nat → Ctl (List (List Int) × Nat) (List (List Int))
  | 0, s => .next s
  | mf3 + 1, (next3, k21_3) => (bif decide ((k21_3 : Int) < k) then (bif !(F_slices_Contains_Sint_int (out1.getD k16_2 []) (k21_3 : Int)) then F_impl_orders_L3 k out1 k16_2 mf3 ((next3 ++ [((out1.getD k16_2 []) ++ ([(k21_3 : Int)]))]), (k21_3 + 1)) else F_impl_orders_L3 k out1 k16_2 mf3 (next3, (k21_3 + 1))) else (.next (next3, k21_3)))
theorem F_impl_orders_L3_s (k : Int) (out1 : List (List Int)) (k16_2 : Nat) (next3 : List (List Int)) (k21_3 : Nat) (mf3 : Nat) : F_impl_orders_L3 k out1 k16_2 (mf3 + 1) (next3, k21_3) = (bif decide ((k21_3 : Int) < k) then (bif !(F_slices_Contains_Sint_int (out1.getD k16_2 []) (k21_3 : Int)) then F_impl_orders_L3 k out1 k16_2 mf3 ((next3 ++ [((out1.getD k16_2 []) ++ ([(k21_3 : Int)]))]), (k21_3 + 1)) else F_impl_orders_L3 k out1 k16_2 mf3 (next3, (k21_3 + 1))) else (.next (next3, k21_3))) := rfl
def F_impl_orders_L2 (k : Int) (out1 : List (List Int)) : Nat → List (List Int) × Nat → Ctl (List (List Int) × Nat) (List (List Int))
  | 0, s => .next s
  | mf2 + 1, (next2, k16_2) => (bif decide ((k16_2 : Int) < (out1.length : Int)) then ((F_impl_orders_L3 k out1 k16_2 ((((k).toNat) - 0) + 1) (next2, 0)).elim (fun (next3, _) => F_impl_orders_L2 k out1 mf2 (next3, (k16_2 + 1))) (fun r => .ret r)) else (.next (next2, k16_2)))
theorem F_impl_orders_L2_s (k : Int) (out1 : List (List Int)) (next2 : List (List Int)) (k16_2 : Nat) (mf2 : Nat) : F_impl_orders_L2 k out1 (mf2 + 1) (next2, k16_2) = (bif decide ((k16_2 : Int) < (out1.length : Int)) then ((F_impl_orders_L3 k out1 k16_2 ((((k).toNat) - 0) + 1) (next2, 0)).elim (fun (next3, _) => F_impl_orders_L2 k out1 mf2 (next3, (k16_2 + 1))) (fun r => .ret r)) else (.next (next2, k16_2))) := rfl
def F_impl_orders_L1 (k : Int) : Nat → List (List Int) × Nat → Ctl (List (List Int) × Nat) (List (List Int))
  | 0, s => .next s
  | mf1 + 1, (out1, k11_1) => (bif decide ((k11_1 : Int) < k) then ((F_impl_orders_L2 k out1 ((out1.length - 0) + 1) (([]), 0)).elim (fun (next2, _) => F_impl_orders_L1 k mf1 (next2, (k11_1 + 1))) (fun r => .ret r)) else (.next (out1, k11_1)))
theorem F_impl_orders_L1_s (k : Int) (out1 : List (List Int)) (k11_1 : Nat) (mf1 : Nat) : F_impl_orders_L1 k (mf1 + 1) (out1, k11_1) = (bif decide ((k11_1 : Int) < k) then ((F_impl_orders_L2 k out1 ((out1.length - 0) + 1) (([]), 0)).elim (fun (next2, _) => F_impl_orders_L1 k mf1 (next2, (k11_1 + 1))) (fun r => .ret r)) else (.next (out1, k11_1))) := rfl
def F_impl_orders (k : Int) : List (List Int) := ((F_impl_orders_L1 k ((((k).toNat) - 0) + 1) (([([] : List Int)]), 0)).elim (fun (out1, _) => out1) (fun r => r))

def F_impl_Metric_matched_L2 (m : List (List Int)) (a : List Int) (b : List Int) (k19_1 : Nat) : Nat → Int × Nat → Ctl (Int × Nat) (List Int × Int)
  | 0, s => .next s
  | mf2 + 1, (cost2, k25_2) => (bif decide ((k25_2 : Int) < (((F_impl_orders (a.length : Int)).getD k19_1 []).length : Int)) then F_impl_Metric_matched_L2 m a b k19_1 mf2 ((cost2 + ((m.getD (((a.getD k25_2 0)).toNat) []).getD (((b.getD (((((F_impl_orders (a.length : Int)).getD k19_1 []).getD k25_2 0)).toNat) 0)).toNat) 0)), (k25_2 + 1)) else (.next (cost2, k25_2)))
theorem F_impl_Metric_matched_L2_s (m : List (List Int)) (a : List Int) (b : List Int) (k19_1 : Nat) (cost2 : Int) (k25_2 : Nat) (mf2 : Nat) : F_impl_Metric_matched_L2 m a b k19_1 (mf2 + 1) (cost2, k25_2) = (bif decide ((k25_2 : Int) < (((F_impl_orders (a.length : Int)).getD k19_1 []).length : Int)) then F_impl_Metric_matched_L2 m a b k19_1 mf2 ((cost2 + ((m.getD (((a.getD k25_2 0)).toNat) []).getD (((b.getD (((((F_impl_orders (a.length : Int)).getD k19_1 []).getD k25_2 0)).toNat) 0)).toNat) 0)), (k25_2 + 1)) else (.next (cost2, k25_2))) := rfl
def F_impl_Metric_matched_L1 (m : List (List Int)) (a : List Int) (b : List Int) : Nat → List Int × Int × Nat → Ctl (List Int × Int × Nat) (List Int × Int)
  | 0, s => .next s
  | mf1 + 1, (best1, least1, k19_1) => (bif decide ((k19_1 : Int) < ((F_impl_orders (a.length : Int)).length : Int)) then ((F_impl_Metric_matched_L2 m a b k19_1 (((((F_impl_orders (a.length : Int)).getD k19_1 []).length) - 0) + 1) (0, 0)).elim (fun (cost2, _) => (bif decide (cost2 < least1) then F_impl_Metric_matched_L1 m a b mf1 (((F_impl_orders (a.length : Int)).getD k19_1 []), cost2, (k19_1 + 1)) else F_impl_Metric_matched_L1 m a b mf1 (best1, least1, (k19_1 + 1)))) (fun r => .ret r)) else (.next (best1, least1, k19_1)))
theorem F_impl_Metric_matched_L1_s (m : List (List Int)) (a : List Int) (b : List Int) (best1 : List Int) (least1 : Int) (k19_1 : Nat) (mf1 : Nat) : F_impl_Metric_matched_L1 m a b (mf1 + 1) (best1, least1, k19_1) = (bif decide ((k19_1 : Int) < ((F_impl_orders (a.length : Int)).length : Int)) then ((F_impl_Metric_matched_L2 m a b k19_1 (((((F_impl_orders (a.length : Int)).getD k19_1 []).length) - 0) + 1) (0, 0)).elim (fun (cost2, _) => (bif decide (cost2 < least1) then F_impl_Metric_matched_L1 m a b mf1 (((F_impl_orders (a.length : Int)).getD k19_1 []), cost2, (k19_1 + 1)) else F_impl_Metric_matched_L1 m a b mf1 (best1, least1, (k19_1 + 1)))) (fun r => .ret r)) else (.next (best1, least1, k19_1))) := rfl
def F_impl_Metric_matched (m : List (List Int)) (a : List Int) (b : List Int) : List Int × Int := ((F_impl_Metric_matched_L1 m a b ((((F_impl_orders (a.length : Int)).length) - 0) + 1) (([]), 1073741824, 0)).elim (fun (best1, least1, _) => (best1, least1)) (fun r => r))

def F_impl_Metric_moveCost (m : List (List Int)) (a : List Int) (b : List Int) : Int := (F_impl_Metric_matched m a b).2

def F_impl_areConfigs (m : List (List Int)) (a : List Int) (b : List Int) : Bool := ((((F_impl_IsMetric m) && (F_impl_Metric_isConfig m a)) && (F_impl_Metric_isConfig m b)) && (decide ((a.length : Int) = (b.length : Int))))

def F_impl_MoveCost (m : List (List Int)) (a : List Int) (b : List Int) : Int × Bool := (bif !(F_impl_areConfigs m a b) then (0, false) else ((F_impl_Metric_moveCost m a b), true))


end Go.Proofs.Ytfhhfhiooehlcaa
