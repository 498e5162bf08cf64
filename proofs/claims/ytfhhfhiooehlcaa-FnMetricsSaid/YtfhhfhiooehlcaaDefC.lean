/-
  What functions of the program compute, as plain functions. No condition.
-/
import Derived.Test.YtfhhfhiooehlcaaDefB
namespace Go.Proofs.Ytfhhfhiooehlcaa
open Go Go.RowKit

def F_impl_Metric_isTable_1 (row : List Int) (n : Int) : Bool := !decide ((row.length : Int) = n)

def F_impl_Metric_isTable_L2 (m : List (List Int)) (opn : Bool) (k22_1 : Nat) : Nat → Nat → Ctl (Nat) (Bool)
  | 0, s => .next s
  | mf2 + 1, k31_2 => (bif decide ((k31_2 : Int) < ((m.getD k22_1 []).length : Int)) then (bif ((decide ((k22_1 : Int) = (k31_2 : Int))) && (!decide (((m.getD k22_1 []).getD k31_2 0) = 0))) then (.ret false) else (bif !decide (((m.getD k22_1 []).getD k31_2 0) = ((m.getD k31_2 []).getD k22_1 0)) then (.ret false) else (bif decide (99 < ((m.getD k22_1 []).getD k31_2 0)) then (.ret false) else (bif (((!decide ((k22_1 : Int) = (k31_2 : Int))) && (decide (((m.getD k22_1 []).getD k31_2 0) < 1))) && (!(opn && (decide (((m.getD k22_1 []).getD k31_2 0) = -1))))) then (.ret false) else F_impl_Metric_isTable_L2 m opn k22_1 mf2 (k31_2 + 1))))) else (.next k31_2))
theorem F_impl_Metric_isTable_L2_s (m : List (List Int)) (opn : Bool) (k22_1 : Nat) (k31_2 : Nat) (mf2 : Nat) : F_impl_Metric_isTable_L2 m opn k22_1 (mf2 + 1) k31_2 = (bif decide ((k31_2 : Int) < ((m.getD k22_1 []).length : Int)) then (bif ((decide ((k22_1 : Int) = (k31_2 : Int))) && (!decide (((m.getD k22_1 []).getD k31_2 0) = 0))) then (.ret false) else (bif !decide (((m.getD k22_1 []).getD k31_2 0) = ((m.getD k31_2 []).getD k22_1 0)) then (.ret false) else (bif decide (99 < ((m.getD k22_1 []).getD k31_2 0)) then (.ret false) else (bif (((!decide ((k22_1 : Int) = (k31_2 : Int))) && (decide (((m.getD k22_1 []).getD k31_2 0) < 1))) && (!(opn && (decide (((m.getD k22_1 []).getD k31_2 0) = -1))))) then (.ret false) else F_impl_Metric_isTable_L2 m opn k22_1 mf2 (k31_2 + 1))))) else (.next k31_2)) := rfl
def F_impl_Metric_isTable_L1 (m : List (List Int)) (opn : Bool) : Nat → Nat → Ctl (Nat) (Bool)
  | 0, s => .next s
  | mf1 + 1, k22_1 => (bif decide ((k22_1 : Int) < (m.length : Int)) then ((F_impl_Metric_isTable_L2 m opn k22_1 ((((m.getD k22_1 []).length) - 0) + 1) 0).elim (fun _ => F_impl_Metric_isTable_L1 m opn mf1 (k22_1 + 1)) (fun r => .ret r)) else (.next k22_1))
theorem F_impl_Metric_isTable_L1_s (m : List (List Int)) (opn : Bool) (k22_1 : Nat) (mf1 : Nat) : F_impl_Metric_isTable_L1 m opn (mf1 + 1) k22_1 = (bif decide ((k22_1 : Int) < (m.length : Int)) then ((F_impl_Metric_isTable_L2 m opn k22_1 ((((m.getD k22_1 []).length) - 0) + 1) 0).elim (fun _ => F_impl_Metric_isTable_L1 m opn mf1 (k22_1 + 1)) (fun r => .ret r)) else (.next k22_1)) := rfl
def F_impl_Metric_isTable (m : List (List Int)) (opn : Bool) : Bool := (bif ((!((decide (1 ≤ (m.length : Int))) && (decide ((m.length : Int) ≤ 6)))) || (F_slices_ContainsFunc_SSint_Sint m (fun row => F_impl_Metric_isTable_1 row (m.length : Int)))) then false else ((F_impl_Metric_isTable_L1 m opn ((m.length - 0) + 1) 0).elim (fun _ => true) (fun r => r)))

def F_impl_Metric_isPoint (m : List (List Int)) (x : Int) : Bool := ((decide (0 ≤ x)) && (decide (x ≤ ((m.length : Int) - 1))))

def F_impl_Metric_detour_L3 (m : List (List Int)) (k12_1 : Nat) (k19_2 : Nat) : Nat → Nat → Ctl (Nat) (List Int × Bool)
  | 0, s => .next s
  | mf3 + 1, k27_3 => (bif decide ((k27_3 : Int) < (m.length : Int)) then (bif decide (((m.getD k12_1 []).getD k19_2 0) + ((m.getD k19_2 []).getD k27_3 0) < ((m.getD k12_1 []).getD k27_3 0)) then (.ret ([(k12_1 : Int), (k19_2 : Int), (k27_3 : Int)], true)) else F_impl_Metric_detour_L3 m k12_1 k19_2 mf3 (k27_3 + 1)) else (.next k27_3))
theorem F_impl_Metric_detour_L3_s (m : List (List Int)) (k12_1 : Nat) (k19_2 : Nat) (k27_3 : Nat) (mf3 : Nat) : F_impl_Metric_detour_L3 m k12_1 k19_2 (mf3 + 1) k27_3 = (bif decide ((k27_3 : Int) < (m.length : Int)) then (bif decide (((m.getD k12_1 []).getD k19_2 0) + ((m.getD k19_2 []).getD k27_3 0) < ((m.getD k12_1 []).getD k27_3 0)) then (.ret ([(k12_1 : Int), (k19_2 : Int), (k27_3 : Int)], true)) else F_impl_Metric_detour_L3 m k12_1 k19_2 mf3 (k27_3 + 1)) else (.next k27_3)) := rfl
def F_impl_Metric_detour_L2 (m : List (List Int)) (k12_1 : Nat) : Nat → Nat → Ctl (Nat) (List Int × Bool)
  | 0, s => .next s
  | mf2 + 1, k19_2 => (bif decide ((k19_2 : Int) < ((m.getD k12_1 []).length : Int)) then ((F_impl_Metric_detour_L3 m k12_1 k19_2 ((m.length - 0) + 1) 0).elim (fun _ => F_impl_Metric_detour_L2 m k12_1 mf2 (k19_2 + 1)) (fun r => .ret r)) else (.next k19_2))
theorem F_impl_Metric_detour_L2_s (m : List (List Int)) (k12_1 : Nat) (k19_2 : Nat) (mf2 : Nat) : F_impl_Metric_detour_L2 m k12_1 (mf2 + 1) k19_2 = (bif decide ((k19_2 : Int) < ((m.getD k12_1 []).length : Int)) then ((F_impl_Metric_detour_L3 m k12_1 k19_2 ((m.length - 0) + 1) 0).elim (fun _ => F_impl_Metric_detour_L2 m k12_1 mf2 (k19_2 + 1)) (fun r => .ret r)) else (.next k19_2)) := rfl
def F_impl_Metric_detour_L1 (m : List (List Int)) : Nat → Nat → Ctl (Nat) (List Int × Bool)
  | 0, s => .next s
  | mf1 + 1, k12_1 => (bif decide ((k12_1 : Int) < (m.length : Int)) then ((F_impl_Metric_detour_L2 m k12_1 ((((m.getD k12_1 []).length) - 0) + 1) 0).elim (fun _ => F_impl_Metric_detour_L1 m mf1 (k12_1 + 1)) (fun r => .ret r)) else (.next k12_1))
theorem F_impl_Metric_detour_L1_s (m : List (List Int)) (k12_1 : Nat) (mf1 : Nat) : F_impl_Metric_detour_L1 m (mf1 + 1) k12_1 = (bif decide ((k12_1 : Int) < (m.length : Int)) then ((F_impl_Metric_detour_L2 m k12_1 ((((m.getD k12_1 []).length) - 0) + 1) 0).elim (fun _ => F_impl_Metric_detour_L1 m mf1 (k12_1 + 1)) (fun r => .ret r)) else (.next k12_1)) := rfl
def F_impl_Metric_detour (m : List (List Int)) : List Int × Bool := ((F_impl_Metric_detour_L1 m ((m.length - 0) + 1) 0).elim (fun _ => ([], false)) (fun r => r))

def F_impl_IsMetric (m : List (List Int)) : Bool := (bif !(F_impl_Metric_isTable m false) then false else !((F_impl_Metric_detour m).2))

def F_impl_FirstDetour (m : List (List Int)) : List Int × Bool := (bif !(F_impl_Metric_isTable m false) then ([], false) else ((F_impl_Metric_detour m).1, (F_impl_Metric_detour m).2))

def F_spec_l6Table_L1 (m : List (List Int)) : Nat → Nat → Ctl (Nat) (Bool)
  | 0, s => .next s
  | mf1 + 1, k6_1 => (bif decide ((k6_1 : Int) < (m.length : Int)) then (bif !decide (((m.getD k6_1 []).length : Int) = (m.length : Int)) then (.ret false) else F_spec_l6Table_L1 m mf1 (k6_1 + 1)) else (.next k6_1))
theorem F_spec_l6Table_L1_s (m : List (List Int)) (k6_1 : Nat) (mf1 : Nat) : F_spec_l6Table_L1 m (mf1 + 1) k6_1 = (bif decide ((k6_1 : Int) < (m.length : Int)) then (bif !decide (((m.getD k6_1 []).length : Int) = (m.length : Int)) then (.ret false) else F_spec_l6Table_L1 m mf1 (k6_1 + 1)) else (.next k6_1)) := rfl
def F_spec_l6Table_L3 (m : List (List Int)) (opn : Bool) (k7_2 : Nat) : Nat → Nat → Ctl (Nat) (Bool)
  | 0, s => .next s
  | mf3 + 1, k8_3 => (bif decide ((k8_3 : Int) < (m.length : Int)) then (bif (((!decide (((m.getD k7_2 []).getD k8_3 0) = ((m.getD k8_3 []).getD k7_2 0))) || ((decide ((k7_2 : Int) = (k8_3 : Int))) && (!decide (((m.getD k7_2 []).getD k8_3 0) = 0)))) || (((!decide ((k7_2 : Int) = (k8_3 : Int))) && (!((decide (1 ≤ ((m.getD k7_2 []).getD k8_3 0))) && (decide (((m.getD k7_2 []).getD k8_3 0) ≤ 99))))) && (!(opn && (decide (((m.getD k7_2 []).getD k8_3 0) = -1)))))) then (.ret false) else F_spec_l6Table_L3 m opn k7_2 mf3 (k8_3 + 1)) else (.next k8_3))
theorem F_spec_l6Table_L3_s (m : List (List Int)) (opn : Bool) (k7_2 : Nat) (k8_3 : Nat) (mf3 : Nat) : F_spec_l6Table_L3 m opn k7_2 (mf3 + 1) k8_3 = (bif decide ((k8_3 : Int) < (m.length : Int)) then (bif (((!decide (((m.getD k7_2 []).getD k8_3 0) = ((m.getD k8_3 []).getD k7_2 0))) || ((decide ((k7_2 : Int) = (k8_3 : Int))) && (!decide (((m.getD k7_2 []).getD k8_3 0) = 0)))) || (((!decide ((k7_2 : Int) = (k8_3 : Int))) && (!((decide (1 ≤ ((m.getD k7_2 []).getD k8_3 0))) && (decide (((m.getD k7_2 []).getD k8_3 0) ≤ 99))))) && (!(opn && (decide (((m.getD k7_2 []).getD k8_3 0) = -1)))))) then (.ret false) else F_spec_l6Table_L3 m opn k7_2 mf3 (k8_3 + 1)) else (.next k8_3)) := rfl
def F_spec_l6Table_L2 (m : List (List Int)) (opn : Bool) : Nat → Nat → Ctl (Nat) (Bool)
  | 0, s => .next s
  | mf2 + 1, k7_2 => (bif decide ((k7_2 : Int) < (m.length : Int)) then ((F_spec_l6Table_L3 m opn k7_2 ((m.length - 0) + 1) 0).elim (fun _ => F_spec_l6Table_L2 m opn mf2 (k7_2 + 1)) (fun r => .ret r)) else (.next k7_2))
theorem F_spec_l6Table_L2_s (m : List (List Int)) (opn : Bool) (k7_2 : Nat) (mf2 : Nat) : F_spec_l6Table_L2 m opn (mf2 + 1) k7_2 = (bif decide ((k7_2 : Int) < (m.length : Int)) then ((F_spec_l6Table_L3 m opn k7_2 ((m.length - 0) + 1) 0).elim (fun _ => F_spec_l6Table_L2 m opn mf2 (k7_2 + 1)) (fun r => .ret r)) else (.next k7_2)) := rfl
def F_spec_l6Table (m : List (List Int)) (opn : Bool) : Bool := (bif !((decide (1 ≤ (m.length : Int))) && (decide ((m.length : Int) ≤ 6))) then false else ((F_spec_l6Table_L1 m ((m.length - 0) + 1) 0).elim (fun _ => ((F_spec_l6Table_L2 m opn ((m.length - 0) + 1) 0).elim (fun _ => true) (fun r => r))) (fun r => r)))

def F_spec_l6Detour_L3 (m : List (List Int)) (x1 : Nat) (y2 : Nat) : Nat → Nat → Ctl (Nat) (List Int)
  | 0, s => .next s
  | mf3 + 1, z3 => (bif decide ((z3 : Int) < (m.length : Int)) then (bif decide (((m.getD x1 []).getD y2 0) + ((m.getD y2 []).getD z3 0) < ((m.getD x1 []).getD z3 0)) then (.ret ([(x1 : Int), (y2 : Int), (z3 : Int)])) else F_spec_l6Detour_L3 m x1 y2 mf3 (z3 + 1)) else (.next z3))
theorem F_spec_l6Detour_L3_s (m : List (List Int)) (x1 : Nat) (y2 : Nat) (z3 : Nat) (mf3 : Nat) : F_spec_l6Detour_L3 m x1 y2 (mf3 + 1) z3 = (bif decide ((z3 : Int) < (m.length : Int)) then (bif decide (((m.getD x1 []).getD y2 0) + ((m.getD y2 []).getD z3 0) < ((m.getD x1 []).getD z3 0)) then (.ret ([(x1 : Int), (y2 : Int), (z3 : Int)])) else F_spec_l6Detour_L3 m x1 y2 mf3 (z3 + 1)) else (.next z3)) := rfl
def F_spec_l6Detour_L2 (m : List (List Int)) (x1 : Nat) : Nat → Nat → Ctl (Nat) (List Int)
  | 0, s => .next s
  | mf2 + 1, y2 => (bif decide ((y2 : Int) < (m.length : Int)) then ((F_spec_l6Detour_L3 m x1 y2 ((m.length - 0) + 1) 0).elim (fun _ => F_spec_l6Detour_L2 m x1 mf2 (y2 + 1)) (fun r => .ret r)) else (.next y2))
theorem F_spec_l6Detour_L2_s (m : List (List Int)) (x1 : Nat) (y2 : Nat) (mf2 : Nat) : F_spec_l6Detour_L2 m x1 (mf2 + 1) y2 = (bif decide ((y2 : Int) < (m.length : Int)) then ((F_spec_l6Detour_L3 m x1 y2 ((m.length - 0) + 1) 0).elim (fun _ => F_spec_l6Detour_L2 m x1 mf2 (y2 + 1)) (fun r => .ret r)) else (.next y2)) := rfl
def F_spec_l6Detour_L1 (m : List (List Int)) : Nat → Nat → Ctl (Nat) (List Int)
  | 0, s => .next s
  | mf1 + 1, x1 => (bif decide ((x1 : Int) < (m.length : Int)) then ((F_spec_l6Detour_L2 m x1 ((m.length - 0) + 1) 0).elim (fun _ => F_spec_l6Detour_L1 m mf1 (x1 + 1)) (fun r => .ret r)) else (.next x1))
theorem F_spec_l6Detour_L1_s (m : List (List Int)) (x1 : Nat) (mf1 : Nat) : F_spec_l6Detour_L1 m (mf1 + 1) x1 = (bif decide ((x1 : Int) < (m.length : Int)) then ((F_spec_l6Detour_L2 m x1 ((m.length - 0) + 1) 0).elim (fun _ => F_spec_l6Detour_L1 m mf1 (x1 + 1)) (fun r => .ret r)) else (.next x1)) := rfl
def F_spec_l6Detour (m : List (List Int)) : List Int := ((F_spec_l6Detour_L1 m ((m.length - 0) + 1) 0).elim (fun _ => ([] : List Int)) (fun r => r))

def F_spec_l6Good (m : List (List Int)) : Bool := (bif (F_spec_l6Table m false) then decide (((F_spec_l6Detour m).length : Int) = 0) else false)

def F_spec_FirstDetour (m : List (List Int)) : List Int × Bool := (bif !(F_spec_l6Table m false) then (([] : List Int), false) else ((F_spec_l6Detour m), decide (0 < ((F_spec_l6Detour m).length : Int))))


end Go.Proofs.Ytfhhfhiooehlcaa
