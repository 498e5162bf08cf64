/-
  What functions of the program compute, as plain functions. No condition.
-/
import Derived.Test.YtcfjjnajeccbhaaDefE
namespace Go.Proofs.Ytcfjjnajeccbhaa
open Go Go.RowKit

def F_impl_areBelow_1 (a : Int) (n : Int) : Bool := !((decide (0 ≤ a)) && (decide (a ≤ (n - 1))))

def F_impl_areBelow (n : Int) (l : List Int) : Bool := !(F_slices_ContainsFunc_Sint_int l (fun a => F_impl_areBelow_1 a n))

def F_impl_Metric_isConfig (m : List (List Int)) (a : List Int) : Bool := ((((decide (1 ≤ (a.length : Int))) && (decide ((a.length : Int) ≤ 3))) && (F_impl_areBelow (m.length : Int) a)) && (F_slices_IsSorted_Sint_int a))

def F_impl_IsConfig (m : List (List Int)) (a : List Int) : Bool × Bool := (bif !(F_impl_IsMetric m) then (false, false) else ((F_impl_Metric_isConfig m a), true))

def F_spec_l6List_L1 (n : Int) (list : List Int) : Nat → Nat → Ctl (Nat) (Bool)
  | 0, s => .next s
  | mf1 + 1, i1 => (bif decide ((i1 : Int) < (list.length : Int)) then (bif !((decide (0 ≤ (list.getD i1 0))) && (decide ((list.getD i1 0) ≤ (n - 1)))) then (.ret false) else F_spec_l6List_L1 n list mf1 (i1 + 1)) else (.next i1))
theorem F_spec_l6List_L1_s (n : Int) (list : List Int) (i1 : Nat) (mf1 : Nat) : F_spec_l6List_L1 n list (mf1 + 1) i1 = (bif decide ((i1 : Int) < (list.length : Int)) then (bif !((decide (0 ≤ (list.getD i1 0))) && (decide ((list.getD i1 0) ≤ (n - 1)))) then (.ret false) else F_spec_l6List_L1 n list mf1 (i1 + 1)) else (.next i1)) := rfl
def F_spec_l6List (n : Int) (list : List Int) : Bool := ((F_spec_l6List_L1 n list ((list.length - 0) + 1) 0).elim (fun _ => true) (fun r => r))

def F_spec_l6Config (n : Int) (a : List Int) : Bool := ((((decide (1 ≤ (a.length : Int))) && (decide ((a.length : Int) ≤ 3))) && (F_spec_l6List n a)) && (F_spec_l6Ascending a))

def F_spec_IsConfig (m : List (List Int)) (a : List Int) : Bool × Bool := (bif !(F_spec_l6Good m) then (false, false) else ((F_spec_l6Config (m.length : Int) a), true))

def F_laws_FnExactIsConfig (m : List (List Int)) (a : List Int) : Bool := (bif decide (1048576 < (a.length : Int)) then true else (bif decide ((F_laws_szMetric m 1048576) < 0) then true else (bif ((((F_impl_IsConfig (F_laws_toMetric m) (F_laws_toIntS a)).1) != ((F_spec_IsConfig (F_laws_toMetric m) (F_laws_toIntS a)).1)) || (((F_impl_IsConfig (F_laws_toMetric m) (F_laws_toIntS a)).2) != ((F_spec_IsConfig (F_laws_toMetric m) (F_laws_toIntS a)).2))) then false else (bif !(F_laws_eqMetric (F_laws_toMetric m) (F_laws_toMetric m)) then false else (bif !(F_laws_eqIntS (F_laws_toIntS a) (F_laws_toIntS a)) then false else true)))))

def F_impl_IsLineLike_L1 (m : List (List Int)) : Nat → Nat × Nat → Ctl (Nat × Nat) (Bool × Bool)
  | 0, s => .next s
  | mf1 + 1, (k4_1, k18_1) => (bif decide ((k18_1 : Int) < (m.length : Int)) then (bif decide ((F_slices_Max_Sint_int (m.getD k4_1 [])) < (F_slices_Max_Sint_int (m.getD k18_1 []))) then F_impl_IsLineLike_L1 m mf1 (k18_1, (k18_1 + 1)) else F_impl_IsLineLike_L1 m mf1 (k4_1, (k18_1 + 1))) else (.next (k4_1, k18_1)))
theorem F_impl_IsLineLike_L1_s (m : List (List Int)) (k4_1 : Nat) (k18_1 : Nat) (mf1 : Nat) : F_impl_IsLineLike_L1 m (mf1 + 1) (k4_1, k18_1) = (bif decide ((k18_1 : Int) < (m.length : Int)) then (bif decide ((F_slices_Max_Sint_int (m.getD k4_1 [])) < (F_slices_Max_Sint_int (m.getD k18_1 []))) then F_impl_IsLineLike_L1 m mf1 (k18_1, (k18_1 + 1)) else F_impl_IsLineLike_L1 m mf1 (k4_1, (k18_1 + 1))) else (.next (k4_1, k18_1))) := rfl
def F_impl_IsLineLike_L3 (m : List (List Int)) (k4_1 : Nat) (k42_2 : Nat) : Nat → Nat → Ctl (Nat) (Bool × Bool)
  | 0, s => .next s
  | mf3 + 1, k49_3 => (bif decide ((k49_3 : Int) < ((m.getD k42_2 []).length : Int)) then (bif !decide (max (((m.getD k4_1 []).getD k42_2 0) - ((m.getD k4_1 []).getD k49_3 0)) (-(((m.getD k4_1 []).getD k42_2 0) - ((m.getD k4_1 []).getD k49_3 0))) = ((m.getD k42_2 []).getD k49_3 0)) then (.ret (false, true)) else F_impl_IsLineLike_L3 m k4_1 k42_2 mf3 (k49_3 + 1)) else (.next k49_3))
theorem F_impl_IsLineLike_L3_s (m : List (List Int)) (k4_1 : Nat) (k42_2 : Nat) (k49_3 : Nat) (mf3 : Nat) : F_impl_IsLineLike_L3 m k4_1 k42_2 (mf3 + 1) k49_3 = (bif decide ((k49_3 : Int) < ((m.getD k42_2 []).length : Int)) then (bif !decide (max (((m.getD k4_1 []).getD k42_2 0) - ((m.getD k4_1 []).getD k49_3 0)) (-(((m.getD k4_1 []).getD k42_2 0) - ((m.getD k4_1 []).getD k49_3 0))) = ((m.getD k42_2 []).getD k49_3 0)) then (.ret (false, true)) else F_impl_IsLineLike_L3 m k4_1 k42_2 mf3 (k49_3 + 1)) else (.next k49_3)) := rfl
def F_impl_IsLineLike_L2 (m : List (List Int)) (k4_1 : Nat) : Nat → Nat → Ctl (Nat) (Bool × Bool)
  | 0, s => .next s
  | mf2 + 1, k42_2 => (bif decide ((k42_2 : Int) < (m.length : Int)) then ((F_impl_IsLineLike_L3 m k4_1 k42_2 ((((m.getD k42_2 []).length) - 0) + 1) 0).elim (fun _ => F_impl_IsLineLike_L2 m k4_1 mf2 (k42_2 + 1)) (fun r => .ret r)) else (.next k42_2))
theorem F_impl_IsLineLike_L2_s (m : List (List Int)) (k4_1 : Nat) (k42_2 : Nat) (mf2 : Nat) : F_impl_IsLineLike_L2 m k4_1 (mf2 + 1) k42_2 = (bif decide ((k42_2 : Int) < (m.length : Int)) then ((F_impl_IsLineLike_L3 m k4_1 k42_2 ((((m.getD k42_2 []).length) - 0) + 1) 0).elim (fun _ => F_impl_IsLineLike_L2 m k4_1 mf2 (k42_2 + 1)) (fun r => .ret r)) else (.next k42_2)) := rfl
def F_impl_IsLineLike (m : List (List Int)) : Bool × Bool := (bif !(F_impl_IsMetric m) then (false, false) else ((F_impl_IsLineLike_L1 m ((m.length - 0) + 1) (0, 0)).elim (fun (k4_1, _) => ((F_impl_IsLineLike_L2 m k4_1 ((m.length - 0) + 1) 0).elim (fun _ => (true, true)) (fun r => r))) (fun r => r)))

def F_spec_IsLineLike_L2 (m : List (List Int)) (k7_1 : Nat) : Nat → Nat × Int × Nat → Ctl (Nat × Int × Nat) (Bool × Bool)
  | 0, s => .next s
  | mf2 + 1, (k5_2, k6_2, k8_2) => (bif decide ((k8_2 : Int) < (m.length : Int)) then (bif decide (k6_2 < ((m.getD k7_1 []).getD k8_2 0)) then F_spec_IsLineLike_L2 m k7_1 mf2 (k7_1, ((m.getD k7_1 []).getD k8_2 0), (k8_2 + 1)) else F_spec_IsLineLike_L2 m k7_1 mf2 (k5_2, k6_2, (k8_2 + 1))) else (.next (k5_2, k6_2, k8_2)))
theorem F_spec_IsLineLike_L2_s (m : List (List Int)) (k7_1 : Nat) (k5_2 : Nat) (k6_2 : Int) (k8_2 : Nat) (mf2 : Nat) : F_spec_IsLineLike_L2 m k7_1 (mf2 + 1) (k5_2, k6_2, k8_2) = (bif decide ((k8_2 : Int) < (m.length : Int)) then (bif decide (k6_2 < ((m.getD k7_1 []).getD k8_2 0)) then F_spec_IsLineLike_L2 m k7_1 mf2 (k7_1, ((m.getD k7_1 []).getD k8_2 0), (k8_2 + 1)) else F_spec_IsLineLike_L2 m k7_1 mf2 (k5_2, k6_2, (k8_2 + 1))) else (.next (k5_2, k6_2, k8_2))) := rfl
def F_spec_IsLineLike_L1 (m : List (List Int)) : Nat → Nat × Int × Nat → Ctl (Nat × Int × Nat) (Bool × Bool)
  | 0, s => .next s
  | mf1 + 1, (k5_1, k6_1, k7_1) => (bif decide ((k7_1 : Int) < (m.length : Int)) then ((F_spec_IsLineLike_L2 m k7_1 ((m.length - 0) + 1) (k5_1, k6_1, 0)).elim (fun (k5_2, k6_2, _) => F_spec_IsLineLike_L1 m mf1 (k5_2, k6_2, (k7_1 + 1))) (fun r => .ret r)) else (.next (k5_1, k6_1, k7_1)))
theorem F_spec_IsLineLike_L1_s (m : List (List Int)) (k5_1 : Nat) (k6_1 : Int) (k7_1 : Nat) (mf1 : Nat) : F_spec_IsLineLike_L1 m (mf1 + 1) (k5_1, k6_1, k7_1) = (bif decide ((k7_1 : Int) < (m.length : Int)) then ((F_spec_IsLineLike_L2 m k7_1 ((m.length - 0) + 1) (k5_1, k6_1, 0)).elim (fun (k5_2, k6_2, _) => F_spec_IsLineLike_L1 m mf1 (k5_2, k6_2, (k7_1 + 1))) (fun r => .ret r)) else (.next (k5_1, k6_1, k7_1))) := rfl
def F_spec_IsLineLike_L4 (m : List (List Int)) (k5_1 : Nat) (k9_3 : Nat) : Nat → Nat → Ctl (Nat) (Bool × Bool)
  | 0, s => .next s
  | mf4 + 1, k10_4 => (bif decide ((k10_4 : Int) < (m.length : Int)) then (bif !decide (((m.getD k9_3 []).getD k10_4 0) = (F_spec_l1Most (((m.getD k5_1 []).getD k9_3 0) - ((m.getD k5_1 []).getD k10_4 0)) (-(((m.getD k5_1 []).getD k9_3 0) - ((m.getD k5_1 []).getD k10_4 0))))) then (.ret (false, true)) else F_spec_IsLineLike_L4 m k5_1 k9_3 mf4 (k10_4 + 1)) else (.next k10_4))
theorem F_spec_IsLineLike_L4_s (m : List (List Int)) (k5_1 : Nat) (k9_3 : Nat) (k10_4 : Nat) (mf4 : Nat) : F_spec_IsLineLike_L4 m k5_1 k9_3 (mf4 + 1) k10_4 = (bif decide ((k10_4 : Int) < (m.length : Int)) then (bif !decide (((m.getD k9_3 []).getD k10_4 0) = (F_spec_l1Most (((m.getD k5_1 []).getD k9_3 0) - ((m.getD k5_1 []).getD k10_4 0)) (-(((m.getD k5_1 []).getD k9_3 0) - ((m.getD k5_1 []).getD k10_4 0))))) then (.ret (false, true)) else F_spec_IsLineLike_L4 m k5_1 k9_3 mf4 (k10_4 + 1)) else (.next k10_4)) := rfl
def F_spec_IsLineLike_L3 (m : List (List Int)) (k5_1 : Nat) : Nat → Nat → Ctl (Nat) (Bool × Bool)
  | 0, s => .next s
  | mf3 + 1, k9_3 => (bif decide ((k9_3 : Int) < (m.length : Int)) then ((F_spec_IsLineLike_L4 m k5_1 k9_3 ((m.length - 0) + 1) 0).elim (fun _ => F_spec_IsLineLike_L3 m k5_1 mf3 (k9_3 + 1)) (fun r => .ret r)) else (.next k9_3))
theorem F_spec_IsLineLike_L3_s (m : List (List Int)) (k5_1 : Nat) (k9_3 : Nat) (mf3 : Nat) : F_spec_IsLineLike_L3 m k5_1 (mf3 + 1) k9_3 = (bif decide ((k9_3 : Int) < (m.length : Int)) then ((F_spec_IsLineLike_L4 m k5_1 k9_3 ((m.length - 0) + 1) 0).elim (fun _ => F_spec_IsLineLike_L3 m k5_1 mf3 (k9_3 + 1)) (fun r => .ret r)) else (.next k9_3)) := rfl
def F_spec_IsLineLike (m : List (List Int)) : Bool × Bool := (bif !(F_spec_l6Good m) then (false, false) else ((F_spec_IsLineLike_L1 m ((m.length - 0) + 1) (0, 0, 0)).elim (fun (k5_1, _, _) => ((F_spec_IsLineLike_L3 m k5_1 ((m.length - 0) + 1) 0).elim (fun _ => (true, true)) (fun r => r))) (fun r => r)))

def F_laws_FnExactIsLineLike (m : List (List Int)) : Bool := (bif decide ((F_laws_szMetric m 1048576) < 0) then true else (bif ((((F_impl_IsLineLike (F_laws_toMetric m)).1) != ((F_spec_IsLineLike (F_laws_toMetric m)).1)) || (((F_impl_IsLineLike (F_laws_toMetric m)).2) != ((F_spec_IsLineLike (F_laws_toMetric m)).2))) then false else (bif !(F_laws_eqMetric (F_laws_toMetric m) (F_laws_toMetric m)) then false else true)))


end Go.Proofs.Ytcfjjnajeccbhaa
