/-
  What functions of the program compute, as plain functions. No condition.
-/
import Derived.Test.YtlhmmhlfledleaaDefP
import Derived.Test.YtlhmmhlfledleaaBit
namespace Go.Proofs.Ytlhmmhlfledleaa
open Go Go.RowKit

def F_impl_fewestFaults (k : Int) (reqs : List Int) : Int := (F_impl_played k reqs (F_impl_farthestPlan k reqs)).2.1

def F_impl_FewestFaults (k : Int) (n : Int) (reqs : List Int) : Int × Bool := (bif !(F_impl_isPaging k n reqs) then (0, false) else ((F_impl_fewestFaults k reqs), true))

def F_impl_OptimalCurve_L1 (reqs : List Int) : Nat → List Int × Nat → Ctl (List Int × Nat) (List Int × Bool)
  | 0, s => .next s
  | mf1 + 1, (out1, k1) => (bif decide ((k1 : Int) ≤ 6) then F_impl_OptimalCurve_L1 reqs mf1 ((out1 ++ ([(F_impl_fewestFaults (k1 : Int) reqs)])), (k1 + 1)) else (.next (out1, k1)))
theorem F_impl_OptimalCurve_L1_s (reqs : List Int) (out1 : List Int) (k1 : Nat) (mf1 : Nat) : F_impl_OptimalCurve_L1 reqs (mf1 + 1) (out1, k1) = (bif decide ((k1 : Int) ≤ 6) then F_impl_OptimalCurve_L1 reqs mf1 ((out1 ++ ([(F_impl_fewestFaults (k1 : Int) reqs)])), (k1 + 1)) else (.next (out1, k1))) := rfl
def F_impl_OptimalCurve (n : Int) (reqs : List Int) : List Int × Bool := (bif !(F_impl_IsRequests n reqs) then ([], false) else ((F_impl_OptimalCurve_L1 reqs ((7 - 1) + 1) (([] : List Int), 1)).elim (fun (out1, _) => (out1, true)) (fun r => r)))

def F_spec_l5In (st : Int) (page : Int) : Bool := decide ((st / (pw page)) % 2 = 1)

def F_spec_l5After (st : Int) (page : Int) (ot : Int) : Int := (bif decide (0 ≤ ot) then orI (st - (pw ot)) (pw page) else orI st (pw page))

def F_spec_l5Size_L1  : Nat → Int × Int → Ctl (Int × Int) (Int)
  | 0, s => .next s
  | mf1 + 1, (set1, size1) => (bif decide (0 < set1) then F_spec_l5Size_L1 mf1 ((set1 / 2), (size1 + (set1 % 2))) else (.next (set1, size1)))
theorem F_spec_l5Size_L1_s (set1 : Int) (size1 : Int) (mf1 : Nat) : F_spec_l5Size_L1  (mf1 + 1) (set1, size1) = (bif decide (0 < set1) then F_spec_l5Size_L1 mf1 ((set1 / 2), (size1 + (set1 % 2))) else (.next (set1, size1))) := rfl
def F_spec_l5Size (st : Int) : Int := ((F_spec_l5Size_L1  ((st.toNat) + 1) (st, 0)).elim (fun (_, size1) => size1) (fun r => r))

def F_spec_l5Choices_L1 (n : Int) (st : Int) : Nat → List Int × Nat → Ctl (List Int × Nat) (List Int)
  | 0, s => .next s
  | mf1 + 1, (out1, x1) => (bif decide ((x1 : Int) < n) then (bif (F_spec_l5In st (x1 : Int)) then F_spec_l5Choices_L1 n st mf1 ((out1 ++ ([(x1 : Int)])), (x1 + 1)) else F_spec_l5Choices_L1 n st mf1 (out1, (x1 + 1))) else (.next (out1, x1)))
theorem F_spec_l5Choices_L1_s (n : Int) (st : Int) (out1 : List Int) (x1 : Nat) (mf1 : Nat) : F_spec_l5Choices_L1 n st (mf1 + 1) (out1, x1) = (bif decide ((x1 : Int) < n) then (bif (F_spec_l5In st (x1 : Int)) then F_spec_l5Choices_L1 n st mf1 ((out1 ++ ([(x1 : Int)])), (x1 + 1)) else F_spec_l5Choices_L1 n st mf1 (out1, (x1 + 1))) else (.next (out1, x1))) := rfl
def F_spec_l5Choices (k : Int) (n : Int) (st : Int) (page : Int) : List Int := (bif (F_spec_l5In st page) then [-1] else ((((bif decide ((F_spec_l5Size st) < k) then (Ctl.next (([] : List Int) ++ ([-1]))) else (Ctl.next ([] : List Int))) : Ctl (List Int) (List Int))).elim (fun outj4 => ((F_spec_l5Choices_L1 n st ((((n).toNat) - 0) + 1) (outj4, 0)).elim (fun (out1, _) => out1) (fun r => r))) (fun r => r)))

def F_spec_l5Fewest_L3 (k : Int) (n : Int) (reqs : List Int) (k8_1 : Int) (k9_2 : Nat) (m0_2 : List (List Int)) : Nat → Int × Nat → Ctl (Int × Nat) (List (List Int))
  | 0, s => .next s
  | mf3 + 1, (k10_3, k12_3) => (bif ((decide ((k12_3 : Int) < ((F_spec_l5Choices k n (k9_2 : Int) (reqs.getD ((k8_1).toNat) 0)).length : Int))) && (decide ((F_spec_l5Size (k9_2 : Int)) ≤ k))) then (bif !(F_spec_l5In (k9_2 : Int) (reqs.getD ((k8_1).toNat) 0)) then (bif ((decide (k10_3 < 0)) || (decide (((m0_2.getD ((k8_1 + 1).toNat) []).getD (((F_spec_l5After (k9_2 : Int) (reqs.getD ((k8_1).toNat) 0) ((F_spec_l5Choices k n (k9_2 : Int) (reqs.getD ((k8_1).toNat) 0)).getD k12_3 0))).toNat) 0) + 1 < k10_3))) then F_spec_l5Fewest_L3 k n reqs k8_1 k9_2 m0_2 mf3 ((((m0_2.getD ((k8_1 + 1).toNat) []).getD (((F_spec_l5After (k9_2 : Int) (reqs.getD ((k8_1).toNat) 0) ((F_spec_l5Choices k n (k9_2 : Int) (reqs.getD ((k8_1).toNat) 0)).getD k12_3 0))).toNat) 0) + 1), (k12_3 + 1)) else F_spec_l5Fewest_L3 k n reqs k8_1 k9_2 m0_2 mf3 (k10_3, (k12_3 + 1))) else (bif ((decide (k10_3 < 0)) || (decide (((m0_2.getD ((k8_1 + 1).toNat) []).getD (((F_spec_l5After (k9_2 : Int) (reqs.getD ((k8_1).toNat) 0) ((F_spec_l5Choices k n (k9_2 : Int) (reqs.getD ((k8_1).toNat) 0)).getD k12_3 0))).toNat) 0) < k10_3))) then F_spec_l5Fewest_L3 k n reqs k8_1 k9_2 m0_2 mf3 (((m0_2.getD ((k8_1 + 1).toNat) []).getD (((F_spec_l5After (k9_2 : Int) (reqs.getD ((k8_1).toNat) 0) ((F_spec_l5Choices k n (k9_2 : Int) (reqs.getD ((k8_1).toNat) 0)).getD k12_3 0))).toNat) 0), (k12_3 + 1)) else F_spec_l5Fewest_L3 k n reqs k8_1 k9_2 m0_2 mf3 (k10_3, (k12_3 + 1)))) else (.next (k10_3, k12_3)))
theorem F_spec_l5Fewest_L3_s (k : Int) (n : Int) (reqs : List Int) (k8_1 : Int) (k9_2 : Nat) (m0_2 : List (List Int)) (k10_3 : Int) (k12_3 : Nat) (mf3 : Nat) : F_spec_l5Fewest_L3 k n reqs k8_1 k9_2 m0_2 (mf3 + 1) (k10_3, k12_3) = (bif ((decide ((k12_3 : Int) < ((F_spec_l5Choices k n (k9_2 : Int) (reqs.getD ((k8_1).toNat) 0)).length : Int))) && (decide ((F_spec_l5Size (k9_2 : Int)) ≤ k))) then (bif !(F_spec_l5In (k9_2 : Int) (reqs.getD ((k8_1).toNat) 0)) then (bif ((decide (k10_3 < 0)) || (decide (((m0_2.getD ((k8_1 + 1).toNat) []).getD (((F_spec_l5After (k9_2 : Int) (reqs.getD ((k8_1).toNat) 0) ((F_spec_l5Choices k n (k9_2 : Int) (reqs.getD ((k8_1).toNat) 0)).getD k12_3 0))).toNat) 0) + 1 < k10_3))) then F_spec_l5Fewest_L3 k n reqs k8_1 k9_2 m0_2 mf3 ((((m0_2.getD ((k8_1 + 1).toNat) []).getD (((F_spec_l5After (k9_2 : Int) (reqs.getD ((k8_1).toNat) 0) ((F_spec_l5Choices k n (k9_2 : Int) (reqs.getD ((k8_1).toNat) 0)).getD k12_3 0))).toNat) 0) + 1), (k12_3 + 1)) else F_spec_l5Fewest_L3 k n reqs k8_1 k9_2 m0_2 mf3 (k10_3, (k12_3 + 1))) else (bif ((decide (k10_3 < 0)) || (decide (((m0_2.getD ((k8_1 + 1).toNat) []).getD (((F_spec_l5After (k9_2 : Int) (reqs.getD ((k8_1).toNat) 0) ((F_spec_l5Choices k n (k9_2 : Int) (reqs.getD ((k8_1).toNat) 0)).getD k12_3 0))).toNat) 0) < k10_3))) then F_spec_l5Fewest_L3 k n reqs k8_1 k9_2 m0_2 mf3 (((m0_2.getD ((k8_1 + 1).toNat) []).getD (((F_spec_l5After (k9_2 : Int) (reqs.getD ((k8_1).toNat) 0) ((F_spec_l5Choices k n (k9_2 : Int) (reqs.getD ((k8_1).toNat) 0)).getD k12_3 0))).toNat) 0), (k12_3 + 1)) else F_spec_l5Fewest_L3 k n reqs k8_1 k9_2 m0_2 mf3 (k10_3, (k12_3 + 1)))) else (.next (k10_3, k12_3))) := rfl
def F_spec_l5Fewest_L2 (k : Int) (n : Int) (reqs : List Int) (k8_1 : Int) : Nat → Nat × List (List Int) → Ctl (Nat × List (List Int)) (List (List Int))
  | 0, s => .next s
  | mf2 + 1, (k9_2, m0_2) => (bif decide ((k9_2 : Int) < pw n) then ((F_spec_l5Fewest_L3 k n reqs k8_1 k9_2 m0_2 (((F_spec_l5Choices k n (k9_2 : Int) (reqs.getD ((k8_1).toNat) 0)).length - 0) + 1) ((-1), 0)).elim (fun (k10_3, _) => F_spec_l5Fewest_L2 k n reqs k8_1 mf2 ((k9_2 + 1), (m0_2.set ((k8_1).toNat) ((m0_2.getD ((k8_1).toNat) []) ++ ([k10_3]))))) (fun r => .ret r)) else (.next (k9_2, m0_2)))
theorem F_spec_l5Fewest_L2_s (k : Int) (n : Int) (reqs : List Int) (k8_1 : Int) (k9_2 : Nat) (m0_2 : List (List Int)) (mf2 : Nat) : F_spec_l5Fewest_L2 k n reqs k8_1 (mf2 + 1) (k9_2, m0_2) = (bif decide ((k9_2 : Int) < pw n) then ((F_spec_l5Fewest_L3 k n reqs k8_1 k9_2 m0_2 (((F_spec_l5Choices k n (k9_2 : Int) (reqs.getD ((k8_1).toNat) 0)).length - 0) + 1) ((-1), 0)).elim (fun (k10_3, _) => F_spec_l5Fewest_L2 k n reqs k8_1 mf2 ((k9_2 + 1), (m0_2.set ((k8_1).toNat) ((m0_2.getD ((k8_1).toNat) []) ++ ([k10_3]))))) (fun r => .ret r)) else (.next (k9_2, m0_2))) := rfl
def F_spec_l5Fewest_L1 (k : Int) (n : Int) (reqs : List Int) : Nat → Int × List (List Int) → Ctl (Int × List (List Int)) (List (List Int))
  | 0, s => .next s
  | mf1 + 1, (k8_1, m0_1) => (bif decide (0 ≤ k8_1) then ((F_spec_l5Fewest_L2 k n reqs k8_1 (((pw n).toNat - 0) + 1) (0, m0_1)).elim (fun (_, m0_2) => F_spec_l5Fewest_L1 k n reqs mf1 ((k8_1 - 1), m0_2)) (fun r => .ret r)) else (.next (k8_1, m0_1)))
theorem F_spec_l5Fewest_L1_s (k : Int) (n : Int) (reqs : List Int) (k8_1 : Int) (m0_1 : List (List Int)) (mf1 : Nat) : F_spec_l5Fewest_L1 k n reqs (mf1 + 1) (k8_1, m0_1) = (bif decide (0 ≤ k8_1) then ((F_spec_l5Fewest_L2 k n reqs k8_1 (((pw n).toNat - 0) + 1) (0, m0_1)).elim (fun (_, m0_2) => F_spec_l5Fewest_L1 k n reqs mf1 ((k8_1 - 1), m0_2)) (fun r => .ret r)) else (.next (k8_1, m0_1))) := rfl
def F_spec_l5Fewest (k : Int) (n : Int) (reqs : List Int) : List (List Int) := ((F_spec_l5Fewest_L1 k n reqs (((((reqs.length : Int) - 1) + 1).toNat) + 1) (((reqs.length : Int) - 1), ((List.replicate (reqs.length + 1) ([] : List Int)).set reqs.length (List.replicate ((pw n).toNat) (0 : Int))))).elim (fun (_, m0_1) => m0_1) (fun r => r))

def F_spec_l5Opt (k : Int) (n : Int) (reqs : List Int) : Int := (((F_spec_l5Fewest k n reqs).getD 0 []).getD 0 0)

def F_spec_FewestFaults (k : Int) (n : Int) (reqs : List Int) : Int × Bool := (bif !(F_spec_l5Takes k n reqs) then (0, false) else ((F_spec_l5Opt k n reqs), true))

def F_spec_OptimalCurve_L1 (n : Int) (reqs : List Int) : Nat → List Int × Nat → Ctl (List Int × Nat) (List Int × Bool)
  | 0, s => .next s
  | mf1 + 1, (out1, k1) => (bif decide ((k1 : Int) ≤ 6) then F_spec_OptimalCurve_L1 n reqs mf1 ((out1 ++ ([(F_spec_l5Opt (k1 : Int) n reqs)])), (k1 + 1)) else (.next (out1, k1)))
theorem F_spec_OptimalCurve_L1_s (n : Int) (reqs : List Int) (out1 : List Int) (k1 : Nat) (mf1 : Nat) : F_spec_OptimalCurve_L1 n reqs (mf1 + 1) (out1, k1) = (bif decide ((k1 : Int) ≤ 6) then F_spec_OptimalCurve_L1 n reqs mf1 ((out1 ++ ([(F_spec_l5Opt (k1 : Int) n reqs)])), (k1 + 1)) else (.next (out1, k1))) := rfl
def F_spec_OptimalCurve (n : Int) (reqs : List Int) : List Int × Bool := (bif !(F_spec_l3Good n reqs) then (([] : List Int), false) else ((F_spec_OptimalCurve_L1 n reqs ((7 - 1) + 1) (([] : List Int), 1)).elim (fun (out1, _) => (out1, true)) (fun r => r)))

def F_laws_FnExactFewestFaults (k : Int) (n : Int) (reqs : List Int) : Bool := (bif decide (1048576 < (reqs.length : Int)) then true else (bif ((!decide ((F_impl_FewestFaults k n (F_laws_toIntS reqs)).1 = (F_spec_FewestFaults k n (F_laws_toIntS reqs)).1)) || (((F_impl_FewestFaults k n (F_laws_toIntS reqs)).2) != ((F_spec_FewestFaults k n (F_laws_toIntS reqs)).2))) then false else (bif !(F_laws_eqIntS (F_laws_toIntS reqs) (F_laws_toIntS reqs)) then false else true)))

def F_laws_FnExactOptimalCurve (n : Int) (reqs : List Int) : Bool := (bif decide (1048576 < (reqs.length : Int)) then true else (bif ((!(F_laws_eqIntS ((F_impl_OptimalCurve n (F_laws_toIntS reqs)).1) ((F_spec_OptimalCurve n (F_laws_toIntS reqs)).1))) || (((F_impl_OptimalCurve n (F_laws_toIntS reqs)).2) != ((F_spec_OptimalCurve n (F_laws_toIntS reqs)).2))) then false else (bif !(F_laws_eqIntS (F_laws_toIntS reqs) (F_laws_toIntS reqs)) then false else (bif (((decide ((F_laws_markIntS (F_laws_toIntS reqs) 1).1 < 0)) || (!(F_laws_eqIntS ((F_impl_OptimalCurve n (F_laws_toIntS reqs)).1) ((F_spec_OptimalCurve n (F_laws_toIntS reqs)).1)))) || (((F_impl_OptimalCurve n (F_laws_toIntS reqs)).2) != ((F_spec_OptimalCurve n (F_laws_toIntS reqs)).2))) then false else (bif decide ((F_laws_heldIntS ((F_laws_markIntS ((F_impl_OptimalCurve n (F_laws_toIntS reqs)).1) 1).2) 1) < 0) then false else (bif !decide ((F_laws_heldIntS ((F_laws_markIntS ((F_impl_OptimalCurve n (F_laws_toIntS reqs)).1) 1).2) 1) = (F_laws_markIntS ((F_impl_OptimalCurve n (F_laws_toIntS reqs)).1) 1).1) then false else true))))))


end Go.Proofs.Ytlhmmhlfledleaa
