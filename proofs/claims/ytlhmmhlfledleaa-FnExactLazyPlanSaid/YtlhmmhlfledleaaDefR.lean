/-
  What functions of the program compute, as plain functions. No condition.
-/
import Derived.Test.YtlhmmhlfledleaaDefP
namespace Go.Proofs.Ytlhmmhlfledleaa
open Go Go.RowKit

def F_impl_goneBy_1 (item : Int) (after : List Int) : Bool := (F_slices_Contains_Sint_int after item)

def F_impl_goneBy (before : List Int) (after : List Int) : List Int := (F_impl_rising (F_slices_DeleteFunc_Sint_int before (fun item => F_impl_goneBy_1 item after)))

def F_impl_LazyPlan_1 (ix : Int) (cache : List Int) (caches : List (List Int)) : Int := ((F_impl_goneBy cache (caches.getD ((ix).toNat) [])).getD 0 0)

def F_impl_LazyPlan (k : Int) (n : Int) (reqs : List Int) (plan : List Int) : List Int × Bool := (bif !((F_impl_PlanCaches k n reqs plan).2) then ([], false) else ((F_impl_planBy k reqs (fun ix cache => F_impl_LazyPlan_1 ix cache ((F_impl_PlanCaches k n reqs plan).1))), true))

def F_spec_l5Lazy_L2 (caches : List (List Int)) (now1 : List Int) (i1 : Nat) : Nat → Nat → Ctl (Nat) (List Int)
  | 0, s => .next s
  | mf2 + 1, j2 => (bif (F_spec_l1Has (caches.getD i1 []) (now1.getD j2 0)) then F_spec_l5Lazy_L2 caches now1 i1 mf2 (j2 + 1) else (.next j2))
theorem F_spec_l5Lazy_L2_s (caches : List (List Int)) (now1 : List Int) (i1 : Nat) (j2 : Nat) (mf2 : Nat) : F_spec_l5Lazy_L2 caches now1 i1 (mf2 + 1) j2 = (bif (F_spec_l1Has (caches.getD i1 []) (now1.getD j2 0)) then F_spec_l5Lazy_L2 caches now1 i1 mf2 (j2 + 1) else (.next j2)) := rfl
def F_spec_l5Lazy_L1 (k : Int) (reqs : List Int) (caches : List (List Int)) : Nat → List Int × List Int × Nat → Ctl (List Int × List Int × Nat) (List Int)
  | 0, s => .next s
  | mf1 + 1, (plan1, now1, i1) => (bif decide ((i1 : Int) < (reqs.length : Int)) then (bif ((!(F_spec_l1Has now1 (reqs.getD i1 0))) && (decide ((now1.length : Int) = k))) then ((F_spec_l5Lazy_L2 caches now1 i1 ((now1.length - 0) + 1) 0).elim (fun j2 => F_spec_l5Lazy_L1 k reqs caches mf1 ((plan1 ++ ([(now1.getD j2 0)])), (F_spec_l1Put (F_spec_l5Out now1 (now1.getD j2 0)) (reqs.getD i1 0)), (i1 + 1))) (fun r => .ret r)) else F_spec_l5Lazy_L1 k reqs caches mf1 ((plan1 ++ ([-1])), (F_spec_l1Put now1 (reqs.getD i1 0)), (i1 + 1))) else (.next (plan1, now1, i1)))
theorem F_spec_l5Lazy_L1_s (k : Int) (reqs : List Int) (caches : List (List Int)) (plan1 : List Int) (now1 : List Int) (i1 : Nat) (mf1 : Nat) : F_spec_l5Lazy_L1 k reqs caches (mf1 + 1) (plan1, now1, i1) = (bif decide ((i1 : Int) < (reqs.length : Int)) then (bif ((!(F_spec_l1Has now1 (reqs.getD i1 0))) && (decide ((now1.length : Int) = k))) then ((F_spec_l5Lazy_L2 caches now1 i1 ((now1.length - 0) + 1) 0).elim (fun j2 => F_spec_l5Lazy_L1 k reqs caches mf1 ((plan1 ++ ([(now1.getD j2 0)])), (F_spec_l1Put (F_spec_l5Out now1 (now1.getD j2 0)) (reqs.getD i1 0)), (i1 + 1))) (fun r => .ret r)) else F_spec_l5Lazy_L1 k reqs caches mf1 ((plan1 ++ ([-1])), (F_spec_l1Put now1 (reqs.getD i1 0)), (i1 + 1))) else (.next (plan1, now1, i1))) := rfl
def F_spec_l5Lazy (k : Int) (reqs : List Int) (caches : List (List Int)) : List Int := ((F_spec_l5Lazy_L1 k reqs caches ((reqs.length - 0) + 1) (([] : List Int), ([] : List Int), 0)).elim (fun (plan1, _, _) => plan1) (fun r => r))

def F_spec_LazyPlan (k : Int) (n : Int) (reqs : List Int) (plan : List Int) : List Int × Bool := (bif ((!(F_spec_l5Takes k n reqs)) || (!(F_spec_l5Plan n reqs plan))) then (([] : List Int), false) else (bif !((F_spec_l5Run k reqs plan).2.2) then (([] : List Int), false) else ((F_spec_l5Lazy k reqs ((F_spec_l5Run k reqs plan).1)), true)))

def F_laws_FnExactLazyPlan (k : Int) (n : Int) (reqs : List Int) (plan : List Int) : Bool := (bif decide (1048576 < (reqs.length : Int)) then true else (bif decide (1048576 < (plan.length : Int)) then true else (bif ((!(F_laws_eqIntS ((F_impl_LazyPlan k n (F_laws_toIntS reqs) (F_laws_toIntS plan)).1) ((F_spec_LazyPlan k n (F_laws_toIntS reqs) (F_laws_toIntS plan)).1))) || (((F_impl_LazyPlan k n (F_laws_toIntS reqs) (F_laws_toIntS plan)).2) != ((F_spec_LazyPlan k n (F_laws_toIntS reqs) (F_laws_toIntS plan)).2))) then false else (bif !(F_laws_eqIntS (F_laws_toIntS reqs) (F_laws_toIntS reqs)) then false else (bif !(F_laws_eqIntS (F_laws_toIntS plan) (F_laws_toIntS plan)) then false else (bif (((decide ((F_laws_markIntS (F_laws_toIntS plan) ((F_laws_markIntS (F_laws_toIntS reqs) 1).1)).1 < 0)) || (!(F_laws_eqIntS ((F_impl_LazyPlan k n (F_laws_toIntS reqs) (F_laws_toIntS plan)).1) ((F_spec_LazyPlan k n (F_laws_toIntS reqs) (F_laws_toIntS plan)).1)))) || (((F_impl_LazyPlan k n (F_laws_toIntS reqs) (F_laws_toIntS plan)).2) != ((F_spec_LazyPlan k n (F_laws_toIntS reqs) (F_laws_toIntS plan)).2))) then false else (bif decide ((F_laws_heldIntS ((F_laws_markIntS ((F_impl_LazyPlan k n (F_laws_toIntS reqs) (F_laws_toIntS plan)).1) 1).2) 1) < 0) then false else (bif !decide ((F_laws_heldIntS ((F_laws_markIntS ((F_impl_LazyPlan k n (F_laws_toIntS reqs) (F_laws_toIntS plan)).1) 1).2) 1) = (F_laws_markIntS ((F_impl_LazyPlan k n (F_laws_toIntS reqs) (F_laws_toIntS plan)).1) 1).1) then false else true))))))))


end Go.Proofs.Ytlhmmhlfledleaa
