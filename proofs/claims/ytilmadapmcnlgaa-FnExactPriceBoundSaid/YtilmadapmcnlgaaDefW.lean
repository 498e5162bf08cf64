/-
  What functions of the program compute, as plain functions. No condition.
-/
import Derived.Test.YtilmadapmcnlgaaDefH
namespace Go.Proofs.Ytilmadapmcnlgaa
open Go Go.RowKit

def F_cmp_Compare_int (x : Int) (y : Int) : Int := (bif !decide (x = x) then (bif !decide (y = y) then 0 else -1) else (bif !decide (y = y) then 1 else (bif decide (x < y) then -1 else (bif decide (y < x) then 1 else 0))))

def F_slices_Compare_Sint_int_L1 (s1 : List Int) (s2 : List Int) : Nat → Nat → Ctl (Nat) (Int)
  | 0, s => .next s
  | mf1 + 1, k11_1 => (bif decide ((k11_1 : Int) < (s1.length : Int)) then (bif decide ((s2.length : Int) ≤ (k11_1 : Int)) then (.ret 1) else (bif !decide ((F_cmp_Compare_int (s1.getD k11_1 0) (s2.getD k11_1 0)) = 0) then (.ret (F_cmp_Compare_int (s1.getD k11_1 0) (s2.getD k11_1 0))) else F_slices_Compare_Sint_int_L1 s1 s2 mf1 (k11_1 + 1))) else (.next k11_1))
theorem F_slices_Compare_Sint_int_L1_s (s1 : List Int) (s2 : List Int) (k11_1 : Nat) (mf1 : Nat) : F_slices_Compare_Sint_int_L1 s1 s2 (mf1 + 1) k11_1 = (bif decide ((k11_1 : Int) < (s1.length : Int)) then (bif decide ((s2.length : Int) ≤ (k11_1 : Int)) then (.ret 1) else (bif !decide ((F_cmp_Compare_int (s1.getD k11_1 0) (s2.getD k11_1 0)) = 0) then (.ret (F_cmp_Compare_int (s1.getD k11_1 0) (s2.getD k11_1 0))) else F_slices_Compare_Sint_int_L1 s1 s2 mf1 (k11_1 + 1))) else (.next k11_1)) := rfl
def F_slices_Compare_Sint_int (s1 : List Int) (s2 : List Int) : Int := ((F_slices_Compare_Sint_int_L1 s1 s2 ((s1.length - 0) + 1) 0).elim (fun _ => (bif decide ((s1.length : Int) < (s2.length : Int)) then -1 else 0)) (fun r => r))

def F_impl_works_index_1 (b : List Int) (c : List Int) : Int := (F_slices_Compare_Sint_int b c)

def F_slices_BinarySearchFunc_SSint_Sint_Sint_L1 (x : List (List Int)) (tgt : List Int) (f : List Int → List Int → Int) : Nat → Nat × Nat → Ctl (Nat × Nat) (Int × Bool)
  | 0, s => .next s
  | mf1 + 1, (i1, j1) => (bif decide ((i1 : Int) < (j1 : Int)) then (bif decide ((f (x.getD ((i1 + j1) / 2) []) tgt) < 0) then F_slices_BinarySearchFunc_SSint_Sint_Sint_L1 x tgt f mf1 ((((i1 + j1) / 2) + 1), j1) else F_slices_BinarySearchFunc_SSint_Sint_Sint_L1 x tgt f mf1 (i1, ((i1 + j1) / 2))) else (.next (i1, j1)))
theorem F_slices_BinarySearchFunc_SSint_Sint_Sint_L1_s (x : List (List Int)) (tgt : List Int) (f : List Int → List Int → Int) (i1 : Nat) (j1 : Nat) (mf1 : Nat) : F_slices_BinarySearchFunc_SSint_Sint_Sint_L1 x tgt f (mf1 + 1) (i1, j1) = (bif decide ((i1 : Int) < (j1 : Int)) then (bif decide ((f (x.getD ((i1 + j1) / 2) []) tgt) < 0) then F_slices_BinarySearchFunc_SSint_Sint_Sint_L1 x tgt f mf1 ((((i1 + j1) / 2) + 1), j1) else F_slices_BinarySearchFunc_SSint_Sint_Sint_L1 x tgt f mf1 (i1, ((i1 + j1) / 2))) else (.next (i1, j1))) := rfl
def F_slices_BinarySearchFunc_SSint_Sint_Sint (x : List (List Int)) (tgt : List Int) (f : List Int → List Int → Int) : Int × Bool := ((F_slices_BinarySearchFunc_SSint_Sint_Sint_L1 x tgt f ((x.length - 0) + 1) (0, x.length)).elim (fun (i1, _) => ((i1 : Int), ((decide ((i1 : Int) < (x.length : Int))) && (decide ((f (x.getD i1 []) tgt) = 0))))) (fun r => r))

def F_impl_worksOf_L2 (m : List (List Int)) (k : Int) (k24_1 : Nat) : Nat → List Int × Nat → Ctl (List Int × Nat) (List (List Int) × List (List Int))
  | 0, s => .next s
  | mf2 + 1, (row2, k34_2) => (bif decide ((k34_2 : Int) < ((F_impl_configsOf (m.length : Int) k 0).length : Int)) then F_impl_worksOf_L2 m k k24_1 mf2 ((row2 ++ ([(F_impl_Metric_moveCost m ((F_impl_configsOf (m.length : Int) k 0).getD k24_1 []) ((F_impl_configsOf (m.length : Int) k 0).getD k34_2 []))])), (k34_2 + 1)) else (.next (row2, k34_2)))
theorem F_impl_worksOf_L2_s (m : List (List Int)) (k : Int) (k24_1 : Nat) (row2 : List Int) (k34_2 : Nat) (mf2 : Nat) : F_impl_worksOf_L2 m k k24_1 (mf2 + 1) (row2, k34_2) = (bif decide ((k34_2 : Int) < ((F_impl_configsOf (m.length : Int) k 0).length : Int)) then F_impl_worksOf_L2 m k k24_1 mf2 ((row2 ++ ([(F_impl_Metric_moveCost m ((F_impl_configsOf (m.length : Int) k 0).getD k24_1 []) ((F_impl_configsOf (m.length : Int) k 0).getD k34_2 []))])), (k34_2 + 1)) else (.next (row2, k34_2))) := rfl
def F_impl_worksOf_L1 (m : List (List Int)) (k : Int) : Nat → Nat × List (List Int) → Ctl (Nat × List (List Int)) (List (List Int) × List (List Int))
  | 0, s => .next s
  | mf1 + 1, (k24_1, zg1_7_2_1) => (bif decide ((k24_1 : Int) < ((F_impl_configsOf (m.length : Int) k 0).length : Int)) then ((F_impl_worksOf_L2 m k k24_1 ((((F_impl_configsOf (m.length : Int) k 0).length) - 0) + 1) (([] : List Int), 0)).elim (fun (row2, _) => F_impl_worksOf_L1 m k mf1 ((k24_1 + 1), (zg1_7_2_1 ++ [row2]))) (fun r => .ret r)) else (.next (k24_1, zg1_7_2_1)))
theorem F_impl_worksOf_L1_s (m : List (List Int)) (k : Int) (k24_1 : Nat) (zg1_7_2_1 : List (List Int)) (mf1 : Nat) : F_impl_worksOf_L1 m k (mf1 + 1) (k24_1, zg1_7_2_1) = (bif decide ((k24_1 : Int) < ((F_impl_configsOf (m.length : Int) k 0).length : Int)) then ((F_impl_worksOf_L2 m k k24_1 ((((F_impl_configsOf (m.length : Int) k 0).length) - 0) + 1) (([] : List Int), 0)).elim (fun (row2, _) => F_impl_worksOf_L1 m k mf1 ((k24_1 + 1), (zg1_7_2_1 ++ [row2]))) (fun r => .ret r)) else (.next (k24_1, zg1_7_2_1))) := rfl
def F_impl_worksOf (m : List (List Int)) (k : Int) : List (List Int) × List (List Int) := ((F_impl_worksOf_L1 m k ((((F_impl_configsOf (m.length : Int) k 0).length) - 0) + 1) (0, ([]))).elim (fun (_, zg1_7_2_1) => ((F_impl_configsOf (m.length : Int) k 0), zg1_7_2_1)) (fun r => r))

def F_impl_works_index (xc1 : List (List Int)) (xc2 : List (List Int)) (a : List Int) : Int := (F_slices_BinarySearchFunc_SSint_Sint_Sint xc1 a (fun b c => F_impl_works_index_1 b c )).1

def F_impl_works_isWork_L2 (xc2 : List (List Int)) (wk : List Int) (k24_1 : Nat) : Nat → Nat → Ctl (Nat) (Bool)
  | 0, s => .next s
  | mf2 + 1, k31_2 => (bif decide ((k31_2 : Int) < (wk.length : Int)) then (bif decide (((xc2.getD k24_1 []).getD k31_2 0) < (wk.getD k24_1 0) - (wk.getD k31_2 0)) then (.ret false) else F_impl_works_isWork_L2 xc2 wk k24_1 mf2 (k31_2 + 1)) else (.next k31_2))
theorem F_impl_works_isWork_L2_s (xc2 : List (List Int)) (wk : List Int) (k24_1 : Nat) (k31_2 : Nat) (mf2 : Nat) : F_impl_works_isWork_L2 xc2 wk k24_1 (mf2 + 1) k31_2 = (bif decide ((k31_2 : Int) < (wk.length : Int)) then (bif decide (((xc2.getD k24_1 []).getD k31_2 0) < (wk.getD k24_1 0) - (wk.getD k31_2 0)) then (.ret false) else F_impl_works_isWork_L2 xc2 wk k24_1 mf2 (k31_2 + 1)) else (.next k31_2)) := rfl
def F_impl_works_isWork_L1 (xc2 : List (List Int)) (wk : List Int) : Nat → Nat → Ctl (Nat) (Bool)
  | 0, s => .next s
  | mf1 + 1, k24_1 => (bif decide ((k24_1 : Int) < (wk.length : Int)) then ((F_impl_works_isWork_L2 xc2 wk k24_1 ((wk.length - 0) + 1) 0).elim (fun _ => F_impl_works_isWork_L1 xc2 wk mf1 (k24_1 + 1)) (fun r => .ret r)) else (.next k24_1))
theorem F_impl_works_isWork_L1_s (xc2 : List (List Int)) (wk : List Int) (k24_1 : Nat) (mf1 : Nat) : F_impl_works_isWork_L1 xc2 wk (mf1 + 1) k24_1 = (bif decide ((k24_1 : Int) < (wk.length : Int)) then ((F_impl_works_isWork_L2 xc2 wk k24_1 ((wk.length - 0) + 1) 0).elim (fun _ => F_impl_works_isWork_L1 xc2 wk mf1 (k24_1 + 1)) (fun r => .ret r)) else (.next k24_1)) := rfl
def F_impl_works_isWork (xc1 : List (List Int)) (xc2 : List (List Int)) (wk : List Int) : Bool := (bif ((!decide ((wk.length : Int) = (xc1.length : Int))) || (!(F_impl_areBelow 100000 wk))) then false else ((F_impl_works_isWork_L1 xc2 wk ((wk.length - 0) + 1) 0).elim (fun _ => true) (fun r => r)))

def F_impl_isKs (m : List (List Int)) (k : Int) : Bool := ((F_impl_IsMetric m) && ((decide (1 ≤ k)) && (decide (k ≤ 3))))

def F_impl_worksFor (m : List (List Int)) (k : Int) (wk : List Int) : Bool × List (List Int) × List (List Int) × Bool := (bif !(F_impl_isKs m k) then (false, [], [], false) else (true, (F_impl_worksOf m k).1, (F_impl_worksOf m k).2, (F_impl_works_isWork ((F_impl_worksOf m k).1) ((F_impl_worksOf m k).2) wk)))

def F_impl_IsWork (m : List (List Int)) (k : Int) (wk : List Int) : Bool × Bool := (bif !(F_impl_isKs m k) then (false, false) else ((F_impl_works_isWork ((F_impl_worksOf m k).1) ((F_impl_worksOf m k).2) wk), true))

def F_spec_l7Asked (m : List (List Int)) (k : Int) : Bool := ((F_spec_l6Good m) && ((decide (1 ≤ k)) && (decide (k ≤ 3))))

def F_spec_l7Work_L1 (wk : List Int) : Nat → Nat → Ctl (Nat) (Bool)
  | 0, s => .next s
  | mf1 + 1, k7_1 => (bif decide ((k7_1 : Int) < (wk.length : Int)) then (bif !((decide (0 ≤ (wk.getD k7_1 0))) && (decide ((wk.getD k7_1 0) ≤ 99999))) then (.ret false) else F_spec_l7Work_L1 wk mf1 (k7_1 + 1)) else (.next k7_1))
theorem F_spec_l7Work_L1_s (wk : List Int) (k7_1 : Nat) (mf1 : Nat) : F_spec_l7Work_L1 wk (mf1 + 1) k7_1 = (bif decide ((k7_1 : Int) < (wk.length : Int)) then (bif !((decide (0 ≤ (wk.getD k7_1 0))) && (decide ((wk.getD k7_1 0) ≤ 99999))) then (.ret false) else F_spec_l7Work_L1 wk mf1 (k7_1 + 1)) else (.next k7_1)) := rfl
def F_spec_l7Work_L3 (m : List (List Int)) (configs : List (List Int)) (wk : List Int) (k8_2 : Nat) : Nat → Nat → Ctl (Nat) (Bool)
  | 0, s => .next s
  | mf3 + 1, k9_3 => (bif decide ((k9_3 : Int) < (k8_2 : Int)) then (bif decide ((F_spec_l6Move m (configs.getD k8_2 []) (configs.getD k9_3 [])) < (F_spec_l1Most ((wk.getD k8_2 0) - (wk.getD k9_3 0)) ((wk.getD k9_3 0) - (wk.getD k8_2 0)))) then (.ret false) else F_spec_l7Work_L3 m configs wk k8_2 mf3 (k9_3 + 1)) else (.next k9_3))
theorem F_spec_l7Work_L3_s (m : List (List Int)) (configs : List (List Int)) (wk : List Int) (k8_2 : Nat) (k9_3 : Nat) (mf3 : Nat) : F_spec_l7Work_L3 m configs wk k8_2 (mf3 + 1) k9_3 = (bif decide ((k9_3 : Int) < (k8_2 : Int)) then (bif decide ((F_spec_l6Move m (configs.getD k8_2 []) (configs.getD k9_3 [])) < (F_spec_l1Most ((wk.getD k8_2 0) - (wk.getD k9_3 0)) ((wk.getD k9_3 0) - (wk.getD k8_2 0)))) then (.ret false) else F_spec_l7Work_L3 m configs wk k8_2 mf3 (k9_3 + 1)) else (.next k9_3)) := rfl
def F_spec_l7Work_L2 (m : List (List Int)) (configs : List (List Int)) (wk : List Int) : Nat → Nat → Ctl (Nat) (Bool)
  | 0, s => .next s
  | mf2 + 1, k8_2 => (bif decide ((k8_2 : Int) < (wk.length : Int)) then ((F_spec_l7Work_L3 m configs wk k8_2 ((k8_2 - 0) + 1) 0).elim (fun _ => F_spec_l7Work_L2 m configs wk mf2 (k8_2 + 1)) (fun r => .ret r)) else (.next k8_2))
theorem F_spec_l7Work_L2_s (m : List (List Int)) (configs : List (List Int)) (wk : List Int) (k8_2 : Nat) (mf2 : Nat) : F_spec_l7Work_L2 m configs wk (mf2 + 1) k8_2 = (bif decide ((k8_2 : Int) < (wk.length : Int)) then ((F_spec_l7Work_L3 m configs wk k8_2 ((k8_2 - 0) + 1) 0).elim (fun _ => F_spec_l7Work_L2 m configs wk mf2 (k8_2 + 1)) (fun r => .ret r)) else (.next k8_2)) := rfl
def F_spec_l7Work (m : List (List Int)) (configs : List (List Int)) (wk : List Int) : Bool := (bif !decide ((wk.length : Int) = (configs.length : Int)) then false else ((F_spec_l7Work_L1 wk ((wk.length - 0) + 1) 0).elim (fun _ => ((F_spec_l7Work_L2 m configs wk ((wk.length - 0) + 1) 0).elim (fun _ => true) (fun r => r))) (fun r => r)))

def F_spec_IsWork (m : List (List Int)) (k : Int) (wk : List Int) : Bool × Bool := (bif !(F_spec_l7Asked m k) then (false, false) else ((F_spec_l7Work m (F_spec_l6Configs (m.length : Int) k) wk), true))

def F_laws_FnExactIsWork (m : List (List Int)) (k : Int) (wk : List Int) : Bool := (bif decide (1048576 < (wk.length : Int)) then true else (bif decide ((F_laws_szMetric m 1048576) < 0) then true else (bif ((((F_impl_IsWork (F_laws_toMetric m) k (F_laws_toIntS wk)).1) != ((F_spec_IsWork (F_laws_toMetric m) k (F_laws_toIntS wk)).1)) || (((F_impl_IsWork (F_laws_toMetric m) k (F_laws_toIntS wk)).2) != ((F_spec_IsWork (F_laws_toMetric m) k (F_laws_toIntS wk)).2))) then false else (bif !(F_laws_eqMetric (F_laws_toMetric m) (F_laws_toMetric m)) then false else (bif !(F_laws_eqIntS (F_laws_toIntS wk) (F_laws_toIntS wk)) then false else true)))))


end Go.Proofs.Ytilmadapmcnlgaa
