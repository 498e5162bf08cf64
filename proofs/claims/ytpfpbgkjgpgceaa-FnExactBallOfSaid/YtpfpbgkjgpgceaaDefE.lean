/-
  What functions of the program compute, as plain functions. No condition.
-/
import Derived.Test.YtpfpbgkjgpgceaaDefD
namespace Go.Proofs.Ytpfpbgkjgpgceaa
open Go Go.RowKit

def F_spec_l6Uniform_L2 (n : Int) (d : Int) (x1 : Nat) : Nat → List Int × Nat → Ctl (List Int × Nat) (List (List Int))
  | 0, s => .next s
  | mf2 + 1, (row2, y2) => (bif decide ((y2 : Int) < n) then (bif decide ((x1 : Int) = (y2 : Int)) then F_spec_l6Uniform_L2 n d x1 mf2 ((row2 ++ ([0])), (y2 + 1)) else F_spec_l6Uniform_L2 n d x1 mf2 ((row2 ++ ([d])), (y2 + 1))) else (.next (row2, y2)))
theorem F_spec_l6Uniform_L2_s (n : Int) (d : Int) (x1 : Nat) (row2 : List Int) (y2 : Nat) (mf2 : Nat) : F_spec_l6Uniform_L2 n d x1 (mf2 + 1) (row2, y2) = (bif decide ((y2 : Int) < n) then (bif decide ((x1 : Int) = (y2 : Int)) then F_spec_l6Uniform_L2 n d x1 mf2 ((row2 ++ ([0])), (y2 + 1)) else F_spec_l6Uniform_L2 n d x1 mf2 ((row2 ++ ([d])), (y2 + 1))) else (.next (row2, y2))) := rfl
def F_spec_l6Uniform_L1 (n : Int) (d : Int) : Nat → Nat × List (List Int) → Ctl (Nat × List (List Int)) (List (List Int))
  | 0, s => .next s
  | mf1 + 1, (x1, zg1_2_0_1) => (bif decide ((x1 : Int) < n) then ((F_spec_l6Uniform_L2 n d x1 ((((n).toNat) - 0) + 1) (([] : List Int), 0)).elim (fun (row2, _) => F_spec_l6Uniform_L1 n d mf1 ((x1 + 1), (zg1_2_0_1 ++ [row2]))) (fun r => .ret r)) else (.next (x1, zg1_2_0_1)))
theorem F_spec_l6Uniform_L1_s (n : Int) (d : Int) (x1 : Nat) (zg1_2_0_1 : List (List Int)) (mf1 : Nat) : F_spec_l6Uniform_L1 n d (mf1 + 1) (x1, zg1_2_0_1) = (bif decide ((x1 : Int) < n) then ((F_spec_l6Uniform_L2 n d x1 ((((n).toNat) - 0) + 1) (([] : List Int), 0)).elim (fun (row2, _) => F_spec_l6Uniform_L1 n d mf1 ((x1 + 1), (zg1_2_0_1 ++ [row2]))) (fun r => .ret r)) else (.next (x1, zg1_2_0_1))) := rfl
def F_spec_l6Uniform (n : Int) (d : Int) : List (List Int) := ((F_spec_l6Uniform_L1 n d ((((n).toNat) - 0) + 1) (0, ([]))).elim (fun (_, zg1_2_0_1) => zg1_2_0_1) (fun r => r))

def F_impl_metricOf (dist : List (List Int)) : List (List Int) × Bool := (bif !(F_impl_IsMetric dist) then ([], false) else (dist, true))

def F_impl_metricBy_L2 (n : Int) (dst : Int → Int → Int) (k12_1 : Nat) : Nat → List Int × Nat → Ctl (List Int × Nat) (List (List Int) × Bool)
  | 0, s => .next s
  | mf2 + 1, (row2, k17_2) => (bif decide ((k17_2 : Int) < n) then (bif decide ((k12_1 : Int) = (k17_2 : Int)) then F_impl_metricBy_L2 n dst k12_1 mf2 ((row2 ++ ([0])), (k17_2 + 1)) else F_impl_metricBy_L2 n dst k12_1 mf2 ((row2 ++ ([(dst (k12_1 : Int) (k17_2 : Int))])), (k17_2 + 1))) else (.next (row2, k17_2)))
theorem F_impl_metricBy_L2_s (n : Int) (dst : Int → Int → Int) (k12_1 : Nat) (row2 : List Int) (k17_2 : Nat) (mf2 : Nat) : F_impl_metricBy_L2 n dst k12_1 (mf2 + 1) (row2, k17_2) = (bif decide ((k17_2 : Int) < n) then (bif decide ((k12_1 : Int) = (k17_2 : Int)) then F_impl_metricBy_L2 n dst k12_1 mf2 ((row2 ++ ([0])), (k17_2 + 1)) else F_impl_metricBy_L2 n dst k12_1 mf2 ((row2 ++ ([(dst (k12_1 : Int) (k17_2 : Int))])), (k17_2 + 1))) else (.next (row2, k17_2))) := rfl
def F_impl_metricBy_L1 (n : Int) (dst : Int → Int → Int) : Nat → List (List Int) × Nat → Ctl (List (List Int) × Nat) (List (List Int) × Bool)
  | 0, s => .next s
  | mf1 + 1, (dist1, k12_1) => (bif decide ((k12_1 : Int) < n) then ((F_impl_metricBy_L2 n dst k12_1 ((((n).toNat) - 0) + 1) (([] : List Int), 0)).elim (fun (row2, _) => F_impl_metricBy_L1 n dst mf1 ((dist1 ++ [row2]), (k12_1 + 1))) (fun r => .ret r)) else (.next (dist1, k12_1)))
theorem F_impl_metricBy_L1_s (n : Int) (dst : Int → Int → Int) (dist1 : List (List Int)) (k12_1 : Nat) (mf1 : Nat) : F_impl_metricBy_L1 n dst (mf1 + 1) (dist1, k12_1) = (bif decide ((k12_1 : Int) < n) then ((F_impl_metricBy_L2 n dst k12_1 ((((n).toNat) - 0) + 1) (([] : List Int), 0)).elim (fun (row2, _) => F_impl_metricBy_L1 n dst mf1 ((dist1 ++ [row2]), (k12_1 + 1))) (fun r => .ret r)) else (.next (dist1, k12_1))) := rfl
def F_impl_metricBy (n : Int) (dst : Int → Int → Int) : List (List Int) × Bool := ((F_impl_metricBy_L1 n dst ((((n).toNat) - 0) + 1) (([]), 0)).elim (fun (dist1, _) => ((F_impl_metricOf dist1).1, (F_impl_metricOf dist1).2)) (fun r => r))

def F_impl_UniformMetric_1 (x : Int) (y : Int) (d : Int) : Int := d

def F_impl_StarMetric_1 (x : Int) (y : Int) (arms : List Int) : Int := (arms.getD ((x).toNat) 0) + (arms.getD ((y).toNat) 0)

def F_impl_LineMetric_1 (x : Int) (y : Int) (places : List Int) : Int := max ((places.getD ((x).toNat) 0) - (places.getD ((y).toNat) 0)) (-((places.getD ((x).toNat) 0) - (places.getD ((y).toNat) 0)))

def F_impl_UniformMetric (n : Int) (d : Int) : List (List Int) × Bool := (bif ((!((decide (1 ≤ n)) && (decide (n ≤ 6)))) || (!((decide (1 ≤ d)) && (decide (d ≤ 99))))) then ([], false) else ((F_impl_metricBy n (fun x y => F_impl_UniformMetric_1 x y d)).1, (F_impl_metricBy n (fun x y => F_impl_UniformMetric_1 x y d)).2))

def F_impl_StarMetric (arms : List Int) : List (List Int) × Bool := (bif !(F_impl_areIn arms 6 1 49) then ([], false) else ((F_impl_metricBy (arms.length : Int) (fun x y => F_impl_StarMetric_1 x y arms)).1, (F_impl_metricBy (arms.length : Int) (fun x y => F_impl_StarMetric_1 x y arms)).2))

def F_impl_LineMetric (places : List Int) : List (List Int) × Bool := (bif !(F_impl_areIn places 6 0 99) then ([], false) else ((F_impl_metricBy (places.length : Int) (fun x y => F_impl_LineMetric_1 x y places)).1, (F_impl_metricBy (places.length : Int) (fun x y => F_impl_LineMetric_1 x y places)).2))

def F_spec_UniformMetric (n : Int) (d : Int) : List (List Int) × Bool := (bif ((!((decide (1 ≤ n)) && (decide (n ≤ 6)))) || (!((decide (1 ≤ d)) && (decide (d ≤ 99))))) then ([], false) else ((F_spec_l6Uniform n d), true))

def F_spec_StarMetric_L1 (arms : List Int) : Nat → Nat → Ctl (Nat) (List (List Int) × Bool)
  | 0, s => .next s
  | mf1 + 1, i1 => (bif decide ((i1 : Int) < (arms.length : Int)) then (bif !((decide (1 ≤ (arms.getD i1 0))) && (decide ((arms.getD i1 0) ≤ 49))) then (.ret ([], false)) else F_spec_StarMetric_L1 arms mf1 (i1 + 1)) else (.next i1))
theorem F_spec_StarMetric_L1_s (arms : List Int) (i1 : Nat) (mf1 : Nat) : F_spec_StarMetric_L1 arms (mf1 + 1) i1 = (bif decide ((i1 : Int) < (arms.length : Int)) then (bif !((decide (1 ≤ (arms.getD i1 0))) && (decide ((arms.getD i1 0) ≤ 49))) then (.ret ([], false)) else F_spec_StarMetric_L1 arms mf1 (i1 + 1)) else (.next i1)) := rfl
def F_spec_StarMetric_L3 (arms : List Int) (x2 : Nat) : Nat → Nat × List (List Int) → Ctl (Nat × List (List Int)) (List (List Int) × Bool)
  | 0, s => .next s
  | mf3 + 1, (y3, m0_3) => (bif decide ((y3 : Int) < (arms.length : Int)) then (bif !decide ((x2 : Int) = (y3 : Int)) then F_spec_StarMetric_L3 arms x2 mf3 ((y3 + 1), (m0_3.set x2 ((m0_3.getD x2 []).set y3 ((arms.getD x2 0) + (arms.getD y3 0))))) else F_spec_StarMetric_L3 arms x2 mf3 ((y3 + 1), m0_3)) else (.next (y3, m0_3)))
theorem F_spec_StarMetric_L3_s (arms : List Int) (x2 : Nat) (y3 : Nat) (m0_3 : List (List Int)) (mf3 : Nat) : F_spec_StarMetric_L3 arms x2 (mf3 + 1) (y3, m0_3) = (bif decide ((y3 : Int) < (arms.length : Int)) then (bif !decide ((x2 : Int) = (y3 : Int)) then F_spec_StarMetric_L3 arms x2 mf3 ((y3 + 1), (m0_3.set x2 ((m0_3.getD x2 []).set y3 ((arms.getD x2 0) + (arms.getD y3 0))))) else F_spec_StarMetric_L3 arms x2 mf3 ((y3 + 1), m0_3)) else (.next (y3, m0_3))) := rfl
def F_spec_StarMetric_L2 (arms : List Int) : Nat → Nat × List (List Int) → Ctl (Nat × List (List Int)) (List (List Int) × Bool)
  | 0, s => .next s
  | mf2 + 1, (x2, m0_2) => (bif decide ((x2 : Int) < (arms.length : Int)) then ((F_spec_StarMetric_L3 arms x2 ((arms.length - 0) + 1) (0, m0_2)).elim (fun (_, m0_3) => F_spec_StarMetric_L2 arms mf2 ((x2 + 1), m0_3)) (fun r => .ret r)) else (.next (x2, m0_2)))
theorem F_spec_StarMetric_L2_s (arms : List Int) (x2 : Nat) (m0_2 : List (List Int)) (mf2 : Nat) : F_spec_StarMetric_L2 arms (mf2 + 1) (x2, m0_2) = (bif decide ((x2 : Int) < (arms.length : Int)) then ((F_spec_StarMetric_L3 arms x2 ((arms.length - 0) + 1) (0, m0_2)).elim (fun (_, m0_3) => F_spec_StarMetric_L2 arms mf2 ((x2 + 1), m0_3)) (fun r => .ret r)) else (.next (x2, m0_2))) := rfl
def F_spec_StarMetric (arms : List Int) : List (List Int) × Bool := (bif !((decide (1 ≤ (arms.length : Int))) && (decide ((arms.length : Int) ≤ 6))) then ([], false) else ((F_spec_StarMetric_L1 arms ((arms.length - 0) + 1) 0).elim (fun _ => ((F_spec_StarMetric_L2 arms ((arms.length - 0) + 1) (0, (F_spec_l6Uniform (arms.length : Int) 0))).elim (fun (_, m0_2) => (m0_2, true)) (fun r => r))) (fun r => r)))

def F_spec_l6Line_L2 (places : List Int) (x1 : Nat) : Nat → Nat × List (List Int) → Ctl (Nat × List (List Int)) (List (List Int))
  | 0, s => .next s
  | mf2 + 1, (y2, m0_2) => (bif decide ((y2 : Int) < (places.length : Int)) then F_spec_l6Line_L2 places x1 mf2 ((y2 + 1), (m0_2.set x1 ((m0_2.getD x1 []).set y2 (F_spec_l1Most ((places.getD x1 0) - (places.getD y2 0)) ((places.getD y2 0) - (places.getD x1 0)))))) else (.next (y2, m0_2)))
theorem F_spec_l6Line_L2_s (places : List Int) (x1 : Nat) (y2 : Nat) (m0_2 : List (List Int)) (mf2 : Nat) : F_spec_l6Line_L2 places x1 (mf2 + 1) (y2, m0_2) = (bif decide ((y2 : Int) < (places.length : Int)) then F_spec_l6Line_L2 places x1 mf2 ((y2 + 1), (m0_2.set x1 ((m0_2.getD x1 []).set y2 (F_spec_l1Most ((places.getD x1 0) - (places.getD y2 0)) ((places.getD y2 0) - (places.getD x1 0)))))) else (.next (y2, m0_2))) := rfl
def F_spec_l6Line_L1 (places : List Int) : Nat → Nat × List (List Int) → Ctl (Nat × List (List Int)) (List (List Int))
  | 0, s => .next s
  | mf1 + 1, (x1, m0_1) => (bif decide ((x1 : Int) < (places.length : Int)) then ((F_spec_l6Line_L2 places x1 ((places.length - 0) + 1) (0, m0_1)).elim (fun (_, m0_2) => F_spec_l6Line_L1 places mf1 ((x1 + 1), m0_2)) (fun r => .ret r)) else (.next (x1, m0_1)))
theorem F_spec_l6Line_L1_s (places : List Int) (x1 : Nat) (m0_1 : List (List Int)) (mf1 : Nat) : F_spec_l6Line_L1 places (mf1 + 1) (x1, m0_1) = (bif decide ((x1 : Int) < (places.length : Int)) then ((F_spec_l6Line_L2 places x1 ((places.length - 0) + 1) (0, m0_1)).elim (fun (_, m0_2) => F_spec_l6Line_L1 places mf1 ((x1 + 1), m0_2)) (fun r => .ret r)) else (.next (x1, m0_1))) := rfl
def F_spec_l6Line (places : List Int) : List (List Int) := ((F_spec_l6Line_L1 places ((places.length - 0) + 1) (0, (F_spec_l6Uniform (places.length : Int) 0))).elim (fun (_, m0_1) => m0_1) (fun r => r))

def F_spec_LineMetric_L1 (places : List Int) : Nat → Nat → Ctl (Nat) (List (List Int) × Bool)
  | 0, s => .next s
  | mf1 + 1, i1 => (bif decide ((i1 : Int) < (places.length : Int)) then (bif ((!((decide (0 ≤ (places.getD i1 0))) && (decide ((places.getD i1 0) ≤ 99)))) || (F_spec_l1Has ((places.take i1).drop 0) (places.getD i1 0))) then (.ret ([], false)) else F_spec_LineMetric_L1 places mf1 (i1 + 1)) else (.next i1))
theorem F_spec_LineMetric_L1_s (places : List Int) (i1 : Nat) (mf1 : Nat) : F_spec_LineMetric_L1 places (mf1 + 1) i1 = (bif decide ((i1 : Int) < (places.length : Int)) then (bif ((!((decide (0 ≤ (places.getD i1 0))) && (decide ((places.getD i1 0) ≤ 99)))) || (F_spec_l1Has ((places.take i1).drop 0) (places.getD i1 0))) then (.ret ([], false)) else F_spec_LineMetric_L1 places mf1 (i1 + 1)) else (.next i1)) := rfl
def F_spec_LineMetric (places : List Int) : List (List Int) × Bool := (bif !((decide (1 ≤ (places.length : Int))) && (decide ((places.length : Int) ≤ 6))) then ([], false) else ((F_spec_LineMetric_L1 places ((places.length - 0) + 1) 0).elim (fun _ => ((F_spec_l6Line places), true)) (fun r => r)))

def F_laws_FnExactUniformMetric (n : Int) (d : Int) : Bool := (bif ((!(F_laws_eqMetric ((F_impl_UniformMetric n d).1) ((F_spec_UniformMetric n d).1))) || (((F_impl_UniformMetric n d).2) != ((F_spec_UniformMetric n d).2))) then false else (bif decide ((F_laws_heldMetric ((F_laws_markMetric ((F_impl_UniformMetric n d).1) 1).2) 1) < 0) then false else (bif !decide ((F_laws_heldMetric ((F_laws_markMetric ((F_impl_UniformMetric n d).1) 1).2) 1) = (F_laws_markMetric ((F_impl_UniformMetric n d).1) 1).1) then false else true)))

def F_laws_FnExactStarMetric (a : List Int) : Bool := (bif decide (1048576 < (a.length : Int)) then true else (bif ((!(F_laws_eqMetric ((F_impl_StarMetric (F_laws_toIntS a)).1) ((F_spec_StarMetric (F_laws_toIntS a)).1))) || (((F_impl_StarMetric (F_laws_toIntS a)).2) != ((F_spec_StarMetric (F_laws_toIntS a)).2))) then false else (bif !(F_laws_eqIntS (F_laws_toIntS a) (F_laws_toIntS a)) then false else (bif (((decide ((F_laws_markIntS (F_laws_toIntS a) 1).1 < 0)) || (!(F_laws_eqMetric ((F_impl_StarMetric (F_laws_toIntS a)).1) ((F_spec_StarMetric (F_laws_toIntS a)).1)))) || (((F_impl_StarMetric (F_laws_toIntS a)).2) != ((F_spec_StarMetric (F_laws_toIntS a)).2))) then false else (bif decide ((F_laws_heldMetric ((F_laws_markMetric ((F_impl_StarMetric (F_laws_toIntS a)).1) 1).2) 1) < 0) then false else (bif !decide ((F_laws_heldMetric ((F_laws_markMetric ((F_impl_StarMetric (F_laws_toIntS a)).1) 1).2) 1) = (F_laws_markMetric ((F_impl_StarMetric (F_laws_toIntS a)).1) 1).1) then false else true))))))

def F_laws_FnExactLineMetric (a : List Int) : Bool := (bif decide (1048576 < (a.length : Int)) then true else (bif ((!(F_laws_eqMetric ((F_impl_LineMetric (F_laws_toIntS a)).1) ((F_spec_LineMetric (F_laws_toIntS a)).1))) || (((F_impl_LineMetric (F_laws_toIntS a)).2) != ((F_spec_LineMetric (F_laws_toIntS a)).2))) then false else (bif !(F_laws_eqIntS (F_laws_toIntS a) (F_laws_toIntS a)) then false else (bif (((decide ((F_laws_markIntS (F_laws_toIntS a) 1).1 < 0)) || (!(F_laws_eqMetric ((F_impl_LineMetric (F_laws_toIntS a)).1) ((F_spec_LineMetric (F_laws_toIntS a)).1)))) || (((F_impl_LineMetric (F_laws_toIntS a)).2) != ((F_spec_LineMetric (F_laws_toIntS a)).2))) then false else (bif decide ((F_laws_heldMetric ((F_laws_markMetric ((F_impl_LineMetric (F_laws_toIntS a)).1) 1).2) 1) < 0) then false else (bif !decide ((F_laws_heldMetric ((F_laws_markMetric ((F_impl_LineMetric (F_laws_toIntS a)).1) 1).2) 1) = (F_laws_markMetric ((F_impl_LineMetric (F_laws_toIntS a)).1) 1).1) then false else true))))))

def F_impl_DiameterOf_L1 (m : List (List Int)) : Nat → Int × Nat → Ctl (Int × Nat) (Int × Bool)
  | 0, s => .next s
  | mf1 + 1, (most1, k13_1) => (bif decide ((k13_1 : Int) < (m.length : Int)) then F_impl_DiameterOf_L1 m mf1 ((max most1 (F_slices_Max_Sint_int (m.getD k13_1 []))), (k13_1 + 1)) else (.next (most1, k13_1)))
theorem F_impl_DiameterOf_L1_s (m : List (List Int)) (most1 : Int) (k13_1 : Nat) (mf1 : Nat) : F_impl_DiameterOf_L1 m (mf1 + 1) (most1, k13_1) = (bif decide ((k13_1 : Int) < (m.length : Int)) then F_impl_DiameterOf_L1 m mf1 ((max most1 (F_slices_Max_Sint_int (m.getD k13_1 []))), (k13_1 + 1)) else (.next (most1, k13_1))) := rfl
def F_impl_DiameterOf (m : List (List Int)) : Int × Bool := (bif !(F_impl_IsMetric m) then (0, false) else ((F_impl_DiameterOf_L1 m ((m.length - 0) + 1) (0, 0)).elim (fun (most1, _) => (most1, true)) (fun r => r)))

def F_spec_DiameterOf_L2 (m : List (List Int)) (x1 : Nat) : Nat → Int × Nat → Ctl (Int × Nat) (Int × Bool)
  | 0, s => .next s
  | mf2 + 1, (most2, y2) => (bif decide ((y2 : Int) < (m.length : Int)) then F_spec_DiameterOf_L2 m x1 mf2 ((F_spec_l1Most most2 ((m.getD x1 []).getD y2 0)), (y2 + 1)) else (.next (most2, y2)))
theorem F_spec_DiameterOf_L2_s (m : List (List Int)) (x1 : Nat) (most2 : Int) (y2 : Nat) (mf2 : Nat) : F_spec_DiameterOf_L2 m x1 (mf2 + 1) (most2, y2) = (bif decide ((y2 : Int) < (m.length : Int)) then F_spec_DiameterOf_L2 m x1 mf2 ((F_spec_l1Most most2 ((m.getD x1 []).getD y2 0)), (y2 + 1)) else (.next (most2, y2))) := rfl
def F_spec_DiameterOf_L1 (m : List (List Int)) : Nat → Int × Nat → Ctl (Int × Nat) (Int × Bool)
  | 0, s => .next s
  | mf1 + 1, (most1, x1) => (bif decide ((x1 : Int) < (m.length : Int)) then ((F_spec_DiameterOf_L2 m x1 ((m.length - 0) + 1) (most1, 0)).elim (fun (most2, _) => F_spec_DiameterOf_L1 m mf1 (most2, (x1 + 1))) (fun r => .ret r)) else (.next (most1, x1)))
theorem F_spec_DiameterOf_L1_s (m : List (List Int)) (most1 : Int) (x1 : Nat) (mf1 : Nat) : F_spec_DiameterOf_L1 m (mf1 + 1) (most1, x1) = (bif decide ((x1 : Int) < (m.length : Int)) then ((F_spec_DiameterOf_L2 m x1 ((m.length - 0) + 1) (most1, 0)).elim (fun (most2, _) => F_spec_DiameterOf_L1 m mf1 (most2, (x1 + 1))) (fun r => .ret r)) else (.next (most1, x1))) := rfl
def F_spec_DiameterOf (m : List (List Int)) : Int × Bool := (bif !(F_spec_l6Good m) then (0, false) else ((F_spec_DiameterOf_L1 m ((m.length - 0) + 1) (0, 0)).elim (fun (most1, _) => (most1, true)) (fun r => r)))

def F_laws_FnExactDiameterOf (m : List (List Int)) : Bool := (bif decide ((F_laws_szMetric m 1048576) < 0) then true else (bif ((!decide ((F_impl_DiameterOf (F_laws_toMetric m)).1 = (F_spec_DiameterOf (F_laws_toMetric m)).1)) || (((F_impl_DiameterOf (F_laws_toMetric m)).2) != ((F_spec_DiameterOf (F_laws_toMetric m)).2))) then false else (bif !(F_laws_eqMetric (F_laws_toMetric m) (F_laws_toMetric m)) then false else true)))

def F_impl_BallOf_L1 (m : List (List Int)) (x : Int) (r : Int) : Nat → List Int × Nat → Ctl (List Int × Nat) (List Int × Bool)
  | 0, s => .next s
  | mf1 + 1, (out1, k27_1) => (bif decide ((k27_1 : Int) < ((m.getD ((x).toNat) []).length : Int)) then (bif decide (((m.getD ((x).toNat) []).getD k27_1 0) ≤ r) then F_impl_BallOf_L1 m x r mf1 ((out1 ++ ([(k27_1 : Int)])), (k27_1 + 1)) else F_impl_BallOf_L1 m x r mf1 (out1, (k27_1 + 1))) else (.next (out1, k27_1)))
theorem F_impl_BallOf_L1_s (m : List (List Int)) (x : Int) (r : Int) (out1 : List Int) (k27_1 : Nat) (mf1 : Nat) : F_impl_BallOf_L1 m x r (mf1 + 1) (out1, k27_1) = (bif decide ((k27_1 : Int) < ((m.getD ((x).toNat) []).length : Int)) then (bif decide (((m.getD ((x).toNat) []).getD k27_1 0) ≤ r) then F_impl_BallOf_L1 m x r mf1 ((out1 ++ ([(k27_1 : Int)])), (k27_1 + 1)) else F_impl_BallOf_L1 m x r mf1 (out1, (k27_1 + 1))) else (.next (out1, k27_1))) := rfl
def F_impl_BallOf (m : List (List Int)) (x : Int) (r : Int) : List Int × Bool := (bif ((!(F_impl_IsMetric m)) || (!((decide (0 ≤ x)) && (decide (x ≤ ((m.length : Int) - 1)))))) then ([], false) else ((F_impl_BallOf_L1 m x r ((((m.getD ((x).toNat) []).length) - 0) + 1) (([] : List Int), 0)).elim (fun (out1, _) => (out1, true)) (fun r => r)))

def F_spec_BallOf_L1 (m : List (List Int)) (x : Int) (r : Int) : Nat → List Int × Nat → Ctl (List Int × Nat) (List Int × Bool)
  | 0, s => .next s
  | mf1 + 1, (out1, y1) => (bif decide ((y1 : Int) < (m.length : Int)) then (bif decide (((m.getD ((x).toNat) []).getD y1 0) ≤ r) then F_spec_BallOf_L1 m x r mf1 ((out1 ++ ([(y1 : Int)])), (y1 + 1)) else F_spec_BallOf_L1 m x r mf1 (out1, (y1 + 1))) else (.next (out1, y1)))
theorem F_spec_BallOf_L1_s (m : List (List Int)) (x : Int) (r : Int) (out1 : List Int) (y1 : Nat) (mf1 : Nat) : F_spec_BallOf_L1 m x r (mf1 + 1) (out1, y1) = (bif decide ((y1 : Int) < (m.length : Int)) then (bif decide (((m.getD ((x).toNat) []).getD y1 0) ≤ r) then F_spec_BallOf_L1 m x r mf1 ((out1 ++ ([(y1 : Int)])), (y1 + 1)) else F_spec_BallOf_L1 m x r mf1 (out1, (y1 + 1))) else (.next (out1, y1))) := rfl
def F_spec_BallOf (m : List (List Int)) (x : Int) (r : Int) : List Int × Bool := (bif ((!(F_spec_l6Good m)) || (!((decide (0 ≤ x)) && (decide (x ≤ ((m.length : Int) - 1)))))) then (([] : List Int), false) else ((F_spec_BallOf_L1 m x r ((m.length - 0) + 1) (([] : List Int), 0)).elim (fun (out1, _) => (out1, true)) (fun r => r)))

def F_laws_FnExactBallOf (m : List (List Int)) (x : Int) (r : Int) : Bool := (bif decide ((F_laws_szMetric m 1048576) < 0) then true else (bif ((!(F_laws_eqIntS ((F_impl_BallOf (F_laws_toMetric m) x r).1) ((F_spec_BallOf (F_laws_toMetric m) x r).1))) || (((F_impl_BallOf (F_laws_toMetric m) x r).2) != ((F_spec_BallOf (F_laws_toMetric m) x r).2))) then false else (bif !(F_laws_eqMetric (F_laws_toMetric m) (F_laws_toMetric m)) then false else (bif (((decide ((F_laws_markMetric (F_laws_toMetric m) 1).1 < 0)) || (!(F_laws_eqIntS ((F_impl_BallOf (F_laws_toMetric m) x r).1) ((F_spec_BallOf (F_laws_toMetric m) x r).1)))) || (((F_impl_BallOf (F_laws_toMetric m) x r).2) != ((F_spec_BallOf (F_laws_toMetric m) x r).2))) then false else (bif decide ((F_laws_heldIntS ((F_laws_markIntS ((F_impl_BallOf (F_laws_toMetric m) x r).1) 1).2) 1) < 0) then false else (bif !decide ((F_laws_heldIntS ((F_laws_markIntS ((F_impl_BallOf (F_laws_toMetric m) x r).1) 1).2) 1) = (F_laws_markIntS ((F_impl_BallOf (F_laws_toMetric m) x r).1) 1).1) then false else true))))))


end Go.Proofs.Ytpfpbgkjgpgceaa
