/-
  What functions of the program compute, as plain functions. No condition.
-/
import Derived.Test.YtfhhfhiooehlcaaDefA
namespace Go.Proofs.Ytfhhfhiooehlcaa
open Go Go.RowKit

def F_slices_isNaN_int (x : Int) : Bool := !decide (x = x)

def F_cmp_isNaN_int (x : Int) : Bool := !decide (x = x)

def F_cmp_Less_int (x : Int) (y : Int) : Bool := (((!decide (x = x)) && (!(!decide (y = y)))) || (decide (x < y)))

def F_slices_IndexFunc_Sint_int_L1 (s : List Int) (f : Int → Bool) : Nat → Nat → Ctl (Nat) (Int)
  | 0, s => .next s
  | mf1 + 1, k8_1 => (bif decide ((k8_1 : Int) < (s.length : Int)) then (bif (f (s.getD k8_1 0)) then (.ret (k8_1 : Int)) else F_slices_IndexFunc_Sint_int_L1 s f mf1 (k8_1 + 1)) else (.next k8_1))
theorem F_slices_IndexFunc_Sint_int_L1_s (s : List Int) (f : Int → Bool) (k8_1 : Nat) (mf1 : Nat) : F_slices_IndexFunc_Sint_int_L1 s f (mf1 + 1) k8_1 = (bif decide ((k8_1 : Int) < (s.length : Int)) then (bif (f (s.getD k8_1 0)) then (.ret (k8_1 : Int)) else F_slices_IndexFunc_Sint_int_L1 s f mf1 (k8_1 + 1)) else (.next k8_1)) := rfl
def F_slices_IndexFunc_Sint_int (s : List Int) (f : Int → Bool) : Int := ((F_slices_IndexFunc_Sint_int_L1 s f ((s.length - 0) + 1) 0).elim (fun _ => -1) (fun r => r))

def F_slices_ContainsFunc_Sint_int (s : List Int) (f : Int → Bool) : Bool := decide (0 ≤ (F_slices_IndexFunc_Sint_int s f))

def F_slices_IndexFunc_SSint_Sint_L1 (s : List (List Int)) (f : List Int → Bool) : Nat → Nat → Ctl (Nat) (Int)
  | 0, s => .next s
  | mf1 + 1, k8_1 => (bif decide ((k8_1 : Int) < (s.length : Int)) then (bif (f (s.getD k8_1 [])) then (.ret (k8_1 : Int)) else F_slices_IndexFunc_SSint_Sint_L1 s f mf1 (k8_1 + 1)) else (.next k8_1))
theorem F_slices_IndexFunc_SSint_Sint_L1_s (s : List (List Int)) (f : List Int → Bool) (k8_1 : Nat) (mf1 : Nat) : F_slices_IndexFunc_SSint_Sint_L1 s f (mf1 + 1) k8_1 = (bif decide ((k8_1 : Int) < (s.length : Int)) then (bif (f (s.getD k8_1 [])) then (.ret (k8_1 : Int)) else F_slices_IndexFunc_SSint_Sint_L1 s f mf1 (k8_1 + 1)) else (.next k8_1)) := rfl
def F_slices_IndexFunc_SSint_Sint (s : List (List Int)) (f : List Int → Bool) : Int := ((F_slices_IndexFunc_SSint_Sint_L1 s f ((s.length - 0) + 1) 0).elim (fun _ => -1) (fun r => r))

def F_slices_ContainsFunc_SSint_Sint (s : List (List Int)) (f : List Int → Bool) : Bool := decide (0 ≤ (F_slices_IndexFunc_SSint_Sint s f))

def F_slices_IsSorted_Sint_int_L1 (x : List Int) : Nat → Int → Ctl (Int) (Bool)
  | 0, s => .next s
  | mf1 + 1, i1 => (bif decide (0 < i1) then (bif (F_cmp_Less_int (x.getD ((i1).toNat) 0) (x.getD ((i1 - 1).toNat) 0)) then (.ret false) else F_slices_IsSorted_Sint_int_L1 x mf1 (i1 - 1)) else (.next i1))
theorem F_slices_IsSorted_Sint_int_L1_s (x : List Int) (i1 : Int) (mf1 : Nat) : F_slices_IsSorted_Sint_int_L1 x (mf1 + 1) i1 = (bif decide (0 < i1) then (bif (F_cmp_Less_int (x.getD ((i1).toNat) 0) (x.getD ((i1 - 1).toNat) 0)) then (.ret false) else F_slices_IsSorted_Sint_int_L1 x mf1 (i1 - 1)) else (.next i1)) := rfl
def F_slices_IsSorted_Sint_int (x : List Int) : Bool := ((F_slices_IsSorted_Sint_int_L1 x (((((x.length : Int) - 1) + 1).toNat) + 1) ((x.length : Int) - 1)).elim (fun _ => true) (fun r => r))

def F_slices_BinarySearch_Sint_int_L1 (x : List Int) (tgt : Int) : Nat → Nat × Nat → Ctl (Nat × Nat) (Int × Bool)
  | 0, s => .next s
  | mf1 + 1, (i1, j1) => (bif decide ((i1 : Int) < (j1 : Int)) then (bif (F_cmp_Less_int (x.getD ((i1 + j1) / 2) 0) tgt) then F_slices_BinarySearch_Sint_int_L1 x tgt mf1 ((((i1 + j1) / 2) + 1), j1) else F_slices_BinarySearch_Sint_int_L1 x tgt mf1 (i1, ((i1 + j1) / 2))) else (.next (i1, j1)))
theorem F_slices_BinarySearch_Sint_int_L1_s (x : List Int) (tgt : Int) (i1 : Nat) (j1 : Nat) (mf1 : Nat) : F_slices_BinarySearch_Sint_int_L1 x tgt (mf1 + 1) (i1, j1) = (bif decide ((i1 : Int) < (j1 : Int)) then (bif (F_cmp_Less_int (x.getD ((i1 + j1) / 2) 0) tgt) then F_slices_BinarySearch_Sint_int_L1 x tgt mf1 ((((i1 + j1) / 2) + 1), j1) else F_slices_BinarySearch_Sint_int_L1 x tgt mf1 (i1, ((i1 + j1) / 2))) else (.next (i1, j1))) := rfl
def F_slices_BinarySearch_Sint_int (x : List Int) (tgt : Int) : Int × Bool := ((F_slices_BinarySearch_Sint_int_L1 x tgt ((x.length - 0) + 1) (0, x.length)).elim (fun (i1, _) => ((i1 : Int), ((decide ((i1 : Int) < (x.length : Int))) && ((decide ((x.getD i1 0) = tgt)) || ((!decide ((x.getD i1 0) = (x.getD i1 0))) && (!decide (tgt = tgt))))))) (fun r => r))

def F_impl_areIn_1 (n : Int) (low : Int) (high : Int) : Bool := !((decide (low ≤ n)) && (decide (n ≤ high)))

def F_impl_areIn (l : List Int) (many : Int) (low : Int) (high : Int) : Bool := (((decide (1 ≤ (l.length : Int))) && (decide ((l.length : Int) ≤ many))) && (!(F_slices_ContainsFunc_Sint_int l (fun n => F_impl_areIn_1 n low high))))

def F_impl_size (n : Int) : Int := max n (-n)

def F_impl_isRow (row : List Int) : Bool := ((F_impl_areIn row 3 0 99) && (F_slices_IsSorted_Sint_int row))

def F_impl_areRows (a : List Int) (b : List Int) : Bool := (((F_impl_isRow a) && (F_impl_isRow b)) && (decide ((a.length : Int) = (b.length : Int))))

def F_impl_rowDistance_L1 (a : List Int) (b : List Int) : Nat → Int × Nat → Ctl (Int × Nat) (Int)
  | 0, s => .next s
  | mf1 + 1, (sum1, k10_1) => (bif decide ((k10_1 : Int) < (a.length : Int)) then F_impl_rowDistance_L1 a b mf1 ((sum1 + (max ((a.getD k10_1 0) - (b.getD k10_1 0)) (-((a.getD k10_1 0) - (b.getD k10_1 0))))), (k10_1 + 1)) else (.next (sum1, k10_1)))
theorem F_impl_rowDistance_L1_s (a : List Int) (b : List Int) (sum1 : Int) (k10_1 : Nat) (mf1 : Nat) : F_impl_rowDistance_L1 a b (mf1 + 1) (sum1, k10_1) = (bif decide ((k10_1 : Int) < (a.length : Int)) then F_impl_rowDistance_L1 a b mf1 ((sum1 + (max ((a.getD k10_1 0) - (b.getD k10_1 0)) (-((a.getD k10_1 0) - (b.getD k10_1 0))))), (k10_1 + 1)) else (.next (sum1, k10_1))) := rfl
def F_impl_rowDistance (a : List Int) (b : List Int) : Int := ((F_impl_rowDistance_L1 a b ((a.length - 0) + 1) (0, 0)).elim (fun (sum1, _) => sum1) (fun r => r))

def F_impl_RowDistance (a : List Int) (b : List Int) : Int × Bool := (bif !(F_impl_areRows a b) then (0, false) else ((F_impl_rowDistance a b), true))

def F_spec_l1Most (a : Int) (b : Int) : Int := (bif decide (b < a) then a else b)

def F_spec_l6Places_L1 (list : List Int) : Nat → Nat → Ctl (Nat) (Bool)
  | 0, s => .next s
  | mf1 + 1, i1 => (bif decide ((i1 : Int) < (list.length : Int)) then (bif !((decide (0 ≤ (list.getD i1 0))) && (decide ((list.getD i1 0) ≤ 99))) then (.ret false) else F_spec_l6Places_L1 list mf1 (i1 + 1)) else (.next i1))
theorem F_spec_l6Places_L1_s (list : List Int) (i1 : Nat) (mf1 : Nat) : F_spec_l6Places_L1 list (mf1 + 1) i1 = (bif decide ((i1 : Int) < (list.length : Int)) then (bif !((decide (0 ≤ (list.getD i1 0))) && (decide ((list.getD i1 0) ≤ 99))) then (.ret false) else F_spec_l6Places_L1 list mf1 (i1 + 1)) else (.next i1)) := rfl
def F_spec_l6Places (list : List Int) : Bool := ((F_spec_l6Places_L1 list ((list.length - 0) + 1) 0).elim (fun _ => true) (fun r => r))

def F_spec_l6Ascending_L1 (list : List Int) : Nat → Nat → Ctl (Nat) (Bool)
  | 0, s => .next s
  | mf1 + 1, i1 => (bif decide ((i1 : Int) < (list.length : Int)) then (bif decide ((list.getD i1 0) < (list.getD (((i1 : Int) - 1).toNat) 0)) then (.ret false) else F_spec_l6Ascending_L1 list mf1 (i1 + 1)) else (.next i1))
theorem F_spec_l6Ascending_L1_s (list : List Int) (i1 : Nat) (mf1 : Nat) : F_spec_l6Ascending_L1 list (mf1 + 1) i1 = (bif decide ((i1 : Int) < (list.length : Int)) then (bif decide ((list.getD i1 0) < (list.getD (((i1 : Int) - 1).toNat) 0)) then (.ret false) else F_spec_l6Ascending_L1 list mf1 (i1 + 1)) else (.next i1)) := rfl
def F_spec_l6Ascending (list : List Int) : Bool := ((F_spec_l6Ascending_L1 list ((list.length - 1) + 1) 1).elim (fun _ => true) (fun r => r))

def F_spec_l6Row (row : List Int) : Bool := ((((decide (1 ≤ (row.length : Int))) && (decide ((row.length : Int) ≤ 3))) && (F_spec_l6Places row)) && (F_spec_l6Ascending row))

def F_spec_l6Apart_L1 (a : List Int) (b : List Int) : Nat → Int × Nat → Ctl (Int × Nat) (Int)
  | 0, s => .next s
  | mf1 + 1, (sum1, i1) => (bif decide ((i1 : Int) < (a.length : Int)) then F_spec_l6Apart_L1 a b mf1 ((sum1 + (F_spec_l1Most ((a.getD i1 0) - (b.getD i1 0)) ((b.getD i1 0) - (a.getD i1 0)))), (i1 + 1)) else (.next (sum1, i1)))
theorem F_spec_l6Apart_L1_s (a : List Int) (b : List Int) (sum1 : Int) (i1 : Nat) (mf1 : Nat) : F_spec_l6Apart_L1 a b (mf1 + 1) (sum1, i1) = (bif decide ((i1 : Int) < (a.length : Int)) then F_spec_l6Apart_L1 a b mf1 ((sum1 + (F_spec_l1Most ((a.getD i1 0) - (b.getD i1 0)) ((b.getD i1 0) - (a.getD i1 0)))), (i1 + 1)) else (.next (sum1, i1))) := rfl
def F_spec_l6Apart (a : List Int) (b : List Int) : Int := ((F_spec_l6Apart_L1 a b ((a.length - 0) + 1) (0, 0)).elim (fun (sum1, _) => sum1) (fun r => r))

def F_spec_RowDistance (a : List Int) (b : List Int) : Int × Bool := (bif (((!(F_spec_l6Row a)) || (!(F_spec_l6Row b))) || (!decide ((a.length : Int) = (b.length : Int)))) then (0, false) else ((F_spec_l6Apart a b), true))


end Go.Proofs.Ytfhhfhiooehlcaa
