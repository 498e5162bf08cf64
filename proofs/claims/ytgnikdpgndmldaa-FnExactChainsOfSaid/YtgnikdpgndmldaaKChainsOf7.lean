/-
  Part of a proof: rules of the walk, plain functions and their laws, walks. No condition.
-/
import Derived.Test.YtgnikdpgndmldaaKChainsOf6
import Derived.Shelf.Bits.Mul64
import Derived.Test.YtgnikdpgndmldaaProg
namespace Go.Proofs.Ytgnikdpgndmldaa
set_option linter.unusedVariables false
set_option linter.unusedSimpArgs false
open Go Go.Shelf
def lays212_ren : Go.Shelf.Ren := ⟨fun | 212 => 54 | 263 => 68 | 264 => 69 | n => n, fun | 46 => 71 | 51 => 84 | 146 => 85 | 53 => 87 | 148 => 88 | n => n, fun | n => n⟩
theorem lays212 : Go.Proofs.Lays.n212 Try.prog lays212_ren := {
  mixed := by kernel_rfl
  f212 := Try.func54.trans (congrArg some (by kernel_rfl))
  f263 := Try.func68.trans (congrArg some (by kernel_rfl))
  f264 := Try.func69.trans (congrArg some (by kernel_rfl))
  t46 := Try.underlying71
  a46 := Try.isAgg71
  z46 := Try.sizeOf71
  v46 := Try.zeroValue71
  t51 := Try.underlying84
  a51 := Try.isAgg84
  z51 := Try.sizeOf84
  v51 := Try.zeroValue84
  t53 := Try.underlying87
  a53 := Try.isAgg87
  z53 := Try.sizeOf87
  v53 := Try.zeroValue87
  t146 := Try.underlying85
  a146 := Try.isAgg85
  z146 := Try.sizeOf85
  v146 := Try.zeroValue85
  t148 := Try.underlying88
  a148 := Try.isAgg88
  z148 := Try.sizeOf88
  v148 := Try.zeroValue88 }
end Go.Proofs.Ytgnikdpgndmldaa
namespace Go.Proofs.Ytgnikdpgndmldaa
set_option linter.unusedVariables false
set_option linter.unusedSimpArgs false
open Go Go.RowKit

def mulU (x y : Int) : Int × Int := (((x.toNat * y.toNat / 18446744073709551616 : Nat) : Int), ((x.toNat * y.toNat % 18446744073709551616 : Nat) : Int))
theorem mulU_one {n : Nat} {c : Int} (hn : n = 1) (h0 : 0 ≤ c) (h1 : c ≤ 1000000) : (mulU (n : Int) c).1 = 0 ∧ (mulU (n : Int) c).2 = c := by
  subst hn
  unfold mulU
  simp only [Int.toNat_natCast, Nat.one_mul]
  omega
theorem bits_Mul_ok (w : World) (x y : Int) (hp0 : 0 ≤ x) (hp1 : x < 18446744073709551616) (hp2 : 0 ≤ y) (hp3 : y < 18446744073709551616) :
    Calls Try.prog 54 ([(.int .u64 x), (.int .u64 y)] : List Value).toArray w (Ret (.tuple #[(.int .u64 ((mulU x y).1)), (.int .u64 ((mulU x y).2))]) (Hp w [])) := by
  have h := Any.bits_Mul lays212 x.toNat y.toNat (by omega) (by omega) w
  rw [Int.toNat_of_nonneg hp0, Int.toNat_of_nonneg hp2] at h
  refine h.mono ?_
  rintro e w' ⟨rfl, rfl⟩
  exact ⟨rfl, Hp.start _⟩
end Go.Proofs.Ytgnikdpgndmldaa
namespace Go.Proofs.Ytgnikdpgndmldaa
set_option linter.unusedVariables false
set_option linter.unusedSimpArgs false
open Go Go.RowKit
set_option linter.unusedVariables false

def F_slices_Repeat_Sint_int_L1  : Nat → Nat × List Int → Ctl (Nat × List Int) (List Int)
  | 0, s => .next s
  | mf1 + 1, (n1, newslice1) => (bif decide ((n1 : Int) < (newslice1.length : Int)) then F_slices_Repeat_Sint_int_L1 mf1 ((n1 + (min ((newslice1.take n1).drop 0).length (newslice1.length - n1))), (newslice1.take n1 ++ ((newslice1.take n1).drop 0).take (newslice1.length - n1) ++ newslice1.drop (n1 + (min ((newslice1.take n1).drop 0).length (newslice1.length - n1))))) else (.next (n1, newslice1)))
theorem F_slices_Repeat_Sint_int_L1_s (n1 : Nat) (newslice1 : List Int) (mf1 : Nat) : F_slices_Repeat_Sint_int_L1  (mf1 + 1) (n1, newslice1) = (bif decide ((n1 : Int) < (newslice1.length : Int)) then F_slices_Repeat_Sint_int_L1 mf1 ((n1 + (min ((newslice1.take n1).drop 0).length (newslice1.length - n1))), (newslice1.take n1 ++ ((newslice1.take n1).drop 0).take (newslice1.length - n1) ++ newslice1.drop (n1 + (min ((newslice1.take n1).drop 0).length (newslice1.length - n1))))) else (.next (n1, newslice1))) := rfl
def F_slices_Repeat_Sint_int (x : List Int) (count : Int) : List Int := ((((bif decide (count < 0) then default else (Ctl.next ())) : Ctl (Unit) (List Int))).elim (fun _ => ((((bif ((decide (0 < (mulU (x.length : Int) count).1)) || (decide (9223372036854775807 < (mulU (x.length : Int) count).2))) then default else (Ctl.next ())) : Ctl (Unit) (List Int))).elim (fun _ => ((F_slices_Repeat_Sint_int_L1  (((x.take (List.replicate (((mulU (x.length : Int) count).2).toNat) (0 : Int)).length ++ (List.replicate (((mulU (x.length : Int) count).2).toNat) (0 : Int)).drop (min x.length (List.replicate (((mulU (x.length : Int) count).2).toNat) (0 : Int)).length)).length - (min x.length (List.replicate (((mulU (x.length : Int) count).2).toNat) (0 : Int)).length)) + 1) ((min x.length (List.replicate (((mulU (x.length : Int) count).2).toNat) (0 : Int)).length), (x.take (List.replicate (((mulU (x.length : Int) count).2).toNat) (0 : Int)).length ++ (List.replicate (((mulU (x.length : Int) count).2).toNat) (0 : Int)).drop (min x.length (List.replicate (((mulU (x.length : Int) count).2).toNat) (0 : Int)).length)))).elim (fun (_, newslice1) => newslice1) (fun r => r))) (fun r => r))) (fun r => r))

def F_spec_l4With (list : List Int) (at_ : Int) (y : Int) : List Int := (list.set ((at_).toNat) y)


end Go.Proofs.Ytgnikdpgndmldaa
namespace Go.Proofs.Ytgnikdpgndmldaa
set_option linter.unusedVariables false
set_option linter.unusedSimpArgs false
open Go Go.RowKit
set_option linter.unusedVariables false

def F_slices_Concat_Sint_int_L1 (s : List (List Int)) : Nat → Nat × Nat → Ctl (Nat × Nat) (List Int)
  | 0, s => .next s
  | mf1 + 1, (size1, k11_1) => (bif decide ((k11_1 : Int) < (s.length : Int)) then (bif decide ((size1 : Int) + ((s.getD k11_1 []).length : Int) < 0) then default else F_slices_Concat_Sint_int_L1 s mf1 ((size1 + (s.getD k11_1 []).length), (k11_1 + 1))) else (.next (size1, k11_1)))
theorem F_slices_Concat_Sint_int_L1_s (s : List (List Int)) (size1 : Nat) (k11_1 : Nat) (mf1 : Nat) : F_slices_Concat_Sint_int_L1 s (mf1 + 1) (size1, k11_1) = (bif decide ((k11_1 : Int) < (s.length : Int)) then (bif decide ((size1 : Int) + ((s.getD k11_1 []).length : Int) < 0) then default else F_slices_Concat_Sint_int_L1 s mf1 ((size1 + (s.getD k11_1 []).length), (k11_1 + 1))) else (.next (size1, k11_1))) := rfl
def F_slices_Concat_Sint_int_L2 (s : List (List Int)) : Nat → List Int × Nat → Ctl (List Int × Nat) (List Int)
  | 0, s => .next s
  | mf2 + 1, (newslice2, k27_2) => (bif decide ((k27_2 : Int) < (s.length : Int)) then F_slices_Concat_Sint_int_L2 s mf2 ((newslice2 ++ (s.getD k27_2 [])), (k27_2 + 1)) else (.next (newslice2, k27_2)))
theorem F_slices_Concat_Sint_int_L2_s (s : List (List Int)) (newslice2 : List Int) (k27_2 : Nat) (mf2 : Nat) : F_slices_Concat_Sint_int_L2 s (mf2 + 1) (newslice2, k27_2) = (bif decide ((k27_2 : Int) < (s.length : Int)) then F_slices_Concat_Sint_int_L2 s mf2 ((newslice2 ++ (s.getD k27_2 [])), (k27_2 + 1)) else (.next (newslice2, k27_2))) := rfl
def F_slices_Concat_Sint_int (s : List (List Int)) : List Int := ((F_slices_Concat_Sint_int_L1 s ((s.length - 0) + 1) (0, 0)).elim (fun (_, _) => ((F_slices_Concat_Sint_int_L2 s ((s.length - 0) + 1) (([] : List Int), 0)).elim (fun (newslice2, _) => newslice2) (fun r => r))) (fun r => r))

def F_impl_flowOf_L2 (m : List (List Int)) (a : List Int) (reqs : List Int) (k24_1 : Nat) : Nat → Nat × List Int → Ctl (Nat × List Int) (Int × List (List Int))
  | 0, s => .next s
  | mf2 + 1, (k40_2, m0_2) => (bif decide ((k40_2 : Int) < ((((F_slices_Concat_Sint_int ([a, reqs])).take (a.length + k24_1)).drop 0).length : Int)) then F_impl_flowOf_L2 m a reqs k24_1 mf2 ((k40_2 + 1), (m0_2.set k40_2 ((m.getD ((((((F_slices_Concat_Sint_int ([a, reqs])).take (a.length + k24_1)).drop 0).getD k40_2 0)).toNat) []).getD (((reqs.getD k24_1 0)).toNat) 0))) else (.next (k40_2, m0_2)))
theorem F_impl_flowOf_L2_s (m : List (List Int)) (a : List Int) (reqs : List Int) (k24_1 : Nat) (k40_2 : Nat) (m0_2 : List Int) (mf2 : Nat) : F_impl_flowOf_L2 m a reqs k24_1 (mf2 + 1) (k40_2, m0_2) = (bif decide ((k40_2 : Int) < ((((F_slices_Concat_Sint_int ([a, reqs])).take (a.length + k24_1)).drop 0).length : Int)) then F_impl_flowOf_L2 m a reqs k24_1 mf2 ((k40_2 + 1), (m0_2.set k40_2 ((m.getD ((((((F_slices_Concat_Sint_int ([a, reqs])).take (a.length + k24_1)).drop 0).getD k40_2 0)).toNat) []).getD (((reqs.getD k24_1 0)).toNat) 0))) else (.next (k40_2, m0_2))) := rfl
def F_impl_flowOf_L1 (m : List (List Int)) (a : List Int) (reqs : List Int) : Nat → Nat × List (List Int) → Ctl (Nat × List (List Int)) (Int × List (List Int))
  | 0, s => .next s
  | mf1 + 1, (k24_1, zg1_3_1_1) => (bif decide ((k24_1 : Int) < (reqs.length : Int)) then ((F_impl_flowOf_L2 m a reqs k24_1 ((((((F_slices_Concat_Sint_int ([a, reqs])).take (a.length + k24_1)).drop 0).length) - 0) + 1) (0, (F_slices_Repeat_Sint_int ([1073741824]) ((F_slices_Concat_Sint_int ([a, reqs])).length : Int)))).elim (fun (_, m0_2) => F_impl_flowOf_L1 m a reqs mf1 ((k24_1 + 1), (zg1_3_1_1 ++ [m0_2]))) (fun r => .ret r)) else (.next (k24_1, zg1_3_1_1)))
theorem F_impl_flowOf_L1_s (m : List (List Int)) (a : List Int) (reqs : List Int) (k24_1 : Nat) (zg1_3_1_1 : List (List Int)) (mf1 : Nat) : F_impl_flowOf_L1 m a reqs (mf1 + 1) (k24_1, zg1_3_1_1) = (bif decide ((k24_1 : Int) < (reqs.length : Int)) then ((F_impl_flowOf_L2 m a reqs k24_1 ((((((F_slices_Concat_Sint_int ([a, reqs])).take (a.length + k24_1)).drop 0).length) - 0) + 1) (0, (F_slices_Repeat_Sint_int ([1073741824]) ((F_slices_Concat_Sint_int ([a, reqs])).length : Int)))).elim (fun (_, m0_2) => F_impl_flowOf_L1 m a reqs mf1 ((k24_1 + 1), (zg1_3_1_1 ++ [m0_2]))) (fun r => .ret r)) else (.next (k24_1, zg1_3_1_1))) := rfl
def F_impl_flowOf (m : List (List Int)) (a : List Int) (reqs : List Int) : Int × List (List Int) := ((F_impl_flowOf_L1 m a reqs ((reqs.length - 0) + 1) (0, ([]))).elim (fun (_, zg1_3_1_1) => ((a.length : Int), zg1_3_1_1)) (fun r => r))

def F_spec_l7Point (a : List Int) (reqs : List Int) (l : Int) : Int := (bif decide (l < (a.length : Int)) then (a.getD ((l).toNat) 0) else (reqs.getD ((l - (a.length : Int)).toNat) 0))

def F_spec_l7Gap (m : List (List Int)) (a : List Int) (reqs : List Int) (l : Int) (i : Int) : Int := ((m.getD (((F_spec_l7Point a reqs l)).toNat) []).getD (((reqs.getD ((i).toNat) 0)).toNat) 0)


end Go.Proofs.Ytgnikdpgndmldaa
namespace Go.Proofs.Ytgnikdpgndmldaa
set_option linter.unusedVariables false
set_option linter.unusedSimpArgs false
open Go Go.RowKit
set_option linter.unusedVariables false

def F_spec_l7Holders_L1 (many : Int) : Nat → Nat × List Int → Ctl (Nat × List Int) (List Int)
  | 0, s => .next s
  | mf1 + 1, (l1, out1) => (bif decide ((l1 : Int) < many) then F_spec_l7Holders_L1 many mf1 ((l1 + 1), (out1.set l1 (-1))) else (.next (l1, out1)))
theorem F_spec_l7Holders_L1_s (many : Int) (l1 : Nat) (out1 : List Int) (mf1 : Nat) : F_spec_l7Holders_L1 many (mf1 + 1) (l1, out1) = (bif decide ((l1 : Int) < many) then F_spec_l7Holders_L1 many mf1 ((l1 + 1), (out1.set l1 (-1))) else (.next (l1, out1))) := rfl
def F_spec_l7Holders_L2 (before : List Int) : Nat → Nat × List Int → Ctl (Nat × List Int) (List Int)
  | 0, s => .next s
  | mf2 + 1, (i2, out2) => (bif decide ((i2 : Int) < (before.length : Int)) then F_spec_l7Holders_L2 before mf2 ((i2 + 1), (out2.set (((before.getD i2 0)).toNat) (i2 : Int))) else (.next (i2, out2)))
theorem F_spec_l7Holders_L2_s (before : List Int) (i2 : Nat) (out2 : List Int) (mf2 : Nat) : F_spec_l7Holders_L2 before (mf2 + 1) (i2, out2) = (bif decide ((i2 : Int) < (before.length : Int)) then F_spec_l7Holders_L2 before mf2 ((i2 + 1), (out2.set (((before.getD i2 0)).toNat) (i2 : Int))) else (.next (i2, out2))) := rfl
def F_spec_l7Holders (many : Int) (before : List Int) : List Int := ((F_spec_l7Holders_L1 many ((((many).toNat) - 0) + 1) (0, (List.replicate ((many).toNat) (0 : Int)))).elim (fun (_, out1) => ((F_spec_l7Holders_L2 before ((before.length - 0) + 1) (0, out1)).elim (fun (_, out2) => out2) (fun r => r))) (fun r => r))

def F_spec_l7Reach_L1 (before : List Int) : Nat → Nat × List Int → Ctl (Nat × List Int) (List Int × List Int)
  | 0, s => .next s
  | mf1 + 1, (k15_1, m0_1) => (bif decide ((k15_1 : Int) < (before.length : Int)) then F_spec_l7Reach_L1 before mf1 ((k15_1 + 1), (m0_1.set k15_1 1099511627776)) else (.next (k15_1, m0_1)))
theorem F_spec_l7Reach_L1_s (before : List Int) (k15_1 : Nat) (m0_1 : List Int) (mf1 : Nat) : F_spec_l7Reach_L1 before (mf1 + 1) (k15_1, m0_1) = (bif decide ((k15_1 : Int) < (before.length : Int)) then F_spec_l7Reach_L1 before mf1 ((k15_1 + 1), (m0_1.set k15_1 1099511627776)) else (.next (k15_1, m0_1))) := rfl
def F_spec_l7Reach_L4 (m : List (List Int)) (a : List Int) (reqs : List Int) (holders : List Int) (k17_3 : Nat) : Nat → Bool × Nat × List Int × List Int → Ctl (Bool × Nat × List Int × List Int) (List Int × List Int)
  | 0, s => .next s
  | mf4 + 1, (k16_4, k18_4, m0_4, m1_4) => (bif ((decide ((k18_4 : Int) < (a.length : Int) + (k17_3 : Int))) && (decide ((m1_4.getD k17_3 0) < 1099511627776))) then (bif ((decide (0 ≤ (holders.getD k18_4 0))) && (decide (((m1_4.getD k17_3 0) + (F_spec_l7Gap m a reqs (k18_4 : Int) (k17_3 : Int))) - (F_spec_l7Gap m a reqs (k18_4 : Int) (holders.getD k18_4 0)) < (m1_4.getD (((holders.getD k18_4 0)).toNat) 0)))) then F_spec_l7Reach_L4 m a reqs holders k17_3 mf4 (true, (k18_4 + 1), (m0_4.set (((holders.getD k18_4 0)).toNat) (k17_3 : Int)), (m1_4.set (((holders.getD k18_4 0)).toNat) (((m1_4.getD k17_3 0) + (F_spec_l7Gap m a reqs (k18_4 : Int) (k17_3 : Int))) - (F_spec_l7Gap m a reqs (k18_4 : Int) (holders.getD k18_4 0))))) else F_spec_l7Reach_L4 m a reqs holders k17_3 mf4 (k16_4, (k18_4 + 1), m0_4, m1_4)) else (.next (k16_4, k18_4, m0_4, m1_4)))
theorem F_spec_l7Reach_L4_s (m : List (List Int)) (a : List Int) (reqs : List Int) (holders : List Int) (k17_3 : Nat) (k16_4 : Bool) (k18_4 : Nat) (m0_4 : List Int) (m1_4 : List Int) (mf4 : Nat) : F_spec_l7Reach_L4 m a reqs holders k17_3 (mf4 + 1) (k16_4, k18_4, m0_4, m1_4) = (bif ((decide ((k18_4 : Int) < (a.length : Int) + (k17_3 : Int))) && (decide ((m1_4.getD k17_3 0) < 1099511627776))) then (bif ((decide (0 ≤ (holders.getD k18_4 0))) && (decide (((m1_4.getD k17_3 0) + (F_spec_l7Gap m a reqs (k18_4 : Int) (k17_3 : Int))) - (F_spec_l7Gap m a reqs (k18_4 : Int) (holders.getD k18_4 0)) < (m1_4.getD (((holders.getD k18_4 0)).toNat) 0)))) then F_spec_l7Reach_L4 m a reqs holders k17_3 mf4 (true, (k18_4 + 1), (m0_4.set (((holders.getD k18_4 0)).toNat) (k17_3 : Int)), (m1_4.set (((holders.getD k18_4 0)).toNat) (((m1_4.getD k17_3 0) + (F_spec_l7Gap m a reqs (k18_4 : Int) (k17_3 : Int))) - (F_spec_l7Gap m a reqs (k18_4 : Int) (holders.getD k18_4 0))))) else F_spec_l7Reach_L4 m a reqs holders k17_3 mf4 (k16_4, (k18_4 + 1), m0_4, m1_4)) else (.next (k16_4, k18_4, m0_4, m1_4))) := rfl
def F_spec_l7Reach_L3 (m : List (List Int)) (a : List Int) (reqs : List Int) (before : List Int) (holders : List Int) : Nat → Bool × Nat × List Int × List Int → Ctl (Bool × Nat × List Int × List Int) (List Int × List Int)
  | 0, s => .next s
  | mf3 + 1, (k16_3, k17_3, m0_3, m1_3) => (bif decide ((k17_3 : Int) ≤ (before.length : Int)) then ((F_spec_l7Reach_L4 m a reqs holders k17_3 ((a.length + k17_3 - 0) + 1) (k16_3, 0, m0_3, m1_3)).elim (fun (k16_4, _, m0_4, m1_4) => F_spec_l7Reach_L3 m a reqs before holders mf3 (k16_4, (k17_3 + 1), m0_4, m1_4)) (fun r => .ret r)) else (.next (k16_3, k17_3, m0_3, m1_3)))
theorem F_spec_l7Reach_L3_s (m : List (List Int)) (a : List Int) (reqs : List Int) (before : List Int) (holders : List Int) (k16_3 : Bool) (k17_3 : Nat) (m0_3 : List Int) (m1_3 : List Int) (mf3 : Nat) : F_spec_l7Reach_L3 m a reqs before holders (mf3 + 1) (k16_3, k17_3, m0_3, m1_3) = (bif decide ((k17_3 : Int) ≤ (before.length : Int)) then ((F_spec_l7Reach_L4 m a reqs holders k17_3 ((a.length + k17_3 - 0) + 1) (k16_3, 0, m0_3, m1_3)).elim (fun (k16_4, _, m0_4, m1_4) => F_spec_l7Reach_L3 m a reqs before holders mf3 (k16_4, (k17_3 + 1), m0_4, m1_4)) (fun r => .ret r)) else (.next (k16_3, k17_3, m0_3, m1_3))) := rfl
def F_spec_l7Reach_L2 (m : List (List Int)) (a : List Int) (reqs : List Int) (before : List Int) (holders : List Int) : Nat → Bool × List Int × List Int → Ctl (Bool × List Int × List Int) (List Int × List Int)
  | 0, s => .next s
  | mf2 + 1, (k16_2, m0_2, m1_2) => (bif k16_2 then ((F_spec_l7Reach_L3 m a reqs before holders ((before.length + 1 - 0) + 1) (false, 0, m0_2, m1_2)).elim (fun (k16_3, _, m0_3, m1_3) => F_spec_l7Reach_L2 m a reqs before holders mf2 (k16_3, m0_3, m1_3)) (fun r => .ret r)) else (.next (k16_2, m0_2, m1_2)))
theorem F_spec_l7Reach_L2_s (m : List (List Int)) (a : List Int) (reqs : List Int) (before : List Int) (holders : List Int) (k16_2 : Bool) (m0_2 : List Int) (m1_2 : List Int) (mf2 : Nat) : F_spec_l7Reach_L2 m a reqs before holders (mf2 + 1) (k16_2, m0_2, m1_2) = (bif k16_2 then ((F_spec_l7Reach_L3 m a reqs before holders ((before.length + 1 - 0) + 1) (false, 0, m0_2, m1_2)).elim (fun (k16_3, _, m0_3, m1_3) => F_spec_l7Reach_L2 m a reqs before holders mf2 (k16_3, m0_3, m1_3)) (fun r => .ret r)) else (.next (k16_2, m0_2, m1_2))) := rfl
def F_spec_l7Reach (m : List (List Int)) (a : List Int) (reqs : List Int) (before : List Int) (holders : List Int) : List Int × List Int := ((F_spec_l7Reach_L1 before ((before.length - 0) + 1) (0, (List.replicate (before.length + 1) (0 : Int)))).elim (fun (_, m0_1) => ((F_spec_l7Reach_L2 m a reqs before holders ((2 * (Th.lsum m0_1 + 1000000).toNat + (bif true then 1 else 0)) + 1) (true, (List.replicate (before.length + 1) (0 : Int)), m0_1)).elim (fun (_, m0_2, m1_2) => (m1_2, m0_2)) (fun r => r))) (fun r => r))

def F_spec_l7Add_L2 (m : List (List Int)) (a : List Int) (reqs : List Int) (before : List Int) (k16_1 : Nat) : Nat → Int × Nat × Nat × Nat → Ctl (Int × Nat × Nat × Nat) (List Int)
  | 0, s => .next s
  | mf2 + 1, (k13_2, k14_2, k15_2, k17_2) => (bif decide ((k17_2 : Int) < (a.length : Int) + (k16_1 : Int)) then (bif ((decide (((F_spec_l7Holders ((a.length : Int) + (before.length : Int)) before).getD k17_2 0) < 0)) && (decide (((F_spec_l7Reach m a reqs before (F_spec_l7Holders ((a.length : Int) + (before.length : Int)) before)).1.getD k16_1 0) + (F_spec_l7Gap m a reqs (k17_2 : Int) (k16_1 : Int)) < k13_2))) then F_spec_l7Add_L2 m a reqs before k16_1 mf2 ((((F_spec_l7Reach m a reqs before (F_spec_l7Holders ((a.length : Int) + (before.length : Int)) before)).1.getD k16_1 0) + (F_spec_l7Gap m a reqs (k17_2 : Int) (k16_1 : Int))), k16_1, k17_2, (k17_2 + 1)) else F_spec_l7Add_L2 m a reqs before k16_1 mf2 (k13_2, k14_2, k15_2, (k17_2 + 1))) else (.next (k13_2, k14_2, k15_2, k17_2)))
theorem F_spec_l7Add_L2_s (m : List (List Int)) (a : List Int) (reqs : List Int) (before : List Int) (k16_1 : Nat) (k13_2 : Int) (k14_2 : Nat) (k15_2 : Nat) (k17_2 : Nat) (mf2 : Nat) : F_spec_l7Add_L2 m a reqs before k16_1 (mf2 + 1) (k13_2, k14_2, k15_2, k17_2) = (bif decide ((k17_2 : Int) < (a.length : Int) + (k16_1 : Int)) then (bif ((decide (((F_spec_l7Holders ((a.length : Int) + (before.length : Int)) before).getD k17_2 0) < 0)) && (decide (((F_spec_l7Reach m a reqs before (F_spec_l7Holders ((a.length : Int) + (before.length : Int)) before)).1.getD k16_1 0) + (F_spec_l7Gap m a reqs (k17_2 : Int) (k16_1 : Int)) < k13_2))) then F_spec_l7Add_L2 m a reqs before k16_1 mf2 ((((F_spec_l7Reach m a reqs before (F_spec_l7Holders ((a.length : Int) + (before.length : Int)) before)).1.getD k16_1 0) + (F_spec_l7Gap m a reqs (k17_2 : Int) (k16_1 : Int))), k16_1, k17_2, (k17_2 + 1)) else F_spec_l7Add_L2 m a reqs before k16_1 mf2 (k13_2, k14_2, k15_2, (k17_2 + 1))) else (.next (k13_2, k14_2, k15_2, k17_2))) := rfl
def F_spec_l7Add_L1 (m : List (List Int)) (a : List Int) (reqs : List Int) (before : List Int) : Nat → Int × Nat × Nat × Nat → Ctl (Int × Nat × Nat × Nat) (List Int)
  | 0, s => .next s
  | mf1 + 1, (k13_1, k14_1, k15_1, k16_1) => (bif decide ((k16_1 : Int) ≤ (before.length : Int)) then ((F_spec_l7Add_L2 m a reqs before k16_1 (((((a.length : Int) + (k16_1 : Int)).toNat) - 0) + 1) (k13_1, k14_1, k15_1, 0)).elim (fun (k13_2, k14_2, k15_2, _) => F_spec_l7Add_L1 m a reqs before mf1 (k13_2, k14_2, k15_2, (k16_1 + 1))) (fun r => .ret r)) else (.next (k13_1, k14_1, k15_1, k16_1)))
theorem F_spec_l7Add_L1_s (m : List (List Int)) (a : List Int) (reqs : List Int) (before : List Int) (k13_1 : Int) (k14_1 : Nat) (k15_1 : Nat) (k16_1 : Nat) (mf1 : Nat) : F_spec_l7Add_L1 m a reqs before (mf1 + 1) (k13_1, k14_1, k15_1, k16_1) = (bif decide ((k16_1 : Int) ≤ (before.length : Int)) then ((F_spec_l7Add_L2 m a reqs before k16_1 (((((a.length : Int) + (k16_1 : Int)).toNat) - 0) + 1) (k13_1, k14_1, k15_1, 0)).elim (fun (k13_2, k14_2, k15_2, _) => F_spec_l7Add_L1 m a reqs before mf1 (k13_2, k14_2, k15_2, (k16_1 + 1))) (fun r => .ret r)) else (.next (k13_1, k14_1, k15_1, k16_1))) := rfl
def F_spec_l7Add_L3 (m : List (List Int)) (a : List Int) (reqs : List Int) (before : List Int) : Nat → Int × Int × List Int → Ctl (Int × Int × List Int) (List Int)
  | 0, s => .next s
  | mf3 + 1, (k14_3, k15_3, m0_3) => (bif !decide (k14_3 = (before.length : Int)) then F_spec_l7Add_L3 m a reqs before mf3 (((F_spec_l7Reach m a reqs before (F_spec_l7Holders ((a.length : Int) + (before.length : Int)) before)).2.getD ((k14_3).toNat) 0), (m0_3.getD ((k14_3).toNat) 0), (m0_3.set ((k14_3).toNat) k15_3)) else (.next (k14_3, k15_3, m0_3)))
theorem F_spec_l7Add_L3_s (m : List (List Int)) (a : List Int) (reqs : List Int) (before : List Int) (k14_3 : Int) (k15_3 : Int) (m0_3 : List Int) (mf3 : Nat) : F_spec_l7Add_L3 m a reqs before (mf3 + 1) (k14_3, k15_3, m0_3) = (bif !decide (k14_3 = (before.length : Int)) then F_spec_l7Add_L3 m a reqs before mf3 (((F_spec_l7Reach m a reqs before (F_spec_l7Holders ((a.length : Int) + (before.length : Int)) before)).2.getD ((k14_3).toNat) 0), (m0_3.getD ((k14_3).toNat) 0), (m0_3.set ((k14_3).toNat) k15_3)) else (.next (k14_3, k15_3, m0_3))) := rfl
def F_spec_l7Add (m : List (List Int)) (a : List Int) (reqs : List Int) (before : List Int) : List Int := ((F_spec_l7Add_L1 m a reqs before ((before.length + 1 - 0) + 1) (1099511627776, 0, 0, 0)).elim (fun (_, k14_1, k15_1, _) => ((F_spec_l7Add_L3 m a reqs before ((Th.dep before.length (F_spec_l7Reach m a reqs before (F_spec_l7Holders ((a.length : Int) + (before.length : Int)) before)).2 (before.length + 1) (k14_1 : Int).toNat) + 1) ((k14_1 : Int), (k15_1 : Int), (before ++ ([0])))).elim (fun (_, k15_3, m0_3) => (m0_3.set before.length k15_3)) (fun r => r))) (fun r => r))

def F_spec_l7Flow_L1 (m : List (List Int)) (a : List Int) (reqs : List Int) : Nat → List Int → Ctl (List Int) (List Int)
  | 0, s => .next s
  | mf1 + 1, out1 => (bif decide ((out1.length : Int) < (reqs.length : Int)) then F_spec_l7Flow_L1 m a reqs mf1 (F_spec_l7Add m a reqs out1) else (.next out1))
theorem F_spec_l7Flow_L1_s (m : List (List Int)) (a : List Int) (reqs : List Int) (out1 : List Int) (mf1 : Nat) : F_spec_l7Flow_L1 m a reqs (mf1 + 1) out1 = (bif decide ((out1.length : Int) < (reqs.length : Int)) then F_spec_l7Flow_L1 m a reqs mf1 (F_spec_l7Add m a reqs out1) else (.next out1)) := rfl
def F_spec_l7Flow (m : List (List Int)) (a : List Int) (reqs : List Int) : List Int := ((F_spec_l7Flow_L1 m a reqs ((reqs.length - ([] : List Int).length) + 1) ([] : List Int)).elim (fun out1 => out1) (fun r => r))

def F_spec_l7Cost_L1 (m : List (List Int)) (a : List Int) (reqs : List Int) (before : List Int) : Nat → Int × Nat → Ctl (Int × Nat) (Int)
  | 0, s => .next s
  | mf1 + 1, (sum1, i1) => (bif decide ((i1 : Int) < (before.length : Int)) then F_spec_l7Cost_L1 m a reqs before mf1 ((sum1 + (F_spec_l7Gap m a reqs (before.getD i1 0) (i1 : Int))), (i1 + 1)) else (.next (sum1, i1)))
theorem F_spec_l7Cost_L1_s (m : List (List Int)) (a : List Int) (reqs : List Int) (before : List Int) (sum1 : Int) (i1 : Nat) (mf1 : Nat) : F_spec_l7Cost_L1 m a reqs before (mf1 + 1) (sum1, i1) = (bif decide ((i1 : Int) < (before.length : Int)) then F_spec_l7Cost_L1 m a reqs before mf1 ((sum1 + (F_spec_l7Gap m a reqs (before.getD i1 0) (i1 : Int))), (i1 + 1)) else (.next (sum1, i1))) := rfl
def F_spec_l7Cost (m : List (List Int)) (a : List Int) (reqs : List Int) (before : List Int) : Int := ((F_spec_l7Cost_L1 m a reqs before ((before.length - 0) + 1) (0, 0)).elim (fun (sum1, _) => sum1) (fun r => r))

def F_spec_FlowCost (m : List (List Int)) (a : List Int) (reqs : List Int) : Int × Bool := (bif ((!(F_spec_l6Good m)) || (!(F_spec_l6Start m a reqs))) then (0, false) else ((F_spec_l7Cost m a reqs (F_spec_l7Flow m a reqs)), true))


end Go.Proofs.Ytgnikdpgndmldaa
namespace Go.Proofs.Ytgnikdpgndmldaa
set_option linter.unusedVariables false
set_option linter.unusedSimpArgs false
open Go Go.RowKit
set_option linter.unusedVariables false

def F_impl_assigned_L3 (costs : List (List Int)) (k9_1 : Nat) (m0_1 : List Int) (k10_2 : Nat) (m0_2 : List Bool) (m3_2 : List Int) (m4_2 : List Int) : Nat → Int × Nat × Nat × List Int × List Int → Ctl (Int × Nat × Nat × List Int × List Int) (List Int × Int)
  | 0, s => .next s
  | mf3 + 1, (k15_3, k16_3, k17_3, m0_3, m1_3) => (bif decide ((k17_3 : Int) ≤ ((costs.getD 0 []).length : Int)) then (bif ((m0_2.set k10_2 true).getD k17_3 false) then F_impl_assigned_L3 costs k9_1 m0_1 k10_2 m0_2 m3_2 m4_2 mf3 (k15_3, k16_3, (k17_3 + 1), m0_3, m1_3) else (bif decide ((((costs.getD ((((m0_1.set 0 (k9_1 : Int)).getD k10_2 0) - 1).toNat) []).getD (((k17_3 : Int) - 1).toNat) 0) - (m4_2.getD ((((m0_1.set 0 (k9_1 : Int)).getD k10_2 0)).toNat) 0)) - (m3_2.getD k17_3 0) < (m0_3.getD k17_3 0)) then (bif decide (((m0_3.set k17_3 ((((costs.getD ((((m0_1.set 0 (k9_1 : Int)).getD k10_2 0) - 1).toNat) []).getD (((k17_3 : Int) - 1).toNat) 0) - (m4_2.getD ((((m0_1.set 0 (k9_1 : Int)).getD k10_2 0)).toNat) 0)) - (m3_2.getD k17_3 0))).getD k17_3 0) < k15_3) then F_impl_assigned_L3 costs k9_1 m0_1 k10_2 m0_2 m3_2 m4_2 mf3 (((m0_3.set k17_3 ((((costs.getD ((((m0_1.set 0 (k9_1 : Int)).getD k10_2 0) - 1).toNat) []).getD (((k17_3 : Int) - 1).toNat) 0) - (m4_2.getD ((((m0_1.set 0 (k9_1 : Int)).getD k10_2 0)).toNat) 0)) - (m3_2.getD k17_3 0))).getD k17_3 0), k17_3, (k17_3 + 1), (m0_3.set k17_3 ((((costs.getD ((((m0_1.set 0 (k9_1 : Int)).getD k10_2 0) - 1).toNat) []).getD (((k17_3 : Int) - 1).toNat) 0) - (m4_2.getD ((((m0_1.set 0 (k9_1 : Int)).getD k10_2 0)).toNat) 0)) - (m3_2.getD k17_3 0))), (m1_3.set k17_3 (k10_2 : Int))) else F_impl_assigned_L3 costs k9_1 m0_1 k10_2 m0_2 m3_2 m4_2 mf3 (k15_3, k16_3, (k17_3 + 1), (m0_3.set k17_3 ((((costs.getD ((((m0_1.set 0 (k9_1 : Int)).getD k10_2 0) - 1).toNat) []).getD (((k17_3 : Int) - 1).toNat) 0) - (m4_2.getD ((((m0_1.set 0 (k9_1 : Int)).getD k10_2 0)).toNat) 0)) - (m3_2.getD k17_3 0))), (m1_3.set k17_3 (k10_2 : Int)))) else (bif decide ((m0_3.getD k17_3 0) < k15_3) then F_impl_assigned_L3 costs k9_1 m0_1 k10_2 m0_2 m3_2 m4_2 mf3 ((m0_3.getD k17_3 0), k17_3, (k17_3 + 1), m0_3, m1_3) else F_impl_assigned_L3 costs k9_1 m0_1 k10_2 m0_2 m3_2 m4_2 mf3 (k15_3, k16_3, (k17_3 + 1), m0_3, m1_3)))) else (.next (k15_3, k16_3, k17_3, m0_3, m1_3)))
theorem F_impl_assigned_L3_s (costs : List (List Int)) (k9_1 : Nat) (m0_1 : List Int) (k10_2 : Nat) (m0_2 : List Bool) (m3_2 : List Int) (m4_2 : List Int) (k15_3 : Int) (k16_3 : Nat) (k17_3 : Nat) (m0_3 : List Int) (m1_3 : List Int) (mf3 : Nat) : F_impl_assigned_L3 costs k9_1 m0_1 k10_2 m0_2 m3_2 m4_2 (mf3 + 1) (k15_3, k16_3, k17_3, m0_3, m1_3) = (bif decide ((k17_3 : Int) ≤ ((costs.getD 0 []).length : Int)) then (bif ((m0_2.set k10_2 true).getD k17_3 false) then F_impl_assigned_L3 costs k9_1 m0_1 k10_2 m0_2 m3_2 m4_2 mf3 (k15_3, k16_3, (k17_3 + 1), m0_3, m1_3) else (bif decide ((((costs.getD ((((m0_1.set 0 (k9_1 : Int)).getD k10_2 0) - 1).toNat) []).getD (((k17_3 : Int) - 1).toNat) 0) - (m4_2.getD ((((m0_1.set 0 (k9_1 : Int)).getD k10_2 0)).toNat) 0)) - (m3_2.getD k17_3 0) < (m0_3.getD k17_3 0)) then (bif decide (((m0_3.set k17_3 ((((costs.getD ((((m0_1.set 0 (k9_1 : Int)).getD k10_2 0) - 1).toNat) []).getD (((k17_3 : Int) - 1).toNat) 0) - (m4_2.getD ((((m0_1.set 0 (k9_1 : Int)).getD k10_2 0)).toNat) 0)) - (m3_2.getD k17_3 0))).getD k17_3 0) < k15_3) then F_impl_assigned_L3 costs k9_1 m0_1 k10_2 m0_2 m3_2 m4_2 mf3 (((m0_3.set k17_3 ((((costs.getD ((((m0_1.set 0 (k9_1 : Int)).getD k10_2 0) - 1).toNat) []).getD (((k17_3 : Int) - 1).toNat) 0) - (m4_2.getD ((((m0_1.set 0 (k9_1 : Int)).getD k10_2 0)).toNat) 0)) - (m3_2.getD k17_3 0))).getD k17_3 0), k17_3, (k17_3 + 1), (m0_3.set k17_3 ((((costs.getD ((((m0_1.set 0 (k9_1 : Int)).getD k10_2 0) - 1).toNat) []).getD (((k17_3 : Int) - 1).toNat) 0) - (m4_2.getD ((((m0_1.set 0 (k9_1 : Int)).getD k10_2 0)).toNat) 0)) - (m3_2.getD k17_3 0))), (m1_3.set k17_3 (k10_2 : Int))) else F_impl_assigned_L3 costs k9_1 m0_1 k10_2 m0_2 m3_2 m4_2 mf3 (k15_3, k16_3, (k17_3 + 1), (m0_3.set k17_3 ((((costs.getD ((((m0_1.set 0 (k9_1 : Int)).getD k10_2 0) - 1).toNat) []).getD (((k17_3 : Int) - 1).toNat) 0) - (m4_2.getD ((((m0_1.set 0 (k9_1 : Int)).getD k10_2 0)).toNat) 0)) - (m3_2.getD k17_3 0))), (m1_3.set k17_3 (k10_2 : Int)))) else (bif decide ((m0_3.getD k17_3 0) < k15_3) then F_impl_assigned_L3 costs k9_1 m0_1 k10_2 m0_2 m3_2 m4_2 mf3 ((m0_3.getD k17_3 0), k17_3, (k17_3 + 1), m0_3, m1_3) else F_impl_assigned_L3 costs k9_1 m0_1 k10_2 m0_2 m3_2 m4_2 mf3 (k15_3, k16_3, (k17_3 + 1), m0_3, m1_3)))) else (.next (k15_3, k16_3, k17_3, m0_3, m1_3))) := rfl
def F_impl_assigned_L4 (k9_1 : Nat) (m0_1 : List Int) (k10_2 : Nat) (m0_2 : List Bool) (k15_3 : Int) : Nat → Nat × List Int × List Int × List Int → Ctl (Nat × List Int × List Int × List Int) (List Int × Int)
  | 0, s => .next s
  | mf4 + 1, (k121_4, m0_4, m1_4, m2_4) => (bif decide ((k121_4 : Int) < ((m0_2.set k10_2 true).length : Int)) then (bif ((m0_2.set k10_2 true).getD k121_4 false) then F_impl_assigned_L4 k9_1 m0_1 k10_2 m0_2 k15_3 mf4 ((k121_4 + 1), (m0_4.set k121_4 ((m0_4.getD k121_4 0) - k15_3)), (m1_4.set ((((m0_1.set 0 (k9_1 : Int)).getD k121_4 0)).toNat) ((m1_4.getD ((((m0_1.set 0 (k9_1 : Int)).getD k121_4 0)).toNat) 0) + k15_3)), m2_4) else F_impl_assigned_L4 k9_1 m0_1 k10_2 m0_2 k15_3 mf4 ((k121_4 + 1), m0_4, m1_4, (m2_4.set k121_4 ((m2_4.getD k121_4 0) - k15_3)))) else (.next (k121_4, m0_4, m1_4, m2_4)))
theorem F_impl_assigned_L4_s (k9_1 : Nat) (m0_1 : List Int) (k10_2 : Nat) (m0_2 : List Bool) (k15_3 : Int) (k121_4 : Nat) (m0_4 : List Int) (m1_4 : List Int) (m2_4 : List Int) (mf4 : Nat) : F_impl_assigned_L4 k9_1 m0_1 k10_2 m0_2 k15_3 (mf4 + 1) (k121_4, m0_4, m1_4, m2_4) = (bif decide ((k121_4 : Int) < ((m0_2.set k10_2 true).length : Int)) then (bif ((m0_2.set k10_2 true).getD k121_4 false) then F_impl_assigned_L4 k9_1 m0_1 k10_2 m0_2 k15_3 mf4 ((k121_4 + 1), (m0_4.set k121_4 ((m0_4.getD k121_4 0) - k15_3)), (m1_4.set ((((m0_1.set 0 (k9_1 : Int)).getD k121_4 0)).toNat) ((m1_4.getD ((((m0_1.set 0 (k9_1 : Int)).getD k121_4 0)).toNat) 0) + k15_3)), m2_4) else F_impl_assigned_L4 k9_1 m0_1 k10_2 m0_2 k15_3 mf4 ((k121_4 + 1), m0_4, m1_4, (m2_4.set k121_4 ((m2_4.getD k121_4 0) - k15_3)))) else (.next (k121_4, m0_4, m1_4, m2_4))) := rfl
def F_impl_assigned_L2 (costs : List (List Int)) (k9_1 : Nat) (m0_1 : List Int) : Nat → Nat × List Bool × List Int × List Int × List Int × List Int → Ctl (Nat × List Bool × List Int × List Int × List Int × List Int) (List Int × Int)
  | 0, s => .next s
  | mf2 + 1, (k10_2, m0_2, m1_2, m2_2, m3_2, m4_2) => ((F_impl_assigned_L3 costs k9_1 m0_1 k10_2 m0_2 m3_2 m4_2 (((costs.getD 0 []).length + 1 - 1) + 1) (1152921504606846976, 0, 1, m1_2, m2_2)).elim (fun (k15_3, k16_3, _, m0_3, m1_3) => ((F_impl_assigned_L4 k9_1 m0_1 k10_2 m0_2 k15_3 ((((m0_2.set k10_2 true).length) - 0) + 1) (0, m3_2, m4_2, m0_3)).elim (fun (_, m0_4, m1_4, m2_4) => (bif decide (((m0_1.set 0 (k9_1 : Int)).getD k16_3 0) = 0) then (.next (k16_3, (m0_2.set k10_2 true), m2_4, m1_3, m0_4, m1_4)) else F_impl_assigned_L2 costs k9_1 m0_1 mf2 (k16_3, (m0_2.set k10_2 true), m2_4, m1_3, m0_4, m1_4))) (fun r => .ret r))) (fun r => .ret r))
theorem F_impl_assigned_L2_s (costs : List (List Int)) (k9_1 : Nat) (m0_1 : List Int) (k10_2 : Nat) (m0_2 : List Bool) (m1_2 : List Int) (m2_2 : List Int) (m3_2 : List Int) (m4_2 : List Int) (mf2 : Nat) : F_impl_assigned_L2 costs k9_1 m0_1 (mf2 + 1) (k10_2, m0_2, m1_2, m2_2, m3_2, m4_2) = ((F_impl_assigned_L3 costs k9_1 m0_1 k10_2 m0_2 m3_2 m4_2 (((costs.getD 0 []).length + 1 - 1) + 1) (1152921504606846976, 0, 1, m1_2, m2_2)).elim (fun (k15_3, k16_3, _, m0_3, m1_3) => ((F_impl_assigned_L4 k9_1 m0_1 k10_2 m0_2 k15_3 ((((m0_2.set k10_2 true).length) - 0) + 1) (0, m3_2, m4_2, m0_3)).elim (fun (_, m0_4, m1_4, m2_4) => (bif decide (((m0_1.set 0 (k9_1 : Int)).getD k16_3 0) = 0) then (.next (k16_3, (m0_2.set k10_2 true), m2_4, m1_3, m0_4, m1_4)) else F_impl_assigned_L2 costs k9_1 m0_1 mf2 (k16_3, (m0_2.set k10_2 true), m2_4, m1_3, m0_4, m1_4))) (fun r => .ret r))) (fun r => .ret r)) := rfl
def F_impl_assigned_L5 (m2_2 : List Int) : Nat → Int × List Int → Ctl (Int × List Int) (List Int × Int)
  | 0, s => .next s
  | mf5 + 1, (k10_5, m0_5) => (bif !decide (k10_5 = 0) then F_impl_assigned_L5 m2_2 mf5 ((m2_2.getD ((k10_5).toNat) 0), (m0_5.set ((k10_5).toNat) (m0_5.getD (((m2_2.getD ((k10_5).toNat) 0)).toNat) 0))) else (.next (k10_5, m0_5)))
theorem F_impl_assigned_L5_s (m2_2 : List Int) (k10_5 : Int) (m0_5 : List Int) (mf5 : Nat) : F_impl_assigned_L5 m2_2 (mf5 + 1) (k10_5, m0_5) = (bif !decide (k10_5 = 0) then F_impl_assigned_L5 m2_2 mf5 ((m2_2.getD ((k10_5).toNat) 0), (m0_5.set ((k10_5).toNat) (m0_5.getD (((m2_2.getD ((k10_5).toNat) 0)).toNat) 0))) else (.next (k10_5, m0_5))) := rfl
def F_impl_assigned_L1 (costs : List (List Int)) : Nat → Nat × List Int × List Int × List Int → Ctl (Nat × List Int × List Int × List Int) (List Int × Int)
  | 0, s => .next s
  | mf1 + 1, (k9_1, m0_1, m1_1, m2_1) => (bif decide ((k9_1 : Int) ≤ (costs.length : Int)) then ((F_impl_assigned_L2 costs k9_1 m0_1 (((costs.getD 0 []).length + 1 - (List.replicate ((costs.getD 0 []).length + 1) false).countP id) + 1) (0, (List.replicate ((costs.getD 0 []).length + 1) false), (F_slices_Repeat_Sint_int ([1152921504606846976]) (((costs.getD 0 []).length : Int) + 1)), (List.replicate ((costs.getD 0 []).length + 1) (0 : Int)), m1_1, m2_1)).elim (fun (k10_2, _, _, m2_2, m3_2, m4_2) => ((F_impl_assigned_L5 m2_2 ((Th.dep 0 m2_2 ((costs.getD 0 []).length + 1) (k10_2 : Int).toNat) + 1) ((k10_2 : Int), (m0_1.set 0 (k9_1 : Int)))).elim (fun (_, m0_5) => F_impl_assigned_L1 costs mf1 ((k9_1 + 1), m0_5, m3_2, m4_2)) (fun r => .ret r))) (fun r => .ret r)) else (.next (k9_1, m0_1, m1_1, m2_1)))
theorem F_impl_assigned_L1_s (costs : List (List Int)) (k9_1 : Nat) (m0_1 : List Int) (m1_1 : List Int) (m2_1 : List Int) (mf1 : Nat) : F_impl_assigned_L1 costs (mf1 + 1) (k9_1, m0_1, m1_1, m2_1) = (bif decide ((k9_1 : Int) ≤ (costs.length : Int)) then ((F_impl_assigned_L2 costs k9_1 m0_1 (((costs.getD 0 []).length + 1 - (List.replicate ((costs.getD 0 []).length + 1) false).countP id) + 1) (0, (List.replicate ((costs.getD 0 []).length + 1) false), (F_slices_Repeat_Sint_int ([1152921504606846976]) (((costs.getD 0 []).length : Int) + 1)), (List.replicate ((costs.getD 0 []).length + 1) (0 : Int)), m1_1, m2_1)).elim (fun (k10_2, _, _, m2_2, m3_2, m4_2) => ((F_impl_assigned_L5 m2_2 ((Th.dep 0 m2_2 ((costs.getD 0 []).length + 1) (k10_2 : Int).toNat) + 1) ((k10_2 : Int), (m0_1.set 0 (k9_1 : Int)))).elim (fun (_, m0_5) => F_impl_assigned_L1 costs mf1 ((k9_1 + 1), m0_5, m3_2, m4_2)) (fun r => .ret r))) (fun r => .ret r)) else (.next (k9_1, m0_1, m1_1, m2_1))) := rfl
def F_impl_assigned_L6 (costs : List (List Int)) (m0_1 : List Int) : Nat → Int × Nat × List Int → Ctl (Int × Nat × List Int) (List Int × Int)
  | 0, s => .next s
  | mf6 + 1, (k21_6, k22_6, m0_6) => (bif decide ((k22_6 : Int) ≤ ((costs.getD 0 []).length : Int)) then (bif decide (0 < (m0_1.getD k22_6 0)) then F_impl_assigned_L6 costs m0_1 mf6 ((k21_6 + ((costs.getD (((m0_1.getD k22_6 0) - 1).toNat) []).getD (((k22_6 : Int) - 1).toNat) 0)), (k22_6 + 1), (m0_6.set (((m0_1.getD k22_6 0) - 1).toNat) ((k22_6 : Int) - 1))) else F_impl_assigned_L6 costs m0_1 mf6 (k21_6, (k22_6 + 1), m0_6)) else (.next (k21_6, k22_6, m0_6)))
theorem F_impl_assigned_L6_s (costs : List (List Int)) (m0_1 : List Int) (k21_6 : Int) (k22_6 : Nat) (m0_6 : List Int) (mf6 : Nat) : F_impl_assigned_L6 costs m0_1 (mf6 + 1) (k21_6, k22_6, m0_6) = (bif decide ((k22_6 : Int) ≤ ((costs.getD 0 []).length : Int)) then (bif decide (0 < (m0_1.getD k22_6 0)) then F_impl_assigned_L6 costs m0_1 mf6 ((k21_6 + ((costs.getD (((m0_1.getD k22_6 0) - 1).toNat) []).getD (((k22_6 : Int) - 1).toNat) 0)), (k22_6 + 1), (m0_6.set (((m0_1.getD k22_6 0) - 1).toNat) ((k22_6 : Int) - 1))) else F_impl_assigned_L6 costs m0_1 mf6 (k21_6, (k22_6 + 1), m0_6)) else (.next (k21_6, k22_6, m0_6))) := rfl
def F_impl_assigned (costs : List (List Int)) : List Int × Int := (bif decide ((costs.length : Int) = 0) then ([], 0) else ((F_impl_assigned_L1 costs ((costs.length + 1 - 1) + 1) (1, (List.replicate ((costs.getD 0 []).length + 1) (0 : Int)), (List.replicate ((costs.getD 0 []).length + 1) (0 : Int)), (List.replicate (costs.length + 1) (0 : Int)))).elim (fun (_, m0_1, _, _) => ((F_impl_assigned_L6 costs m0_1 (((costs.getD 0 []).length + 1 - 1) + 1) (0, 1, (List.replicate costs.length (0 : Int)))).elim (fun (k21_6, _, m0_6) => (m0_6, k21_6)) (fun r => r))) (fun r => r)))


end Go.Proofs.Ytgnikdpgndmldaa
namespace Go.Proofs.Ytgnikdpgndmldaa
set_option linter.unusedVariables false
set_option linter.unusedSimpArgs false
open Go Go.RowKit

/-- Numbers in ascending order. -/
abbrev sortI (xs : List Int) : List Int := xs.mergeSort fun x y => decide (x ≤ y)
/-! sorting -/
def Up (l : List Int) : Prop := l.Pairwise (· ≤ ·)
theorem sortI_perm (l : List Int) : (sortI l).Perm l := List.mergeSort_perm l _
theorem sortI_up (l : List Int) : Up (sortI l) := by
  have := List.pairwise_mergeSort (le := fun (x y : Int) => decide (x ≤ y)) (fun a b c h1 h2 => by simp at *; omega) (fun a b => by simp; omega) l
  exact this.imp (fun h => by simpa using h)
theorem up_unique {a b : List Int} (ha : Up a) (hb : Up b) (h : a.Perm b) : a = b := List.Perm.eq_of_pairwise (fun x y _ _ h1 h2 => by omega) ha hb h
theorem sortI_of {l s : List Int} (hs : Up s) (h : s.Perm l) : sortI l = s := up_unique (sortI_up l) hs ((sortI_perm l).trans h.symm)
theorem sortI_congr {a b : List Int} (h : a.Perm b) : sortI a = sortI b := up_unique (sortI_up a) (sortI_up b) ((sortI_perm a).trans (h.trans (sortI_perm b).symm))
theorem sortI_length (l : List Int) : (sortI l).length = l.length := (sortI_perm l).length_eq
theorem up_getD {l : List Int} : Up l ↔ ∀ i, i + 1 < l.length → l.getD i 0 ≤ l.getD (i + 1) 0 := by
  constructor
  · intro h i hi
    have := List.pairwise_iff_getElem.1 h i (i + 1) (by omega) hi (by omega)
    rw [getD_lt l i 0 (by omega), getD_lt l (i + 1) 0 hi]; exact this
  · intro h
    refine List.pairwise_iff_getElem.2 fun i j hi hj hij => ?_
    have := sorted_le h (j - i) i (by omega)
    rw [show i + (j - i) = j by omega, getD_lt l i 0 hi, getD_lt l j 0 hj] at this
    exact this
theorem mem_getD {l : List Int} {v : Int} : v ∈ l ↔ ∃ i, i < l.length ∧ l.getD i 0 = v := by
  constructor
  · intro h
    obtain ⟨i, hi, rfl⟩ := List.getElem_of_mem h
    exact ⟨i, hi, getD_lt l i 0 hi⟩
  · rintro ⟨i, hi, rfl⟩; exact getD_mem l i 0 hi
theorem insert_up {out : List Int} {x : Int} {k : Nat} (hu : Up out) (hk : k ≤ out.length) (h1 : ∀ j, j < k → out.getD j 0 ≤ x) (h2 : ∀ j, k ≤ j → j < out.length → x ≤ out.getD j 0) : Up ((out.take k ++ [x]) ++ out.drop k) := by
  have ht : ∀ v ∈ out.take k, v ≤ x := fun v hv => by
    obtain ⟨i, hi, rfl⟩ := List.getElem_of_mem hv
    have hi' : i < k := by simp at hi; omega
    have := h1 i hi'
    rw [getD_lt out i 0 (by omega)] at this
    simpa using this
  have hd : ∀ v ∈ out.drop k, x ≤ v := fun v hv => by
    obtain ⟨i, hi, rfl⟩ := List.getElem_of_mem hv
    have hi' : k + i < out.length := by simp at hi; omega
    have := h2 (k + i) (by omega) hi'
    rw [getD_lt out (k + i) 0 hi'] at this
    simpa using this
  unfold Up
  rw [List.pairwise_append, List.pairwise_append]
  refine ⟨⟨List.Pairwise.sublist (List.take_sublist _ _) hu, by simp, fun a ha b hb => ?_⟩, List.Pairwise.sublist (List.drop_sublist _ _) hu, fun a ha b hb => ?_⟩
  · rw [List.mem_singleton.1 hb]; exact ht a ha
  · rcases List.mem_append.1 ha with ha | ha
    · have := ht a ha; have := hd b hb; omega
    · rw [List.mem_singleton.1 ha]; exact hd b hb
/-- A list of numbers of which one has been put for another. -/
theorem set_perm {a : List Int} {i j : Nat} (hi : i < a.length) (hj : j < a.length) (h : a.getD i 0 = a.getD j 0) (r : Int) : (a.set i r).Perm (a.set j r) := by
  rw [List.perm_iff_count]
  intro v
  have h1 := List.count_set (a := r) (b := v) (l := a) (i := i) hi
  have h2 := List.count_set (a := r) (b := v) (l := a) (i := j) hj
  rw [getD_lt a i 0 hi, getD_lt a j 0 hj] at h
  rw [h1, h2, h]

theorem cf_moved {n : Nat} {a : List Int} (h : Cf n a) {k : Nat} {r : Int} (h0 : 0 ≤ r) (hr : r < n) : Cf n (sortI (a.set k r)) ∧ (sortI (a.set k r)).length = a.length := by
  have hl : (sortI (a.set k r)).length = a.length := by rw [sortI_length, List.length_set]
  have h1 := h.n1; have h3 := h.n3
  refine ⟨⟨by omega, by omega, fun i hi => ?_, up_getD.1 (sortI_up _)⟩, hl⟩
  have hm := (sortI_perm (a.set k r)).mem_iff.1 (getD_mem (sortI (a.set k r)) i 0 hi)
  rcases List.mem_or_eq_of_mem_set hm with hm | hm
  · obtain ⟨j, hj, he⟩ := mem_getD.1 hm
    rw [← he]; exact h.el j hj
  · rw [hm]; exact ⟨h0, hr⟩
/-! Repeat -/
theorem repeat_L1 (a : Int) : ∀ fuel n1 s, s.length - n1 < fuel → n1 ≤ s.length → (0 < n1 ∨ s.length = 0) → s.take n1 = List.replicate n1 a →
    ∃ k, F_slices_Repeat_Sint_int_L1 fuel (n1, s) = .next (k, List.replicate s.length a) := by
  intro fuel
  induction fuel with
  | zero => intro n1 s h; omega
  | succ f ih =>
    intro n1 s h h1 h2 h3
    rw [F_slices_Repeat_Sint_int_L1_s]
    by_cases hlt : n1 < s.length
    · rw [bif_pos (decide_eq_true (by omega))]
      have hd1 : ((s.take n1).drop 0).length = n1 := by simp; omega
      have hl : (s.take n1 ++ ((s.take n1).drop 0).take (s.length - n1) ++ s.drop (n1 + (min ((s.take n1).drop 0).length (s.length - n1)))).length = s.length := by simp; omega
      have := ih (n1 + (min ((s.take n1).drop 0).length (s.length - n1))) (s.take n1 ++ ((s.take n1).drop 0).take (s.length - n1) ++ s.drop (n1 + (min ((s.take n1).drop 0).length (s.length - n1)))) (by rw [hl, hd1]; omega) (by rw [hl, hd1]; omega) (by left; omega) (by
        rw [hd1, List.drop_zero, h3, List.take_replicate, List.replicate_append_replicate]
        rw [List.take_left' (by simp; omega)]
        congr 1; omega)
      rw [hl] at this
      exact this
    · rw [bif_neg (decide_eq_false (by omega))]
      have : n1 = s.length := by omega
      subst this
      rw [List.take_length] at h3
      exact ⟨_, by rw [← h3]⟩
theorem repeat_eq (a : Int) (c : Int) (h0 : 0 ≤ c) (h1 : c ≤ 1000000) : F_slices_Repeat_Sint_int [a] c = List.replicate c.toNat a := by
  have hmu := mulU_one (n := ([a] : List Int).length) (c := c) rfl h0 h1
  unfold F_slices_Repeat_Sint_int
  rw [bif_neg (decide_eq_false (by omega)), elim_next]
  rw [bif_neg (by rw [Bool.or_eq_false_iff, decide_eq_false_iff_not, decide_eq_false_iff_not]; omega), elim_next, hmu.2]
  have hlr : (List.replicate c.toNat (0 : Int)).length = c.toNat := List.length_replicate
  have hl : (([a] : List Int).take (List.replicate c.toNat (0 : Int)).length ++ (List.replicate c.toNat (0 : Int)).drop (min ([a] : List Int).length (List.replicate c.toNat (0 : Int)).length)).length = c.toNat := by simp; omega
  obtain ⟨k, hk⟩ := repeat_L1 a _ (min ([a] : List Int).length (List.replicate c.toNat (0 : Int)).length) (([a] : List Int).take (List.replicate c.toNat (0 : Int)).length ++ (List.replicate c.toNat (0 : Int)).drop (min ([a] : List Int).length (List.replicate c.toNat (0 : Int)).length)) (Nat.lt_add_one _) (by rw [hl, hlr]; exact Nat.min_le_right _ _) (by
      rw [hl, hlr]
      have : ([a] : List Int).length = 1 := rfl
      omega) (by
      rw [hlr]
      cases hc : c.toNat with
      | zero => simp
      | succ n => simp)
  rw [hk, elim_next]
  change List.replicate _ a = _
  rw [hl]
end Go.Proofs.Ytgnikdpgndmldaa
namespace Go.Proofs.Ytgnikdpgndmldaa
set_option linter.unusedVariables false
set_option linter.unusedSimpArgs false

/-! where a configuration stands -/
theorem Ks.n {m : List (List Int)} {k : Int} (h : Ks m k) : 1 ≤ m.length ∧ m.length ≤ 6 := ⟨h.tab.n1, h.tab.n6⟩
/-! the next work list, as the program finds it -/
structure Nx (cs ks : List (List Int)) (w : List Int) (r : Int) (out : List Int) : Prop where
  len : out.length = w.length
  far : ∀ i, i < w.length → out.getD i 0 ≤ 1073741824
  low : ∀ i, i < w.length → ∀ q, q < cs.length → F_slices_Contains_Sint_int (cs.getD q []) r = true → out.getD i 0 ≤ w.getD q 0 + (ks.getD q []).getD i 0
  hit : ∀ i, i < w.length → out.getD i 0 = 1073741824 ∨ ∃ q, q < cs.length ∧ F_slices_Contains_Sint_int (cs.getD q []) r = true ∧ out.getD i 0 = w.getD q 0 + (ks.getD q []).getD i 0
/-! the next work list, as the reference finds it -/
theorem getD_app_lt {a : List Int} {v : Int} {i : Nat} (h : i < a.length) : (a ++ [v]).getD i 0 = a.getD i 0 := by
  rw [List.getD_eq_getElem?_getD, List.getD_eq_getElem?_getD, List.getElem?_append_left h]
theorem getD_app_eq {a : List Int} {v : Int} {i : Nat} (h : i = a.length) : (a ++ [v]).getD i 0 = v := by
  subst h; simp
/-! they are the same -/
end Go.Proofs.Ytgnikdpgndmldaa
namespace Go.Proofs.Ytgnikdpgndmldaa
set_option linter.unusedVariables false
set_option linter.unusedSimpArgs false

/-! the first work list -/
/-! a step -/
/-! growth -/
/-! a value -/
/-! the lists -/
def Rws (cs out : List (List Int)) : Prop := ∀ j, j < out.length → (out.getD j []).length = cs.length ∧ ∀ i, 0 ≤ (out.getD j []).getD i 0 ∧ (out.getD j []).getD i 0 ≤ 1073741824
theorem getDD_app_lt {a : List (List Int)} {v : List Int} {i : Nat} (h : i < a.length) : (a ++ [v]).getD i [] = a.getD i [] := by
  rw [List.getD_eq_getElem?_getD, List.getD_eq_getElem?_getD, List.getElem?_append_left h]
theorem getDD_app_eq {a : List (List Int)} {v : List Int} {i : Nat} (h : i = a.length) : (a ++ [v]).getD i [] = v := by
  subst h; simp
theorem Rws.one {cs : List (List Int)} {x : List Int} (h : x.length = cs.length) (hb : ∀ i, 0 ≤ x.getD i 0 ∧ x.getD i 0 ≤ 1073741824) : Rws cs [x] := fun j hj => by
  have : j = 0 := by simpa using hj
  subst this; exact ⟨h, hb⟩
theorem Rws.push {cs out : List (List Int)} (h : Rws cs out) {x : List Int} (hx : x.length = cs.length ∧ ∀ i, 0 ≤ x.getD i 0 ∧ x.getD i 0 ≤ 1073741824) : Rws cs (out ++ [x]) := fun j hj => by
  simp only [List.length_append, List.length_cons, List.length_nil] at hj
  by_cases e : j < out.length
  · rw [getDD_app_lt e]; exact h j e
  · rw [getDD_app_eq (by omega)]; exact hx
theorem Wd.row0 {cs ks : List (List Int)} (h : Wd cs ks) {i : Int} (h0 : 0 ≤ i ∧ i < cs.length) : Rws cs [ks.getD i.toNat []] :=
  Rws.one (h.row _ (by rw [h.len]; omega)) (fun j => by have := h.el i.toNat j; omega)
theorem served_tri {m : List (List Int)} {a reqs : List Int} (h : F_impl_isServed m a reqs = true) : ∀ x y z, x < m.length → y < m.length → z < m.length → el m x z ≤ el m x y + el m y z :=
  ((isMetric_iff m).1 (by rw [isMetric_eq]; exact ((isServed_iff m a reqs).1 h).1)).2
theorem served_or (m : List (List Int)) (a reqs : List Int) : ((!(F_spec_l6Good m)) || (!(F_spec_l6Start m a reqs))) = !(F_impl_isServed m a reqs) := by
  rw [← served_eq]
  cases h : F_impl_isServed m a reqs with
  | false => simp
  | true => rw [((isServed_iff m a reqs).1 h).1]; rfl
/-! the least value -/
end Go.Proofs.Ytgnikdpgndmldaa
namespace Go.Proofs.Ytgnikdpgndmldaa
set_option linter.unusedVariables false
set_option linter.unusedSimpArgs false
open Go Go.RowKit

theorem rep_bd {n : Nat} (h : n ≤ 1000000) : ∀ i, 0 ≤ (F_slices_Repeat_Sint_int [1073741824] (n : Int)).getD i 0 ∧ (F_slices_Repeat_Sint_int [1073741824] (n : Int)).getD i 0 ≤ 1073741824 := fun i => by
  rw [repeat_eq _ _ (by omega) (by omega), Int.toNat_natCast]
  by_cases hi : i < n
  · rw [getD_rep _ _ _ _ hi]; omega
  · rw [getD_ge _ _ _ (by rw [List.length_replicate]; omega)]; omega
theorem set_bd {o : List Int} {B v : Int} {k : Nat} (h : ∀ i, 0 ≤ o.getD i 0 ∧ o.getD i 0 ≤ B) (hv : 0 ≤ v ∧ v ≤ B) : ∀ i, 0 ≤ (o.set k v).getD i 0 ∧ (o.set k v).getD i 0 ≤ B := fun i => by
  by_cases e : k = i
  · subst e
    by_cases hk : k < o.length
    · rw [getD_set_eq _ _ _ _ hk]; exact hv
    · rw [getD_ge _ _ _ (by rw [List.length_set]; omega)]; omega
  · rw [getD_set_ne _ _ _ _ _ e]; exact h i
theorem good_ks {m : List (List Int)} {a : List Int} (h : ((!(F_spec_l6Good m)) || (!(F_spec_l6Config (m.length : Int) a))) = false) : Ks m (a.length : Int) ∧ Cf m.length a := by
  simp only [Bool.or_eq_false_iff, Bool.not_eq_false'] at h
  have hc := (l6Config_iff _ _).1 h.2
  exact ⟨⟨((l6Good_iff m).1 h.1).1, l6Good_t h.1, by have := hc.n1; omega, by have := hc.n3; omega⟩, hc⟩
/-! the sum of the distances to a point -/
theorem fold_sub (g : Nat → Int) : ∀ n i (v c : Int), foldFrom (fun s acc => acc - g s) i n (v - c) = v - foldFrom (fun s acc => acc + g s) i n c
  | 0, _, _, _ => rfl
  | n + 1, i, v, c => by
    rw [foldFrom, foldFrom, show v - c - g i = v - (c + g i) by omega, fold_sub g n]
end Go.Proofs.Ytgnikdpgndmldaa
namespace Go.Proofs.Ytgnikdpgndmldaa
set_option linter.unusedVariables false
set_option linter.unusedSimpArgs false

theorem concat_eq (a b : List Int) : F_slices_Concat_Sint_int [a, b] = a ++ b := by
  unfold F_slices_Concat_Sint_int
  have h1 : ∃ s, F_slices_Concat_Sint_int_L1 [a, b] (([a, b] : List (List Int)).length - 0 + 1) (0, 0) = .next s := by
    show ∃ s, F_slices_Concat_Sint_int_L1 [a, b] (2 + 1) (0, 0) = .next s
    rw [F_slices_Concat_Sint_int_L1_s, decide_eq_true (by simp), cond_true, decide_eq_false (by omega), cond_false, F_slices_Concat_Sint_int_L1_s, decide_eq_true (by simp), cond_true, decide_eq_false (by omega), cond_false, F_slices_Concat_Sint_int_L1_s, decide_eq_false (by simp), cond_false]
    exact ⟨_, rfl⟩
  obtain ⟨s, h1⟩ := h1
  rw [h1]
  simp only [elim_next]
  show ((F_slices_Concat_Sint_int_L2 [a, b] (2 + 1) ([], 0)).elim _ _) = _
  rw [F_slices_Concat_Sint_int_L2_s, decide_eq_true (by simp), cond_true, F_slices_Concat_Sint_int_L2_s, decide_eq_true (by simp), cond_true, F_slices_Concat_Sint_int_L2_s, decide_eq_false (by simp), cond_false]
  rfl
theorem concat_len (a b : List Int) : (F_slices_Concat_Sint_int [a, b]).length = a.length + b.length := by rw [concat_eq, List.length_append]
theorem point_app (a b : List Int) (l : Nat) : F_spec_l7Point a b (l : Int) = (a ++ b).getD l 0 := by
  unfold F_spec_l7Point
  by_cases h : l < a.length
  · rw [decide_eq_true (by omega), cond_true, Int.toNat_natCast, List.getD_eq_getElem?_getD, List.getD_eq_getElem?_getD, List.getElem?_append_left h]
  · rw [decide_eq_false (by omega), cond_false, List.getD_eq_getElem?_getD, List.getD_eq_getElem?_getD, List.getElem?_append_right (by omega)]
    congr 2; omega
theorem app_el {n : Nat} {a b : List Int} (ha : ∀ i, i < a.length → 0 ≤ a.getD i 0 ∧ a.getD i 0 < n) (hb : ∀ i, i < b.length → 0 ≤ b.getD i 0 ∧ b.getD i 0 < n) (l : Nat) (h : l < a.length + b.length) : 0 ≤ (a ++ b).getD l 0 ∧ (a ++ b).getD l 0 < n := by
  rw [List.getD_eq_getElem?_getD, List.getElem?_append]
  by_cases hl : l < a.length
  · rw [if_pos hl, ← List.getD_eq_getElem?_getD]; exact ha l hl
  · rw [if_neg hl, ← List.getD_eq_getElem?_getD]; exact hb _ (by omega)
theorem concat_el {m : List (List Int)} {a reqs : List Int} (h : Sv m a reqs) (l : Nat) (hl : l < a.length + reqs.length) : 0 ≤ (F_slices_Concat_Sint_int [a, reqs]).getD l 0 ∧ (F_slices_Concat_Sint_int [a, reqs]).getD l 0 < m.length := by
  rw [concat_eq]; exact app_el h.cf.el h.el l hl
theorem take_getD {α : Type} (l : List α) (n i : Nat) (d : α) (h : i < n) : (l.take n).getD i d = l.getD i d := by
  rw [List.getD_eq_getElem?_getD, List.getD_eq_getElem?_getD, List.getElem?_take, if_pos h]

/-! the costs of a flow -/
def gap (m : List (List Int)) (a reqs : List Int) (k i : Nat) : Int := el m ((a ++ reqs).getD k 0).toNat (reqs.getD i 0).toNat
theorem gap_eq (m : List (List Int)) (a reqs : List Int) (l i : Nat) : F_spec_l7Gap m a reqs (l : Int) (i : Int) = gap m a reqs l i := by
  unfold F_spec_l7Gap gap
  rw [point_app, Int.toNat_natCast]
theorem flow_L2 (m : List (List Int)) (a reqs : List Int) (i : Nat) (hi : i < reqs.length) : ∀ fuel k out, a.length + i - k < fuel → out.length = a.length + reqs.length → ∃ k' out', F_impl_flowOf_L2 m a reqs i fuel (k, out) = .next (k', out') ∧ out'.length = a.length + reqs.length ∧
    ∀ q, q < a.length + reqs.length → out'.getD q 0 = if k ≤ q ∧ q < a.length + i then gap m a reqs q i else out.getD q 0 := by
  have hlen : (((F_slices_Concat_Sint_int [a, reqs]).take (a.length + i)).drop 0).length = a.length + i := by rw [List.drop_zero, List.length_take, concat_len]; omega
  intro fuel
  induction fuel with
  | zero => intro k out h; omega
  | succ mf ih =>
    intro k out h hl
    rw [F_impl_flowOf_L2_s, hlen]
    by_cases hk : (k : Int) < ((a.length + i : Nat) : Int)
    · rw [decide_eq_true hk, cond_true]
      obtain ⟨k', out', h1, h2, h3⟩ := ih (k + 1) (out.set k ((m.getD ((((F_slices_Concat_Sint_int [a, reqs]).take (a.length + i)).drop 0).getD k 0).toNat []).getD (reqs.getD i 0).toNat 0)) (by omega) (by rw [List.length_set]; exact hl)
      refine ⟨k', out', h1, h2, fun q hq => ?_⟩
      rw [h3 q hq]
      by_cases e : q = k
      · subst e
        rw [if_neg (by omega), if_pos ⟨Nat.le_refl _, by omega⟩, getD_set_eq _ _ _ _ (by omega), List.drop_zero, take_getD _ _ _ _ (by omega), concat_eq]
        rfl
      · rw [getD_set_ne _ _ _ _ _ (Ne.symm e)]
        by_cases e2 : k ≤ q ∧ q < a.length + i
        · rw [if_pos ⟨by omega, e2.2⟩, if_pos e2]
        · rw [if_neg (by omega), if_neg e2]
    · rw [decide_eq_false hk, cond_false]
      exact ⟨k, out, rfl, hl, fun q hq => by rw [if_neg (by omega)]⟩
/-- The costs of a flow: each row of a place. -/
structure Fw (m : List (List Int)) (a reqs : List Int) (n : Nat) (cs : List (List Int)) : Prop where
  len : cs.length = n
  row : ∀ i, i < n → (cs.getD i []).length = a.length + reqs.length
  el : ∀ i q, i < n → q < a.length + reqs.length → (cs.getD i []).getD q 0 = if q < a.length + i then gap m a reqs q i else 1073741824
theorem flow_L1 {m : List (List Int)} {a reqs : List Int} (hs : a.length ≤ 3 ∧ reqs.length ≤ 60) : ∀ fuel i out, reqs.length - i < fuel → i ≤ reqs.length → Fw m a reqs i out → ∃ i' out', F_impl_flowOf_L1 m a reqs fuel (i, out) = .next (i', out') ∧ Fw m a reqs reqs.length out' := by
  intro fuel
  induction fuel with
  | zero => intro i out h; omega
  | succ mf ih =>
    intro i out h hi hf
    rw [F_impl_flowOf_L1_s]
    by_cases hlt : (i : Int) < (reqs.length : Int)
    · have hlen : (((F_slices_Concat_Sint_int [a, reqs]).take (a.length + i)).drop 0).length = a.length + i := by rw [List.drop_zero, List.length_take, concat_len]; omega
      have hrl : (F_slices_Repeat_Sint_int [1073741824] ((F_slices_Concat_Sint_int [a, reqs]).length : Int)) = List.replicate (a.length + reqs.length) 1073741824 := by
        rw [repeat_eq _ _ (by omega) (by rw [concat_len]; omega), Int.toNat_natCast, concat_len]
      rw [decide_eq_true hlt, cond_true, hlen, hrl]
      obtain ⟨k', o1, h1, h2, h3⟩ := flow_L2 m a reqs i (by omega) (a.length + i - 0 + 1) 0 (List.replicate (a.length + reqs.length) 1073741824) (by omega) (by simp)
      rw [h1]
      simp only [elim_next]
      refine ih (i + 1) _ (by omega) (by omega) ⟨by simp [hf.len], fun j hj => ?_, fun j q hj hq => ?_⟩
      · by_cases e : j < i
        · rw [getDD_app_lt (by rw [hf.len]; exact e)]; exact hf.row j e
        · rw [getDD_app_eq (by rw [hf.len]; omega)]; exact h2
      · by_cases e : j < i
        · rw [getDD_app_lt (by rw [hf.len]; exact e)]; exact hf.el j q e hq
        · have e' : j = i := by omega
          subst e'
          rw [getDD_app_eq (by rw [hf.len]), h3 q hq, getD_rep _ _ _ _ hq]
          by_cases e2 : q < a.length + j
          · rw [if_pos ⟨Nat.zero_le _, e2⟩, if_pos e2]
          · rw [if_neg (fun h => e2 h.2), if_neg e2]
    · rw [decide_eq_false hlt, cond_false]
      have e : i = reqs.length := by omega
      exact ⟨i, out, rfl, e ▸ hf⟩
theorem flowOf_fw {m : List (List Int)} {a reqs : List Int} (hs : a.length ≤ 3 ∧ reqs.length ≤ 60) : Fw m a reqs reqs.length (F_impl_flowOf m a reqs).2 ∧ (F_impl_flowOf m a reqs).1 = (a.length : Int) := by
  obtain ⟨i', out', h1, h2⟩ := flow_L1 (m := m) hs (reqs.length - 0 + 1) 0 [] (by omega) (Nat.zero_le _) ⟨rfl, fun i h => by omega, fun i q h => by omega⟩
  unfold F_impl_flowOf
  rw [h1]
  exact ⟨h2, rfl⟩
theorem flow_bd {m : List (List Int)} {a reqs : List Int} (h : Sv m a reqs) : (F_impl_flowOf m a reqs).2.length = reqs.length ∧ (∀ i, i < reqs.length → ((F_impl_flowOf m a reqs).2.getD i []).length = a.length + reqs.length) ∧ ∀ i q, 0 ≤ ((F_impl_flowOf m a reqs).2.getD i []).getD q 0 ∧ ((F_impl_flowOf m a reqs).2.getD i []).getD q 0 ≤ 1073741824 := by
  obtain ⟨hf, _⟩ := flowOf_fw (m := m) (a := a) (reqs := reqs) ⟨h.cf.n3, h.r60⟩
  refine ⟨hf.len, hf.row, fun i q => ?_⟩
  by_cases hi : i < reqs.length
  · by_cases hq : q < a.length + reqs.length
    · rw [hf.el i q hi hq]
      split
      · have := el_bd h.tp ((a ++ reqs).getD q 0).toNat (reqs.getD i 0).toNat
        unfold gap; omega
      · omega
    · rw [getD_ge ((F_impl_flowOf m a reqs).2.getD i []) q 0 (by rw [hf.row i hi]; omega)]; omega
  · rw [getD_ge (F_impl_flowOf m a reqs).2 i [] (by rw [hf.len]; omega), getD_ge [] q 0 (Nat.zero_le _)]; omega

/-! prices -/
theorem getD_bd {l : List Int} {B : Int} (hB : 0 ≤ B) (h : ∀ i, i < l.length → 0 ≤ l.getD i 0 ∧ l.getD i 0 ≤ B) (i : Nat) : 0 ≤ l.getD i 0 ∧ l.getD i 0 ≤ B := by
  by_cases hi : i < l.length
  · exact h i hi
  · rw [getD_ge _ _ _ (by omega)]; omega
theorem small_bd {l : List Int} (h : ∀ i, i < l.length → 0 ≤ l.getD i 0 ∧ l.getD i 0 < 100000) (i : Nat) : 0 ≤ l.getD i 0 ∧ l.getD i 0 ≤ 99999 := getD_bd (by omega) (fun i hi => by have := h i hi; omega) i
def rentOf (m : List (List Int)) (a reqs prices : List Int) (k : Nat) : Int := foldFrom (fun i s => max s (bif decide (k < a.length + i) then prices.getD i 0 - gap m a reqs k i else s)) 0 reqs.length 0
end Go.Proofs.Ytgnikdpgndmldaa
namespace Go.Proofs.Ytgnikdpgndmldaa
set_option linter.unusedVariables false
set_option linter.unusedSimpArgs false

/-! the support -/
/-! work lists from a support -/
/-- What is known of a support. -/
structure Ls (m cs : List (List Int)) (vs : List Int) : Prop where
  ks : Ks m ((cs.getD 0 []).length : Int)
  n1 : 1 ≤ cs.length
  n56 : cs.length ≤ 56
  vl : vs.length = cs.length
  cf : ∀ i, i < cs.length → Cf m.length (cs.getD i []) ∧ (cs.getD i []).length = (cs.getD 0 []).length
  el : ∀ i, 0 ≤ vs.getD i 0 ∧ vs.getD i 0 ≤ 99999
theorem ls_of {m cs : List (List Int)} {vs : List Int} (h1 : F_spec_l6Good m = true) (h2 : 1 ≤ cs.length ∧ cs.length ≤ 56) (h3 : vs.length = cs.length)
    (h4 : ∀ i, i < cs.length → ((cs.getD i []).length = (cs.getD 0 []).length ∧ Cf m.length (cs.getD i [])) ∧ 0 ≤ vs.getD i 0 ∧ vs.getD i 0 < 100000) : Ls m cs vs := by
  have hc := (h4 0 (by omega)).1.2
  refine ⟨⟨((l6Good_iff m).1 h1).1, l6Good_t h1, by have := hc.n1; omega, by have := hc.n3; omega⟩, h2.1, h2.2, h3, fun i hi => ⟨(h4 i hi).1.2, (h4 i hi).1.1⟩, fun i => ?_⟩
  by_cases hi : i < vs.length
  · have := (h4 i (by omega)).2; omega
  · rw [getD_ge _ _ _ (by omega)]; omega
end Go.Proofs.Ytgnikdpgndmldaa
namespace Go.Proofs.Ytgnikdpgndmldaa
set_option linter.unusedVariables false
set_option linter.unusedSimpArgs false

/-! the tables of what is left -/
/-! the schedule -/
end Go.Proofs.Ytgnikdpgndmldaa
namespace Go.Proofs.Ytgnikdpgndmldaa
set_option linter.unusedVariables false
set_option linter.unusedSimpArgs false
open Go Go.RowKit

/-- Rows behind a place have a length, their values are small. -/
def Ltr (n : Nat) (k : Int) (L : Nat) (t : List (List Int)) : Prop := ∀ q : Nat, k < (q : Int) → q ≤ L → (t.getD q []).length = n ∧ ∀ p, 0 ≤ (t.getD q []).getD p 0 ∧ (t.getD q []).getD p 0 ≤ 1073741824
theorem rep0_bd (n p : Nat) : 0 ≤ (List.replicate n (0 : Int)).getD p 0 ∧ (List.replicate n (0 : Int)).getD p 0 ≤ 0 := by
  by_cases hp : p < n
  · rw [getD_rep _ _ _ _ hp]; omega
  · rw [getD_ge _ _ _ (by simp; omega)]; omega
theorem ltr_init (n L : Nat) : Ltr n ((L : Int) - 1) L ((List.replicate (L + 1) ([] : List Int)).set L (List.replicate n (0 : Int))) := fun q h1 h2 => by
  have e : q = L := by omega
  subst e
  rw [getD_set_eq _ _ _ _ (by simp)]
  exact ⟨by simp, fun p => by have := rep0_bd n p; omega⟩
theorem Ltr.set {n L : Nat} {k : Int} {t : List (List Int)} (h : Ltr n k L t) (hk : 0 ≤ k) (hl : k < t.length) {r : List Int} (hr : r.length = n ∧ ∀ p, 0 ≤ r.getD p 0 ∧ r.getD p 0 ≤ 1073741824) : Ltr n (k - 1) L (t.set k.toNat r) := fun q h1 h2 => by
  by_cases e : q = k.toNat
  · subst e; rw [getD_set_eq _ _ _ _ (by omega)]; exact hr
  · rw [getD_set_ne _ _ _ _ _ (Ne.symm e)]; exact h q (by omega) h2
theorem flow_pt {m : List (List Int)} {a reqs : List Int} (h : Sv m a reqs) {i : Nat} (hi : i ≤ reqs.length) (k : Nat) (hk : k < a.length + i) : 0 ≤ (((F_slices_Concat_Sint_int ([a, reqs])).take (a.length + i)).drop 0).getD k 0 ∧ (((F_slices_Concat_Sint_int ([a, reqs])).take (a.length + i)).drop 0).getD k 0 < m.length := by
  rw [List.drop_zero, take_getD _ _ _ _ hk]
  exact concat_el h k (by omega)
theorem flow_ln (a reqs : List Int) {i : Nat} (hi : i ≤ reqs.length) : (((F_slices_Concat_Sint_int ([a, reqs])).take (a.length + i)).drop 0).length = a.length + i := by
  rw [List.drop_zero, List.length_take, concat_len]; omega
theorem total_two (a b : List Int) : total [a, b] = a.length + b.length := by simp [total]
/-- What has been gathered of the support. -/
theorem gat_push {α : Type} (d : α) (f : Nat → α) {own : List Int} {i : Nat} {u : List α} (h : u = (own.take i).map (fun z => f z.toNat)) (hi : i < own.length) : u ++ [f (own.getD i 0).toNat] = (own.take (i + 1)).map (fun z => f z.toNat) := by
  rw [h, List.take_succ_eq_append_getElem hi, List.map_append, getD_lt own i 0 hi]; rfl
/-! the reference's table -/
def Zr (cs : List (List Int)) (n : Nat) (out : List (List Int)) : Prop := ∀ j, j < out.length → (out.getD j []).length = cs.length ∧ ∀ p, 0 ≤ (out.getD j []).getD p 0 ∧ (out.getD j []).getD p 0 ≤ 99 * ((n : Int) - j)
theorem Zr.nil (cs : List (List Int)) (n : Nat) : Zr cs n [] := fun j hj => absurd hj (by simp)
theorem Zr.push {cs : List (List Int)} {n : Nat} {out : List (List Int)} (h : Zr cs n out) (hn : out.length ≤ n) : Zr cs n (out ++ [List.replicate cs.length (0 : Int)]) := fun j hj => by
  simp only [List.length_append, List.length_cons, List.length_nil] at hj
  by_cases e : j < out.length
  · rw [getDD_app_lt e]; exact h j e
  · rw [getDD_app_eq (by omega)]
    exact ⟨by simp, fun p => by have := rep0_bd cs.length p; omega⟩
theorem Zr.set {cs : List (List Int)} {n : Nat} {out : List (List Int)} (h : Zr cs n out) {t p : Nat} (ht : t < out.length) {v : Int} (hv : 0 ≤ v ∧ v ≤ 99 * ((n : Int) - t)) : Zr cs n (out.set t ((out.getD t []).set p v)) := fun j hj => by
  rw [List.length_set] at hj
  by_cases e : j = t
  · subst e
    rw [getD_set_eq _ _ _ _ hj]
    exact ⟨by rw [List.length_set]; exact (h j hj).1, set_bd (h j hj).2 hv⟩
  · rw [getD_set_ne _ _ _ _ _ (Ne.symm e)]; exact h j hj
theorem gap_bd {m : List (List Int)} {a reqs : List Int} (h : Sv m a reqs) {l i : Int} (_hl : 0 ≤ l) (_hi : 0 ≤ i) : 0 ≤ F_spec_l7Gap m a reqs l i ∧ F_spec_l7Gap m a reqs l i ≤ 99 := el_bd h.tp _ _
theorem markIntSS_fst2 (a : List (List Int)) (k : Int) : (F_laws_markIntSS a k).1 = k + total a := by rw [markIntSS_eq]
end Go.Proofs.Ytgnikdpgndmldaa
namespace Go.Proofs.Ytgnikdpgndmldaa
set_option linter.unusedVariables false
set_option linter.unusedSimpArgs false
open Go Go.RowKit
set_option linter.unusedVariables false

theorem gap_any {m : List (List Int)} {a reqs : List Int} (h : Sv m a reqs) (l i : Int) : 0 ≤ F_spec_l7Gap m a reqs l i ∧ F_spec_l7Gap m a reqs l i ≤ 99 := by
  unfold F_spec_l7Gap
  exact el_bd h.tp _ _
theorem gap_all {m : List (List Int)} {a reqs : List Int} (h : Sv m a reqs) (l i : Nat) : 0 ≤ gap m a reqs l i ∧ gap m a reqs l i ≤ 99 := by
  have := gap_any h (l : Int) (i : Int)
  rwa [gap_eq] at this
structure Rq (m : List (List Int)) (a reqs before holders : List Int) (p r : Nat → Int) : Prop where
  sv : Sv m a reqs
  ir : before.length < reqs.length
  pre : Th.Pre before.length a.length (a.length + reqs.length) (fun l x => gap m a reqs l x) before holders p r
section
variable {m : List (List Int)} {a reqs before holders : List Int} {p r : Nat → Int} {far frm : List Int}
theorem hold_d (h : holders.length = a.length + before.length) {l : Nat} (hl : l < a.length + before.length) : holders.getD l 0 = holders.getD l (-1) := by
  rw [getD_lt _ _ _ (by omega), getD_lt _ _ _ (by omega)]
theorem Rq.hold (h : Rq m a reqs before holders p r) (l : Nat) : l < a.length + before.length → -1 ≤ holders.getD l 0 ∧ holders.getD l 0 < before.length := fun hl => by
  rw [hold_d h.pre.lh hl]
  have h1 := h.pre.h3 l
  refine ⟨h1, ?_⟩
  by_cases h2 : 0 ≤ holders.getD l (-1)
  · have := (h.pre.h2 l (holders.getD l (-1)).toNat (by omega)).1; omega
  · omega
theorem Rq.init (h : Rq m a reqs before holders p r) (hl : far.length = before.length + 1) (hf : ∀ x, x ≤ before.length → far.getD x 0 = if x < before.length then 1099511627776 else 0) :
    Th.Bf before.length a.length (fun l x => gap m a reqs l x) holders p far (List.replicate (before.length + 1) 0) := Th.Bf.init h.pre hl hf (by simp)
theorem Rq.step (h : Rq m a reqs before holders p r) (hB : Th.Bf before.length a.length (fun l x => gap m a reqs l x) holders p far frm) {x l : Nat} (hx : x ≤ before.length) (hl : l < a.length + x)
    (hz : far.getD x 0 < 1099511627776) (hh : 0 ≤ holders.getD l 0)
    (hd : (far.getD x 0 + F_spec_l7Gap m a reqs (l : Int) (x : Int)) - F_spec_l7Gap m a reqs (l : Int) (holders.getD l 0) < far.getD (holders.getD l 0).toNat 0) :
    Th.Bf before.length a.length (fun l x => gap m a reqs l x) holders p (far.set (holders.getD l 0).toNat ((far.getD x 0 + F_spec_l7Gap m a reqs (l : Int) (x : Int)) - F_spec_l7Gap m a reqs (l : Int) (holders.getD l 0))) (frm.set (holders.getD l 0).toNat (x : Int)) ∧
    Th.lsum (far.set (holders.getD l 0).toNat ((far.getD x 0 + F_spec_l7Gap m a reqs (l : Int) (x : Int)) - F_spec_l7Gap m a reqs (l : Int) (holders.getD l 0))) < Th.lsum far := by
  have hv := h.hold l (by omega)
  have e : holders.getD l 0 = (((holders.getD l 0).toNat : Nat) : Int) := by omega
  have e2 : holders.getD l (-1) = (((holders.getD l 0).toNat : Nat) : Int) := by rw [← hold_d h.pre.lh (by omega)]; exact e
  have e3 : F_spec_l7Gap m a reqs (l : Int) (holders.getD l 0) = gap m a reqs l (holders.getD l 0).toNat := by rw [← gap_eq, ← e]
  rw [e3, gap_eq] at hd ⊢
  refine ⟨hB.step h.pre.eb hx hl e2 hz hd, ?_⟩
  have hlf := hB.lf
  rw [Th.lsum_set _ _ _ (by omega)]; omega
theorem reach_fill {k : Nat} (hl : far.length = before.length + 1) (hf : ∀ x, x ≤ before.length → far.getD x 0 = if x < k then 1099511627776 else 0) :
    ∀ x, x ≤ before.length → (far.set k 1099511627776).getD x 0 = if x < k + 1 then 1099511627776 else 0 := fun x hx => by
  by_cases e : x = k
  · subst e; rw [getD_set_eq _ _ _ _ (by omega), if_pos (by omega)]
  · rw [getD_set_ne _ _ _ _ _ (Ne.symm e), hf x hx]
    by_cases h1 : x < k
    · rw [if_pos h1, if_pos (by omega)]
    · rw [if_neg h1, if_neg (by omega)]
/-- No nearer way by the first places, and by the first columns of the next. -/
def Dn (m : List (List Int)) (a reqs before holders far : List Int) (x0 l0 : Nat) : Prop :=
  ∀ x l v : Nat, x ≤ before.length → l < a.length + x → (x < x0 ∨ (x = x0 ∧ l < l0)) → far.getD x 0 < 1099511627776 → holders.getD l (-1) = (v : Int) → far.getD v 0 ≤ far.getD x 0 + gap m a reqs l x - gap m a reqs l v
theorem reach_L4 (h : Rq m a reqs before holders p r) {x : Nat} (hx : x ≤ before.length) {far0 frm0 : List Int} : ∀ (fuel l : Nat) (b : Bool) (far frm : List Int), a.length + x - l < fuel → l ≤ a.length + x →
    Th.Bf before.length a.length (fun l x => gap m a reqs l x) holders p far frm → Th.Rnd b far far0 → (b = false → frm = frm0 ∧ Dn m a reqs before holders far x l) →
    ∃ b' l' far' frm', F_spec_l7Reach_L4 m a reqs holders x fuel (b, l, frm, far) = .next (b', l', frm', far') ∧
      Th.Bf before.length a.length (fun l x => gap m a reqs l x) holders p far' frm' ∧ Th.Rnd b' far' far0 ∧ (b' = false → frm' = frm0 ∧ Dn m a reqs before holders far' (x + 1) 0) := by
  intro fuel
  induction fuel with
  | zero => intro l b far frm hf; omega
  | succ mf ih =>
    intro l b far frm hf hl hB hR hD
    rw [F_spec_l7Reach_L4_s]
    by_cases hc : ((l : Int) < (a.length : Int) + (x : Int)) ∧ far.getD x 0 < 1099511627776
    · rw [decide_eq_true hc.1, decide_eq_true hc.2, Bool.and_true, cond_true]
      by_cases hh : 0 ≤ holders.getD l 0
      · rw [decide_eq_true hh, Bool.true_and]
        by_cases hd : (far.getD x 0 + F_spec_l7Gap m a reqs (l : Int) (x : Int)) - F_spec_l7Gap m a reqs (l : Int) (holders.getD l 0) < far.getD (holders.getD l 0).toNat 0
        · rw [decide_eq_true hd, cond_true]
          have hst := h.step hB hx (by omega) hc.2 hh hd
          exact ih (l + 1) true _ _ (by omega) (by omega) hst.1 (hR.up hst.2) (fun hb => by cases hb)
        · rw [decide_eq_false hd, cond_false]
          refine ih (l + 1) b far frm (by omega) (by omega) hB hR fun hb => ⟨(hD hb).1, fun y l' v hy hl' hs hz hv => ?_⟩
          rcases hs with hs | ⟨hs, hs2⟩
          · exact (hD hb).2 y l' v hy hl' (.inl hs) hz hv
          · subst hs
            by_cases e : l' = l
            · subst e
              have e1 : holders.getD l' 0 = (v : Int) := by rw [hold_d h.pre.lh (by omega)]; exact hv
              rw [e1, gap_eq, gap_eq, Int.toNat_natCast] at hd
              omega
            · exact (hD hb).2 y l' v hy hl' (.inr ⟨rfl, by omega⟩) hz hv
      · rw [decide_eq_false hh, Bool.false_and, cond_false]
        refine ih (l + 1) b far frm (by omega) (by omega) hB hR fun hb => ⟨(hD hb).1, fun y l' v hy hl' hs hz hv => ?_⟩
        rcases hs with hs | ⟨hs, hs2⟩
        · exact (hD hb).2 y l' v hy hl' (.inl hs) hz hv
        · subst hs
          by_cases e : l' = l
          · subst e
            have e1 : holders.getD l' 0 = (v : Int) := by rw [hold_d h.pre.lh (by omega)]; exact hv
            omega
          · exact (hD hb).2 y l' v hy hl' (.inr ⟨rfl, by omega⟩) hz hv
    · have hcf : ((decide ((l : Int) < (a.length : Int) + (x : Int))) && (decide (far.getD x 0 < 1099511627776))) = false := by
        rw [Bool.eq_false_iff]; intro hh; rw [Bool.and_eq_true, decide_eq_true_eq, decide_eq_true_eq] at hh; exact hc hh
      rw [hcf, cond_false]
      refine ⟨b, l, far, frm, rfl, hB, hR, fun hb => ⟨(hD hb).1, fun y l' v hy hl' hs hz hv => ?_⟩⟩
      rcases hs with hs | ⟨hs, hs2⟩
      · by_cases e : y = x
        · subst e
          have : ¬ ((l : Int) < (a.length : Int) + (y : Int)) := fun h1 => hc ⟨h1, hz⟩
          exact (hD hb).2 y l' v hy hl' (.inr ⟨rfl, by omega⟩) hz hv
        · exact (hD hb).2 y l' v hy hl' (.inl (by omega)) hz hv
      · omega
theorem reach_L3 (h : Rq m a reqs before holders p r) {far0 frm0 : List Int} : ∀ (fuel x : Nat) (b : Bool) (far frm : List Int), before.length + 1 - x < fuel → x ≤ before.length + 1 →
    Th.Bf before.length a.length (fun l x => gap m a reqs l x) holders p far frm → Th.Rnd b far far0 → (b = false → frm = frm0 ∧ Dn m a reqs before holders far x 0) →
    ∃ b' x' far' frm', F_spec_l7Reach_L3 m a reqs before holders fuel (b, x, frm, far) = .next (b', x', frm', far') ∧
      Th.Bf before.length a.length (fun l x => gap m a reqs l x) holders p far' frm' ∧ Th.Rnd b' far' far0 ∧ (b' = false → frm' = frm0 ∧ Dn m a reqs before holders far' (before.length + 1) 0) := by
  intro fuel
  induction fuel with
  | zero => intro x b far frm hf; omega
  | succ mf ih =>
    intro x b far frm hf hx hB hR hD
    rw [F_spec_l7Reach_L3_s]
    by_cases hc : (x : Int) ≤ (before.length : Int)
    · rw [decide_eq_true hc, cond_true]
      obtain ⟨b', l', far', frm', h1, h2, h3, h4⟩ := reach_L4 h (x := x) (by omega) (far0 := far0) (frm0 := frm0) (a.length + x - 0 + 1) 0 b far frm (by omega) (by omega) hB hR hD
      rw [h1, elim_next]
      exact ih (x + 1) b' far' frm' (by omega) (by omega) h2 h3 h4
    · rw [decide_eq_false hc, cond_false]
      have e : x = before.length + 1 := by omega
      subst e
      exact ⟨b, _, far, frm, rfl, hB, hR, hD⟩
theorem reach_L2 (h : Rq m a reqs before holders p r) : ∀ (fuel : Nat) (b : Bool) (far frm : List Int), 2 * (Th.lsum far + 1000000).toNat + (bif b then 1 else 0) < fuel →
    Th.Bf before.length a.length (fun l x => gap m a reqs l x) holders p far frm → (b = false → Dn m a reqs before holders far (before.length + 1) 0) →
    ∃ b' far' frm', F_spec_l7Reach_L2 m a reqs before holders fuel (b, frm, far) = .next (b', frm', far') ∧ Th.Fin before.length a.length (fun l x => gap m a reqs l x) holders p far' frm' := by
  intro fuel
  induction fuel with
  | zero => intro b far frm hf; omega
  | succ mf ih =>
    intro b far frm hf hB hD
    rw [F_spec_l7Reach_L2_s]
    cases b with
    | true =>
      rw [cond_true] at hf ⊢
      obtain ⟨b', x', far', frm', h1, h2, h3, h4⟩ := reach_L3 h (far0 := far) (frm0 := frm) (before.length + 1 - 0 + 1) 0 false far frm (by omega) (by omega) hB (Th.Rnd.init _) (fun _ => ⟨rfl, fun x l v _ _ hs => by omega⟩)
      rw [h1, elim_next]
      dsimp only
      have hmu := h3.mu (h2.low h.pre).2
      exact ih b' far' frm' (by omega) h2 (fun hb => (h4 hb).2)
    | false =>
      rw [cond_false]
      exact ⟨false, far, frm, rfl, hB, fun x l v hx hl hz hv => hD rfl x l v hx hl (.inl (by omega)) hz hv⟩
theorem reach_L1 : ∀ (fuel k : Nat) (far : List Int), before.length - k < fuel → k ≤ before.length → far.length = before.length + 1 → (∀ x, x ≤ before.length → far.getD x 0 = if x < k then 1099511627776 else 0) →
    ∃ k' far', F_spec_l7Reach_L1 before fuel (k, far) = .next (k', far') ∧ far'.length = before.length + 1 ∧ ∀ x, x ≤ before.length → far'.getD x 0 = if x < before.length then 1099511627776 else 0 := by
  intro fuel
  induction fuel with
  | zero => intro k far hf; omega
  | succ mf ih =>
    intro k far hf hk hl hF
    rw [F_spec_l7Reach_L1_s]
    by_cases hc : (k : Int) < (before.length : Int)
    · rw [decide_eq_true hc, cond_true]
      exact ih (k + 1) _ (by omega) (by omega) (by rw [List.length_set]; exact hl) (reach_fill hl hF)
    · rw [decide_eq_false hc, cond_false]
      have e : k = before.length := by omega
      subst e
      exact ⟨_, far, rfl, hl, hF⟩
theorem reach_fin (h : Rq m a reqs before holders p r) : Th.Fin before.length a.length (fun l x => gap m a reqs l x) holders p (F_spec_l7Reach m a reqs before holders).1 (F_spec_l7Reach m a reqs before holders).2 := by
  unfold F_spec_l7Reach
  obtain ⟨k', far, h1, h2, h3⟩ := reach_L1 (before := before) (before.length - 0 + 1) 0 (List.replicate (before.length + 1) 0) (by omega) (Nat.zero_le _) (by simp) (fun x hx => by rw [getD_rep _ _ _ _ (by omega)]; rfl)
  rw [h1, elim_next]
  dsimp only
  obtain ⟨b', far', frm', h4, h5⟩ := reach_L2 h (2 * (Th.lsum far + 1000000).toNat + (bif true then 1 else 0) + 1) true far (List.replicate (before.length + 1) 0) (by omega) (h.init h2 h3) (fun hb => by cases hb)
  rw [h4, elim_next]
  exact h5
end
end Go.Proofs.Ytgnikdpgndmldaa
namespace Go.Proofs.Ytgnikdpgndmldaa
set_option linter.unusedVariables false
set_option linter.unusedSimpArgs false
open Go Go.RowKit
set_option linter.unusedVariables false

/-! who holds what -/
theorem holders_L1 (many : Nat) : ∀ (fuel l : Nat) (out : List Int), many - l < fuel → l ≤ many → out.length = many → (∀ x, x < l → out.getD x 0 = -1) →
    ∃ l' out', F_spec_l7Holders_L1 (many : Int) fuel (l, out) = .next (l', out') ∧ out'.length = many ∧ ∀ x, x < many → out'.getD x 0 = -1 := by
  intro fuel
  induction fuel with
  | zero => intro l out hf; omega
  | succ mf ih =>
    intro l out hf hl hlen h
    rw [F_spec_l7Holders_L1_s]
    by_cases hc : (l : Int) < (many : Int)
    · rw [decide_eq_true hc, cond_true]
      refine ih (l + 1) _ (by omega) (by omega) (by rw [List.length_set]; exact hlen) fun x hx => ?_
      by_cases e : x = l
      · subst e; rw [getD_set_eq _ _ _ _ (by omega)]
      · rw [getD_set_ne _ _ _ _ _ (Ne.symm e)]; exact h x (by omega)
    · rw [decide_eq_false hc, cond_false]
      have e : l = many := by omega
      subst e
      exact ⟨_, out, rfl, hlen, h⟩
/-- The first i are written down. -/
structure Hd (many : Nat) (before : List Int) (i : Nat) (out : List Int) : Prop where
  len : out.length = many
  h1 : ∀ x, x < i → out.getD (before.getD x 0).toNat 0 = (x : Int)
  h2 : ∀ l v : Nat, l < many → out.getD l 0 = (v : Int) → v < i ∧ (before.getD v 0).toNat = l
  h3 : ∀ l, l < many → -1 ≤ out.getD l 0
theorem holders_L2 (many : Nat) (before : List Int) (hb : ∀ i, i < before.length → 0 ≤ before.getD i 0 ∧ before.getD i 0 < many) (hi : ∀ x y, x < before.length → y < before.length → (before.getD x 0).toNat = (before.getD y 0).toNat → x = y) :
    ∀ (fuel i : Nat) (out : List Int), before.length - i < fuel → i ≤ before.length → Hd many before i out → ∃ i' out', F_spec_l7Holders_L2 before fuel (i, out) = .next (i', out') ∧ Hd many before before.length out' := by
  intro fuel
  induction fuel with
  | zero => intro i out hf; omega
  | succ mf ih =>
    intro i out hf hil h
    rw [F_spec_l7Holders_L2_s]
    by_cases hc : (i : Int) < (before.length : Int)
    · rw [decide_eq_true hc, cond_true]
      have hbi := hb i (by omega)
      have hlen := h.len
      refine ih (i + 1) _ (by omega) (by omega) ⟨by rw [List.length_set]; exact hlen, fun x hx => ?_, fun l v hl hv => ?_, fun l hl => ?_⟩
      · by_cases e : x = i
        · subst e; rw [getD_set_eq _ _ _ _ (by omega)]
        · rw [getD_set_ne _ _ _ _ _ (fun hh => e (hi x i (by omega) (by omega) hh.symm))]; exact h.h1 x (by omega)
      · by_cases e : (before.getD i 0).toNat = l
        · rw [e, getD_set_eq _ _ _ _ (by omega)] at hv
          have : v = i := by omega
          subst this; exact ⟨by omega, e⟩
        · rw [getD_set_ne _ _ _ _ _ e] at hv
          have := h.h2 l v hl hv
          exact ⟨by omega, this.2⟩
      · by_cases e : (before.getD i 0).toNat = l
        · rw [e, getD_set_eq _ _ _ _ (by omega)]; omega
        · rw [getD_set_ne _ _ _ _ _ e]; exact h.h3 l hl
    · rw [decide_eq_false hc, cond_false]
      have e : i = before.length := by omega
      subst e
      exact ⟨_, out, rfl, h⟩
theorem holders_hd (many : Nat) (before : List Int) (hb : ∀ i, i < before.length → 0 ≤ before.getD i 0 ∧ before.getD i 0 < many) (hi : ∀ x y, x < before.length → y < before.length → (before.getD x 0).toNat = (before.getD y 0).toNat → x = y) :
    Hd many before before.length (F_spec_l7Holders (many : Int) before) := by
  unfold F_spec_l7Holders
  rw [Int.toNat_natCast]
  obtain ⟨l', out, h1, h2, h3⟩ := holders_L1 many (many - 0 + 1) 0 (List.replicate many 0) (by omega) (Nat.zero_le _) (by simp) (fun x hx => by omega)
  rw [h1, elim_next]
  dsimp only
  obtain ⟨i', out', h4, h5⟩ := holders_L2 many before hb hi (before.length - 0 + 1) 0 out (by omega) (Nat.zero_le _) ⟨h2, fun x hx => by omega, fun l v hl hv => by rw [h3 l hl] at hv; omega, fun l hl => by rw [h3 l hl]; omega⟩
  rw [h4, elim_next]
  exact h5
/-- A best chain list of the first places, with prices that pay for it exactly. -/
structure Aq (m : List (List Int)) (a reqs before : List Int) (p r : Nat → Int) : Prop where
  sv : Sv m a reqs
  lr : before.length ≤ reqs.length
  nb : ∀ x, x < before.length → 0 ≤ before.getD x 0
  cert : Th.Cert before.length (a.length + reqs.length) (fun l x => gap m a reqs l x) (fun l x => l < a.length + x) (Th.colOf before) p r
  pb : ∀ x, x < before.length → 0 ≤ p x ∧ p x ≤ 99 * before.length
section
variable {m : List (List Int)} {a reqs before : List Int} {p r : Nat → Int}
theorem Aq.hb (h : Aq m a reqs before p r) : ∀ i, i < before.length → 0 ≤ before.getD i 0 ∧ before.getD i 0 < (a.length : Int) + (before.length : Int) := fun i hi => by
  have h1 := h.nb i hi
  have h2 := h.cert.mt.ok i hi
  unfold Th.colOf at h2
  omega
theorem Aq.rq (h : Aq m a reqs before p r) (hl : before.length < reqs.length) : Rq m a reqs before (F_spec_l7Holders ((a.length : Int) + (before.length : Int)) before) (fun x => if x = before.length then 0 else p x) r := by
  have hH := holders_hd (a.length + before.length) before (fun i hi => by have := h.hb i hi; omega) (fun x y hx hy he => h.cert.mt.inj x y hx hy he)
  rw [show ((a.length + before.length : Nat) : Int) = (a.length : Int) + (before.length : Int) by omega] at hH
  generalize F_spec_l7Holders ((a.length : Int) + (before.length : Int)) before = hold at hH ⊢
  have hlen := hH.len
  have hd : ∀ l, l < a.length + before.length → hold.getD l (-1) = hold.getD l 0 := fun l hl => by rw [getD_lt _ _ _ (by omega), getD_lt _ _ _ (by omega)]
  have hr60 := h.sv.r60
  have hk := h.sv.cf.n1
  have hk3 := h.sv.cf.n3
  have hg := h.sv
  refine ⟨h.sv, hl, ⟨by omega, ⟨h.cert.mt, fun i l hi hl hk => ?_, h.cert.nn, fun i hi => ?_, h.cert.free⟩, rfl, h.nb, hlen, fun x hx => ?_, fun l v hv => ?_, fun l => ?_, fun l x => gap_all hg l x, by omega, if_pos rfl, fun x hx => ?_, hk, hk3⟩⟩
  · rw [if_neg (by omega)]; exact h.cert.feas i l hi hl hk
  · rw [if_neg (by omega)]; exact h.cert.tight i hi
  · have := h.hb x hx
    rw [hd _ (by unfold Th.colOf; omega)]
    exact hH.h1 x hx
  · by_cases e : l < a.length + before.length
    · rw [hd l e] at hv; exact hH.h2 l v e hv
    · rw [getD_ge _ _ _ (by omega)] at hv; omega
  · by_cases e : l < a.length + before.length
    · rw [hd l e]; exact hH.h3 l e
    · rw [getD_ge _ _ _ (by omega)]; omega
  · by_cases e : x = before.length
    · rw [if_pos e]; omega
    · rw [if_neg e]; exact h.pb x (by omega)
variable {holders : List Int} {far frm : List Int} {D : Int}
theorem add_take (h : Rq m a reqs before holders p r) {x0 l0 at_ l : Nat} (hB : Th.Best before.length a.length (fun l x => gap m a reqs l x) holders far x0 l0 D at_ l) (hx : x0 ≤ before.length) (hl : l0 < a.length + x0)
    (ht : holders.getD l0 0 < 0 ∧ far.getD x0 0 + F_spec_l7Gap m a reqs (l0 : Int) (x0 : Int) < D) : Th.Best before.length a.length (fun l x => gap m a reqs l x) holders far x0 (l0 + 1) (far.getD x0 0 + F_spec_l7Gap m a reqs (l0 : Int) (x0 : Int)) x0 l0 := by
  rw [gap_eq] at ht ⊢
  exact hB.take hx hl (by rw [← hold_d h.pre.lh (by omega)]; exact ht.1) ht.2
theorem add_keep (h : Rq m a reqs before holders p r) {x0 l0 at_ l : Nat} (hB : Th.Best before.length a.length (fun l x => gap m a reqs l x) holders far x0 l0 D at_ l) (hl : l0 < a.length + before.length)
    (ht : ¬ holders.getD l0 0 < 0 ∨ ¬ far.getD x0 0 + F_spec_l7Gap m a reqs (l0 : Int) (x0 : Int) < D) : Th.Best before.length a.length (fun l x => gap m a reqs l x) holders far x0 (l0 + 1) D at_ l := by
  rw [gap_eq] at ht
  refine hB.keep fun hh => ?_
  rw [← hold_d h.pre.lh hl] at hh
  rcases ht with ht | ht
  · exact ht hh.1
  · exact ht hh.2
theorem add_step (h : Rq m a reqs before holders p r) (hf : Th.Fin before.length a.length (fun l x => gap m a reqs l x) holders p far frm) {out : List Int} {x l : Int} (hx : 0 ≤ x) (hl : 0 ≤ l)
    (hA : Th.Ag before.length a.length (a.length + reqs.length) (fun l x => gap m a reqs l x) before holders p r far frm D out x.toNat l.toNat) (hne : ¬ x = (before.length : Int)) :
    0 ≤ frm.getD x.toNat 0 ∧ 0 ≤ out.getD x.toNat 0 ∧ Th.Ag before.length a.length (a.length + reqs.length) (fun l x => gap m a reqs l x) before holders p r far frm D (out.set x.toNat l) (frm.getD x.toNat 0).toNat (out.getD x.toNat 0).toNat ∧
      Th.dep before.length frm (before.length + 1) (frm.getD x.toNat 0).toNat < Th.dep before.length frm (before.length + 1) x.toNat := by
  have hne' : x.toNat ≠ before.length := by omega
  have hs := hA.step h.pre hf hne'
  rw [Int.toNat_of_nonneg hl] at hs
  obtain ⟨_, y, hy, hfy, _, _, _, hdd⟩ := hA.back h.pre hf hne'
  have hai := hA.ai
  refine ⟨by rw [hfy]; omega, hA.nn _ (by omega), hs, ?_⟩
  obtain ⟨d, hd, _⟩ := hA.ch
  obtain ⟨d1, rfl, hd1⟩ := hdd d hd
  rw [hfy, Int.toNat_natCast]
  have hle := hd.le
  rw [hd1.dep _ (by omega), hd.dep _ (by omega)]
  omega
/-! the row that is added -/
theorem add_L2 (hq : Rq m a reqs before (F_spec_l7Holders ((a.length : Int) + (before.length : Int)) before) p r) {x : Nat} (hx : x ≤ before.length) : ∀ (fuel l0 : Nat) (D : Int) (at_ l : Nat), a.length + x - l0 < fuel → l0 ≤ a.length + x →
    Th.Best before.length a.length (fun l x => gap m a reqs l x) (F_spec_l7Holders ((a.length : Int) + (before.length : Int)) before) (F_spec_l7Reach m a reqs before (F_spec_l7Holders ((a.length : Int) + (before.length : Int)) before)).1 x l0 D at_ l →
    ∃ D' at' l' q, F_spec_l7Add_L2 m a reqs before x fuel (D, at_, l, l0) = .next (D', at', l', q) ∧ Th.Best before.length a.length (fun l x => gap m a reqs l x) (F_spec_l7Holders ((a.length : Int) + (before.length : Int)) before) (F_spec_l7Reach m a reqs before (F_spec_l7Holders ((a.length : Int) + (before.length : Int)) before)).1 (x + 1) 0 D' at' l' := by
  intro fuel
  induction fuel with
  | zero => intro l0 D at_ l hf; omega
  | succ mf ih =>
    intro l0 D at_ l hf hl hB
    rw [F_spec_l7Add_L2_s]
    by_cases hc : (l0 : Int) < (a.length : Int) + (x : Int)
    · rw [decide_eq_true hc, cond_true]
      cases ht : ((decide (((F_spec_l7Holders ((a.length : Int) + (before.length : Int)) before).getD l0 0) < 0)) && (decide (((F_spec_l7Reach m a reqs before (F_spec_l7Holders ((a.length : Int) + (before.length : Int)) before)).1.getD x 0) + (F_spec_l7Gap m a reqs (l0 : Int) (x : Int)) < D))) with
      | true =>
        rw [cond_true]
        rw [Bool.and_eq_true, decide_eq_true_eq, decide_eq_true_eq] at ht
        exact ih (l0 + 1) _ _ _ (by omega) (by omega) (add_take hq hB hx (by omega) ht)
      | false =>
        rw [cond_false]
        rw [Bool.and_eq_false_iff, decide_eq_false_iff_not, decide_eq_false_iff_not] at ht
        exact ih (l0 + 1) _ _ _ (by omega) (by omega) (add_keep hq hB (by omega) ht)
    · rw [decide_eq_false hc, cond_false]
      exact ⟨D, at_, l, l0, rfl, hB.row (by omega)⟩
theorem add_L1 (hq : Rq m a reqs before (F_spec_l7Holders ((a.length : Int) + (before.length : Int)) before) p r) : ∀ (fuel x : Nat) (D : Int) (at_ l : Nat), before.length + 1 - x < fuel → x ≤ before.length + 1 →
    Th.Best before.length a.length (fun l x => gap m a reqs l x) (F_spec_l7Holders ((a.length : Int) + (before.length : Int)) before) (F_spec_l7Reach m a reqs before (F_spec_l7Holders ((a.length : Int) + (before.length : Int)) before)).1 x 0 D at_ l →
    ∃ D' at' l' q, F_spec_l7Add_L1 m a reqs before fuel (D, at_, l, x) = .next (D', at', l', q) ∧ Th.Best before.length a.length (fun l x => gap m a reqs l x) (F_spec_l7Holders ((a.length : Int) + (before.length : Int)) before) (F_spec_l7Reach m a reqs before (F_spec_l7Holders ((a.length : Int) + (before.length : Int)) before)).1 (before.length + 1) 0 D' at' l' := by
  intro fuel
  induction fuel with
  | zero => intro x D at_ l hf; omega
  | succ mf ih =>
    intro x D at_ l hf hx hB
    rw [F_spec_l7Add_L1_s]
    by_cases hc : (x : Int) ≤ (before.length : Int)
    · rw [decide_eq_true hc, cond_true]
      obtain ⟨D', at', l', q, h1, h2⟩ := add_L2 hq (x := x) (by omega) ((((a.length : Int) + (x : Int)).toNat) - 0 + 1) 0 D at_ l (by omega) (by omega) hB
      rw [h1, elim_next]
      exact ih (x + 1) D' at' l' (by omega) (by omega) h2
    · rw [decide_eq_false hc, cond_false]
      have e : x = before.length + 1 := by omega
      subst e
      exact ⟨D, at_, l, _, rfl, hB⟩
theorem add_L3 (hq : Rq m a reqs before (F_spec_l7Holders ((a.length : Int) + (before.length : Int)) before) p r) : ∀ (fuel : Nat) (x l : Int) (out : List Int), 0 ≤ x → 0 ≤ l →
    Th.Ag before.length a.length (a.length + reqs.length) (fun l x => gap m a reqs l x) before (F_spec_l7Holders ((a.length : Int) + (before.length : Int)) before) p r (F_spec_l7Reach m a reqs before (F_spec_l7Holders ((a.length : Int) + (before.length : Int)) before)).1 (F_spec_l7Reach m a reqs before (F_spec_l7Holders ((a.length : Int) + (before.length : Int)) before)).2 D out x.toNat l.toNat →
    Th.dep before.length (F_spec_l7Reach m a reqs before (F_spec_l7Holders ((a.length : Int) + (before.length : Int)) before)).2 (before.length + 1) x.toNat < fuel →
    ∃ x' l' out', F_spec_l7Add_L3 m a reqs before fuel (x, l, out) = .next (x', l', out') ∧ 0 ≤ l' ∧
      Th.Ag before.length a.length (a.length + reqs.length) (fun l x => gap m a reqs l x) before (F_spec_l7Holders ((a.length : Int) + (before.length : Int)) before) p r (F_spec_l7Reach m a reqs before (F_spec_l7Holders ((a.length : Int) + (before.length : Int)) before)).1 (F_spec_l7Reach m a reqs before (F_spec_l7Holders ((a.length : Int) + (before.length : Int)) before)).2 D out' before.length l'.toNat := by
  intro fuel
  induction fuel with
  | zero => intro x l out _ _ _ hf; omega
  | succ mf ih =>
    intro x l out hx hl hA hf
    rw [F_spec_l7Add_L3_s]
    by_cases hc : x = (before.length : Int)
    · rw [decide_eq_true hc, Bool.not_true, cond_false]
      have e : x.toNat = before.length := by omega
      rw [e] at hA
      exact ⟨x, l, out, rfl, hl, hA⟩
    · rw [decide_eq_false hc, Bool.not_false, cond_true]
      obtain ⟨h1, h2, h3, h4⟩ := add_step hq (reach_fin hq) hx hl hA hc
      exact ih _ _ _ h1 h2 h3 (by omega)
theorem aq_add' (h : Aq m a reqs before p r) (hl : before.length < reqs.length) : (∃ p' r', Aq m a reqs (F_spec_l7Add m a reqs before) p' r') ∧ (F_spec_l7Add m a reqs before).length = before.length + 1 := by
  have hq := h.rq hl
  have hF := reach_fin hq
  unfold F_spec_l7Add
  obtain ⟨D, at_, l, q, h1, h2⟩ := add_L1 hq (before.length + 1 - 0 + 1) 0 1099511627776 0 0 (by omega) (by omega) Th.Best.init
  rw [h1, elim_next]
  dsimp only
  obtain ⟨hP, hD⟩ := h2.pick (by omega) hq.pre hF.bf.src
  have hA := Th.Ag.init hq.pre hF hP
  rw [show at_ = ((at_ : Int)).toNat by omega, show l = ((l : Int)).toNat by omega] at hA
  obtain ⟨x', l', out, h3, h4, h5⟩ := add_L3 (D := D) hq (Th.dep before.length (F_spec_l7Reach m a reqs before (F_spec_l7Holders ((a.length : Int) + (before.length : Int)) before)).2 (before.length + 1) ((at_ : Int)).toNat + 1) (at_ : Int) (l : Int) (before ++ [0]) (by omega) (by omega) hA (Nat.lt_succ_self _)
  rw [h3, elim_next]
  dsimp only
  have hlo := h5.lo
  have hdone := h5.done hq.pre hF hP
  rw [Int.toNat_of_nonneg h4] at hdone
  have hlen : (out.set before.length l').length = before.length + 1 := by rw [List.length_set]; exact hlo
  refine ⟨⟨_, _, ⟨h.sv, by omega, fun x hx => ?_, by rw [hlen]; exact hdone, fun x hx => ?_⟩⟩, hlen⟩
  · by_cases e : x = before.length
    · subst e; rw [getD_set_eq _ _ _ _ (by omega)]; exact h4
    · rw [getD_set_ne _ _ _ _ _ (Ne.symm e)]; exact h5.nn x (by omega)
  · rw [hlen] at hx ⊢
    have := Th.np_bd (D := D) hq.pre hF.bf hD (x := x) (by omega)
    have h6 := Th.np_ge (fun x => if x = before.length then 0 else p x) (F_spec_l7Reach m a reqs before (F_spec_l7Holders ((a.length : Int) + (before.length : Int)) before)).1 D x
    have h7 := hq.pre.pb x (by omega)
    exact ⟨by omega, by omega⟩
end
theorem aq_add {m : List (List Int)} {a reqs before : List Int} (h : ∃ p r, Aq m a reqs before p r) (hl : before.length < reqs.length) : (∃ p' r', Aq m a reqs (F_spec_l7Add m a reqs before) p' r') ∧ (F_spec_l7Add m a reqs before).length = before.length + 1 := by
  obtain ⟨p, r, h⟩ := h
  exact aq_add' h hl
theorem aq_nil {m : List (List Int)} {a reqs : List Int} (h : Sv m a reqs) : ∃ p r, Aq m a reqs [] p r :=
  ⟨fun _ => 0, fun _ => 0, h, Nat.zero_le _, fun x hx => absurd hx (by simp), ⟨⟨fun i hi => absurd hi (by simp), fun i hi => absurd hi (by simp), fun i j hi => absurd hi (by simp)⟩, fun i l hi => absurd hi (by simp), fun _ _ => Int.le_refl _, fun i hi => absurd hi (by simp), fun _ _ _ => rfl⟩, fun x hx => absurd hx (by simp)⟩
theorem flow_L {m : List (List Int)} {a reqs : List Int} : ∀ (fuel : Nat) (out : List Int), reqs.length - out.length < fuel → out.length ≤ reqs.length → (∃ p r, Aq m a reqs out p r) →
    ∃ out', F_spec_l7Flow_L1 m a reqs fuel out = .next out' ∧ out'.length = reqs.length ∧ ∃ p r, Aq m a reqs out' p r := by
  intro fuel
  induction fuel with
  | zero => intro out hf; omega
  | succ mf ih =>
    intro out hf hl hA
    rw [F_spec_l7Flow_L1_s]
    by_cases hc : (out.length : Int) < (reqs.length : Int)
    · rw [decide_eq_true hc, cond_true]
      obtain ⟨h1, h2⟩ := aq_add hA (by omega)
      exact ih _ (by omega) (by omega) h1
    · rw [decide_eq_false hc, cond_false]
      exact ⟨out, rfl, by omega, hA⟩
/-- The reference's chain list is a best one. -/
theorem flow_aq {m : List (List Int)} {a reqs : List Int} (h : Sv m a reqs) : (F_spec_l7Flow m a reqs).length = reqs.length ∧ ∃ p r, Aq m a reqs (F_spec_l7Flow m a reqs) p r := by
  unfold F_spec_l7Flow
  obtain ⟨out, h1, h2, h3⟩ := flow_L (m := m) (a := a) (reqs := reqs) (reqs.length - ([] : List Int).length + 1) [] (by omega) (Nat.zero_le _) (aq_nil h)
  rw [h1, elim_next]
  exact ⟨h2, h3⟩
theorem flow_ok {m : List (List Int)} {a reqs : List Int} (h : Sv m a reqs) : (F_spec_l7Flow m a reqs).length = reqs.length ∧ (∀ i, i < (F_spec_l7Flow m a reqs).length → 0 ≤ (F_spec_l7Flow m a reqs).getD i 0 ∧ (F_spec_l7Flow m a reqs).getD i 0 < a.length + reqs.length) ∧ ∃ p r, Aq m a reqs (F_spec_l7Flow m a reqs) p r := by
  obtain ⟨h1, p, r, h2⟩ := flow_aq h
  refine ⟨h1, fun i hi => ?_, p, r, h2⟩
  have := h2.hb i hi
  omega
theorem cost_L (m : List (List Int)) (a reqs before : List Int) (hb : ∀ i, i < before.length → 0 ≤ before.getD i 0) : ∀ (fuel i : Nat) (s : Int), before.length - i < fuel → i ≤ before.length → s = Th.cost (fun l x => gap m a reqs l x) (Th.colOf before) i →
    ∃ i', F_spec_l7Cost_L1 m a reqs before fuel (s, i) = .next (Th.cost (fun l x => gap m a reqs l x) (Th.colOf before) before.length, i') := by
  intro fuel
  induction fuel with
  | zero => intro i s hf; omega
  | succ mf ih =>
    intro i s hf hi hs
    rw [F_spec_l7Cost_L1_s]
    by_cases hc : (i : Int) < (before.length : Int)
    · rw [decide_eq_true hc, cond_true]
      refine ih (i + 1) _ (by omega) (by omega) ?_
      have e : before.getD i 0 = ((Th.colOf before i : Nat) : Int) := by have := hb i (by omega); unfold Th.colOf; omega
      rw [hs, e, gap_eq]
      rfl
    · rw [decide_eq_false hc, cond_false]
      have e : i = before.length := by omega
      subst e
      exact ⟨_, by rw [hs]⟩
theorem l7Cost_eq (m : List (List Int)) (a reqs before : List Int) (hb : ∀ i, i < before.length → 0 ≤ before.getD i 0) : F_spec_l7Cost m a reqs before = Th.cost (fun l x => gap m a reqs l x) (Th.colOf before) before.length := by
  unfold F_spec_l7Cost
  obtain ⟨i', h⟩ := cost_L m a reqs before hb (before.length - 0 + 1) 0 0 (by omega) (Nat.zero_le _) rfl
  rw [h]; rfl
end Go.Proofs.Ytgnikdpgndmldaa
namespace Go.Proofs.Ytgnikdpgndmldaa
set_option linter.unusedVariables false
set_option linter.unusedSimpArgs false
open Go Go.RowKit
set_option linter.unusedVariables false

/-- Costs that may be asked for. -/
structure Cs (costs : List (List Int)) : Prop where
  n60 : costs.length ≤ 60
  rows : ∀ i, i < costs.length → (costs.getD i []).length = (costs.getD 0 []).length
  nm : costs.length ≠ 0 → costs.length < (costs.getD 0 []).length ∧ (costs.getD 0 []).length ≤ 63
  el : ∀ i j, 0 ≤ (costs.getD i []).getD j 0 ∧ (costs.getD i []).getD j 0 ≤ 1073741824
/-- The cost of a row and a column, both counted from one. -/
def hC (costs : List (List Int)) (x j : Nat) : Int := (costs.getD (x - 1) []).getD (j - 1) 0
section
variable {costs : List (List Int)} {u v rowOf least way least0 way0 : List Int} {used : List Bool} {n m i at_ to j0 j1 : Nat} {delta : Int} {C : Nat → Nat → Int}
theorem hu_start (h : Cs costs) (hn : costs.length < (costs.getD 0 []).length ∧ (costs.getD 0 []).length ≤ 63) :
    Th.Hu costs.length (costs.getD 0 []).length (hC costs) (1 - 1) (List.replicate (costs.length + 1) 0) (List.replicate ((costs.getD 0 []).length + 1) 0) (List.replicate ((costs.getD 0 []).length + 1) 0) :=
  Th.Hu.start hn.1 h.n60 hn.2 fun x j => h.el _ _
theorem hu_next (h : Th.Ax n m C i u v way rowOf at_) (h0 : at_ = 0) : Th.Hu n m C (i + 1 - 1) u v rowOf := by subst h0; exact h.hu
theorem hu_end (h : Th.Hu n m C (i - 1) u v rowOf) (h0 : i = n + 1) : Th.Hu n m C n u v rowOf := by subst h0; exact h
theorem sr_init (h : Th.Hu costs.length (costs.getD 0 []).length C (i - 1) u v rowOf) (h1 : 1 ≤ i) (hi : i ≤ costs.length) {le : List Int} (hle : le = List.replicate ((((costs.getD 0 []).length : Int) + 1).toNat) 1152921504606846976) :
    Th.Sr costs.length (costs.getD 0 []).length C i (rowOf.set 0 (i : Int)) u v (List.replicate ((costs.getD 0 []).length + 1) false) le (List.replicate ((costs.getD 0 []).length + 1) 0) 0 := by
  have e : i - 1 + 1 = i := by omega
  have hI := h.inn (q := i - 1) (by omega)
  rw [e] at hI
  subst hle
  refine Th.Sr.init hI (by simp) (by simp) (by simp) (fun j hj => ?_) fun j h1 h2 => ?_
  · rw [getD_rep _ _ _ _ (by omega)]
  · rw [getD_rep _ _ _ _ (by omega)]
theorem sr_mu (h : Th.Sr n m C i rowOf u v used least way at_) : m + 1 - (used.set at_ true).countP id < m + 1 - used.countP id := by
  have h1 := h.lus
  have h2 := h.atm
  have h3 := Th.bset_count (l := used) (k := at_) (by omega) h.atu
  have h4 := List.countP_le_length (p := id) (l := used.set at_ true)
  rw [List.length_set] at h4
  omega
theorem sr_ur (h : Th.Sr n m C i rowOf u v used least way at_) : ∀ j, j ≤ m → (used.set at_ true).getD j false = true → rowOf.getD j 0 ≠ 0 := fun j hj hu => by
  obtain ⟨x, h1, h2, _⟩ := h.row hj hu; omega
theorem sr_next (h : Th.Sr n m C i rowOf u v used least0 way0 at_) (hS : Th.Sc n m C i rowOf u v used least0 way0 at_ least way j0 delta to) {u2 v2 le2 : List Int} (hR : Th.Risen n m C i rowOf u2 v2 (used.set at_ true) le2 way to) (hne : ¬ rowOf.getD to 0 = 0) :
    Th.Sr n m C i rowOf u2 v2 (used.set at_ true) le2 way to := hR.next (by rw [List.length_set]; exact h.lus) hS.lwa h.zero (sr_ur h) hne
theorem sr_ax (h : Th.Sr n m C i rowOf u v used least0 way0 at_) (hS : Th.Sc n m C i rowOf u v used least0 way0 at_ least way j0 delta to) {u2 v2 le2 : List Int} (hR : Th.Risen n m C i rowOf u2 v2 (used.set at_ true) le2 way to) (h0 : rowOf.getD to 0 = 0) :
    Th.Ax n m C i u2 v2 way rowOf ((to : Int)).toNat := by
  rw [Int.toNat_natCast]
  exact hR.ax (by rw [List.length_set]; exact h.lus) hS.lwa (sr_ur h) h0
theorem ax_step {x : Int} (h0 : 0 ≤ x) (h : Th.Ax n m C i u v way rowOf x.toNat) (hne : ¬ x = 0) :
    0 ≤ way.getD x.toNat 0 ∧ Th.Ax n m C i u v way (rowOf.set x.toNat (rowOf.getD (way.getD x.toNat 0).toNat 0)) (way.getD x.toNat 0).toNat ∧ Th.dep 0 way (m + 1) (way.getD x.toNat 0).toNat < Th.dep 0 way (m + 1) x.toNat ∧ way.getD x.toNat 0 ≤ m := by
  obtain ⟨h1, h2, h3⟩ := h.step (by omega)
  have := h1.atm
  exact ⟨h2, h1, h3, by omega⟩
theorem sr_row (h : Th.Sr n m C i rowOf u v used least way at_) : Hid (1 ≤ rowOf.getD at_ 0 ∧ rowOf.getD at_ 0 ≤ n) := by
  obtain ⟨x, h1, h2, h3⟩ := h.row h.atm h.self
  have := h.inn.i_n
  show _ ∧ _
  omega
theorem cs_row (h : Cs costs) {x : Int} (hr : Hid (1 ≤ x ∧ x ≤ costs.length)) : Hid ((costs.getD (x - 1).toNat []).length = (costs.getD 0 []).length) := by
  obtain ⟨h1, h2⟩ := hr
  exact h.rows (x - 1).toNat (by omega)
theorem sr_ub (h : Th.Sr n m C i rowOf u v used least way at_) : Hid (0 ≤ u.getD (rowOf.getD at_ 0).toNat 0 ∧ u.getD (rowOf.getD at_ 0).toNat 0 ≤ 1073741824) := by
  obtain ⟨x, h1, h2, h3⟩ := h.row h.atm h.self
  rw [h1, Int.toNat_natCast]
  exact h.inn.ub x h2 h3
/-- A column's slack, as it is computed. -/
theorem own_eq (h : Th.Sr n m (hC costs) i rowOf u v used least way at_) {j : Nat} (hj : 1 ≤ j) : ∃ x0 : Nat, rowOf.getD at_ 0 = (x0 : Int) ∧
    (((costs.getD ((rowOf.getD at_ 0 - 1).toNat) []).getD (((j : Int) - 1).toNat) 0) - (u.getD ((rowOf.getD at_ 0).toNat) 0)) - (v.getD j 0) = hC costs x0 j - u.getD x0 0 - v.getD j 0 := by
  obtain ⟨x0, h1, h2, _⟩ := h.row h.atm h.self
  refine ⟨x0, h1, ?_⟩
  unfold hC
  rw [h1, Int.toNat_natCast, show ((x0 : Int) - 1).toNat = x0 - 1 by omega, show ((j : Int) - 1).toNat = j - 1 by omega]
theorem sc_any (h : Th.Sr n m (hC costs) i rowOf u v used least0 way0 at_) (hS : Th.Sc n m (hC costs) i rowOf u v used least0 way0 at_ least way j0 delta to) (hj : j0 ≤ m) (hu : (used.set at_ true).getD j0 false = false)
    {least' way' : List Int} {delta' : Int} {to' : Nat}
    (hl : ((((costs.getD ((rowOf.getD at_ 0 - 1).toNat) []).getD (((j0 : Int) - 1).toNat) 0) - (u.getD ((rowOf.getD at_ 0).toNat) 0)) - (v.getD j0 0) < least.getD j0 0 ∧ least' = least.set j0 ((((costs.getD ((rowOf.getD at_ 0 - 1).toNat) []).getD (((j0 : Int) - 1).toNat) 0) - (u.getD ((rowOf.getD at_ 0).toNat) 0)) - (v.getD j0 0)) ∧ way' = way.set j0 (at_ : Int)) ∨
      (¬ (((costs.getD ((rowOf.getD at_ 0 - 1).toNat) []).getD (((j0 : Int) - 1).toNat) 0) - (u.getD ((rowOf.getD at_ 0).toNat) 0)) - (v.getD j0 0) < least.getD j0 0 ∧ least' = least ∧ way' = way))
    (hd : (least'.getD j0 0 < delta ∧ delta' = least'.getD j0 0 ∧ to' = j0) ∨ (¬ least'.getD j0 0 < delta ∧ delta' = delta ∧ to' = to)) :
    Th.Sc n m (hC costs) i rowOf u v used least0 way0 at_ least' way' (j0 + 1) delta' to' := by
  obtain ⟨x0, h1, h2⟩ := own_eq h (j := j0) hS.j1
  rw [h2] at hl
  exact hS.step h hj hu h1 hl hd
theorem sc_tt (h : Th.Sr n m (hC costs) i rowOf u v used least0 way0 at_) (hS : Th.Sc n m (hC costs) i rowOf u v used least0 way0 at_ least way j0 delta to) (hj : j0 ≤ m) (hu : (used.set at_ true).getD j0 false = false)
    (h1 : (((costs.getD ((rowOf.getD at_ 0 - 1).toNat) []).getD (((j0 : Int) - 1).toNat) 0) - (u.getD ((rowOf.getD at_ 0).toNat) 0)) - (v.getD j0 0) < least.getD j0 0)
    (h2 : (least.set j0 ((((costs.getD ((rowOf.getD at_ 0 - 1).toNat) []).getD (((j0 : Int) - 1).toNat) 0) - (u.getD ((rowOf.getD at_ 0).toNat) 0)) - (v.getD j0 0))).getD j0 0 < delta) :
    Th.Sc n m (hC costs) i rowOf u v used least0 way0 at_ (least.set j0 ((((costs.getD ((rowOf.getD at_ 0 - 1).toNat) []).getD (((j0 : Int) - 1).toNat) 0) - (u.getD ((rowOf.getD at_ 0).toNat) 0)) - (v.getD j0 0))) (way.set j0 (at_ : Int)) (j0 + 1)
      ((least.set j0 ((((costs.getD ((rowOf.getD at_ 0 - 1).toNat) []).getD (((j0 : Int) - 1).toNat) 0) - (u.getD ((rowOf.getD at_ 0).toNat) 0)) - (v.getD j0 0))).getD j0 0) j0 :=
  sc_any h hS hj hu (.inl ⟨h1, rfl, rfl⟩) (.inl ⟨h2, rfl, rfl⟩)
theorem sc_tf (h : Th.Sr n m (hC costs) i rowOf u v used least0 way0 at_) (hS : Th.Sc n m (hC costs) i rowOf u v used least0 way0 at_ least way j0 delta to) (hj : j0 ≤ m) (hu : (used.set at_ true).getD j0 false = false)
    (h1 : (((costs.getD ((rowOf.getD at_ 0 - 1).toNat) []).getD (((j0 : Int) - 1).toNat) 0) - (u.getD ((rowOf.getD at_ 0).toNat) 0)) - (v.getD j0 0) < least.getD j0 0)
    (h2 : ¬ (least.set j0 ((((costs.getD ((rowOf.getD at_ 0 - 1).toNat) []).getD (((j0 : Int) - 1).toNat) 0) - (u.getD ((rowOf.getD at_ 0).toNat) 0)) - (v.getD j0 0))).getD j0 0 < delta) :
    Th.Sc n m (hC costs) i rowOf u v used least0 way0 at_ (least.set j0 ((((costs.getD ((rowOf.getD at_ 0 - 1).toNat) []).getD (((j0 : Int) - 1).toNat) 0) - (u.getD ((rowOf.getD at_ 0).toNat) 0)) - (v.getD j0 0))) (way.set j0 (at_ : Int)) (j0 + 1) delta to :=
  sc_any h hS hj hu (.inl ⟨h1, rfl, rfl⟩) (.inr ⟨h2, rfl, rfl⟩)
theorem sc_ft (h : Th.Sr n m (hC costs) i rowOf u v used least0 way0 at_) (hS : Th.Sc n m (hC costs) i rowOf u v used least0 way0 at_ least way j0 delta to) (hj : j0 ≤ m) (hu : (used.set at_ true).getD j0 false = false)
    (h1 : ¬ (((costs.getD ((rowOf.getD at_ 0 - 1).toNat) []).getD (((j0 : Int) - 1).toNat) 0) - (u.getD ((rowOf.getD at_ 0).toNat) 0)) - (v.getD j0 0) < least.getD j0 0) (h2 : least.getD j0 0 < delta) :
    Th.Sc n m (hC costs) i rowOf u v used least0 way0 at_ least way (j0 + 1) (least.getD j0 0) j0 := sc_any h hS hj hu (.inr ⟨h1, rfl, rfl⟩) (.inl ⟨h2, rfl, rfl⟩)
theorem sc_ff (h : Th.Sr n m (hC costs) i rowOf u v used least0 way0 at_) (hS : Th.Sc n m (hC costs) i rowOf u v used least0 way0 at_ least way j0 delta to) (hj : j0 ≤ m) (hu : (used.set at_ true).getD j0 false = false)
    (h1 : ¬ (((costs.getD ((rowOf.getD at_ 0 - 1).toNat) []).getD (((j0 : Int) - 1).toNat) 0) - (u.getD ((rowOf.getD at_ 0).toNat) 0)) - (v.getD j0 0) < least.getD j0 0) (h2 : ¬ least.getD j0 0 < delta) :
    Th.Sc n m (hC costs) i rowOf u v used least0 way0 at_ least way (j0 + 1) delta to := sc_any h hS hj hu (.inr ⟨h1, rfl, rfl⟩) (.inr ⟨h2, rfl, rfl⟩)
theorem up_yes (h : Th.Sr n m C i rowOf u v used least0 way0 at_) {u2 v2 le2 : List Int} (hU : Th.Up n m rowOf (used.set at_ true) delta u v least j1 u2 v2 le2) (hj : j1 ≤ m) (hu : (used.set at_ true).getD j1 false = true) :
    Th.Up n m rowOf (used.set at_ true) delta u v least (j1 + 1) (u2.set (rowOf.getD j1 0).toNat (u2.getD (rowOf.getD j1 0).toNat 0 + delta)) (v2.set j1 (v2.getD j1 0 - delta)) le2 := by
  obtain ⟨x, h1, h2, h3⟩ := h.row hj hu
  have hin := h.inn.i_n
  rw [h1, Int.toNat_natCast]
  exact hU.yes hj hu h1 (by omega) fun y hy hyu hyx => h.inn.inj y j1 hy hj (by rw [hyx, h1]) (by omega)
theorem up_bd (h : Th.Sr n m C i rowOf u v used least0 way0 at_) {u2 v2 le2 : List Int} (hU : Th.Up n m rowOf (used.set at_ true) delta u v least j1 u2 v2 le2) (hd0 : 0 ≤ delta) (hd1 : delta ≤ 2147483648) (hj : j1 ≤ m) (hu : (used.set at_ true).getD j1 false = true) :
    Hid (1 ≤ rowOf.getD j1 0 ∧ rowOf.getD j1 0 ≤ n) ∧ Hid (0 ≤ u2.getD (rowOf.getD j1 0).toNat 0 ∧ u2.getD (rowOf.getD j1 0).toNat 0 ≤ 9000000000) ∧ Hid (-90000000000 ≤ v2.getD j1 0 ∧ v2.getD j1 0 ≤ 90000000000) := by
  obtain ⟨x, h1, h2, h3⟩ := h.row hj hu
  have hin := h.inn.i_n
  have hub := h.inn.ub x h2 h3
  have hv : -64424509440 ≤ v.getD j1 0 ∧ v.getD j1 0 ≤ 0 := by
    by_cases e : j1 = 0
    · subst e; exact h.inn.v0b
    · have := h.inn.vb j1 (by omega) hj; omega
  rw [h1, Int.toNat_natCast, hU.eu x (by omega), hU.ev j1 hj, if_neg (fun hh : j1 < j1 ∧ _ => by omega)]
  refine ⟨show _ ∧ _ by omega, show _ ∧ _ from ?_, show _ ∧ _ by omega⟩
  split <;> omega
theorem up_bd2 (h : Th.Sr n m C i rowOf u v used least0 way0 at_) {u2 v2 le2 : List Int} (hU : Th.Up n m rowOf (used.set at_ true) delta u v least j1 u2 v2 le2) (hd0 : 0 ≤ delta) (hd1 : delta ≤ 2147483648)
    (hall : ∀ j, 1 ≤ j → j ≤ m → (used.set at_ true).getD j false = false → Th.Lf m C rowOf u v (used.set at_ true) least way j ∧ delta ≤ least.getD j 0 ∧ least.getD j 0 ≤ 2147483648) (hj : j1 ≤ m) (hu : (used.set at_ true).getD j1 false = false) :
    Hid (-2147483648 ≤ le2.getD j1 0 ∧ le2.getD j1 0 ≤ 2147483648) := by
  show _ ∧ _
  have h1 : 1 ≤ j1 := by
    refine Nat.pos_of_ne_zero fun e => ?_
    subst e
    rw [h.zero] at hu; cases hu
  obtain ⟨_, h2, h3⟩ := hall j1 h1 hj hu
  rw [hU.el j1 hj, if_neg (fun hh : j1 < j1 ∧ _ => by omega)]
  omega
end
end Go.Proofs.Ytgnikdpgndmldaa
namespace Go.Proofs.Ytgnikdpgndmldaa
set_option linter.unusedVariables false
set_option linter.unusedSimpArgs false
open Go Go.RowKit
set_option linter.unusedVariables false

section
variable {costs : List (List Int)} {i : Nat} {rowOf u v least way least0 way0 : List Int} {used : List Bool} {at_ : Nat}
theorem asg_L3 (hS : Th.Sr costs.length (costs.getD 0 []).length (hC costs) i (rowOf.set 0 (i : Int)) u v used least0 way0 at_) : ∀ (fuel j to : Nat) (delta : Int) (least way : List Int), (costs.getD 0 []).length + 1 - j < fuel →
    Th.Sc costs.length (costs.getD 0 []).length (hC costs) i (rowOf.set 0 (i : Int)) u v used least0 way0 at_ least way j delta to →
    ∃ delta' to' j' least' way', F_impl_assigned_L3 costs i rowOf at_ used v u fuel (delta, to, j, least, way) = .next (delta', to', j', least', way') ∧ (costs.getD 0 []).length < j' ∧
      Th.Sc costs.length (costs.getD 0 []).length (hC costs) i (rowOf.set 0 (i : Int)) u v used least0 way0 at_ least' way' j' delta' to' := by
  intro fuel
  induction fuel with
  | zero => intro j to delta least way hf; omega
  | succ mf ih =>
    intro j to delta least way hf hC
    rw [F_impl_assigned_L3_s]
    by_cases hc : (j : Int) ≤ ((costs.getD 0 []).length : Int)
    · have hj : j ≤ (costs.getD 0 []).length := Int.ofNat_le.1 hc
      have hf' : (costs.getD 0 []).length + 1 - (j + 1) < mf := by omega
      rw [decide_eq_true hc, cond_true]
      cases hu : (used.set at_ true).getD j false with
      | true =>
        rw [cond_true]
        exact ih _ _ _ _ _ hf' (hC.skip hS hj hu)
      | false =>
        rw [cond_false]
        by_cases h1 : (((costs.getD (((rowOf.set 0 (i : Int)).getD at_ 0 - 1).toNat) []).getD (((j : Int) - 1).toNat) 0) - (u.getD (((rowOf.set 0 (i : Int)).getD at_ 0).toNat) 0)) - (v.getD j 0) < least.getD j 0
        · rw [decide_eq_true h1, cond_true]
          by_cases h2 : (least.set j ((((costs.getD (((rowOf.set 0 (i : Int)).getD at_ 0 - 1).toNat) []).getD (((j : Int) - 1).toNat) 0) - (u.getD (((rowOf.set 0 (i : Int)).getD at_ 0).toNat) 0)) - (v.getD j 0))).getD j 0 < delta
          · rw [decide_eq_true h2, cond_true]
            exact ih _ _ _ _ _ hf' (sc_tt hS hC hj hu h1 h2)
          · rw [decide_eq_false h2, cond_false]
            exact ih _ _ _ _ _ hf' (sc_tf hS hC hj hu h1 h2)
        · rw [decide_eq_false h1, cond_false]
          by_cases h2 : least.getD j 0 < delta
          · rw [decide_eq_true h2, cond_true]
            exact ih _ _ _ _ _ hf' (sc_ft hS hC hj hu h1 h2)
          · rw [decide_eq_false h2, cond_false]
            exact ih _ _ _ _ _ hf' (sc_ff hS hC hj hu h1 h2)
    · rw [decide_eq_false hc, cond_false]
      exact ⟨delta, to, j, least, way, rfl, by omega, hC⟩
theorem asg_L4 {u0 v0 le0 : List Int} {delta : Int} (hS : Th.Sr costs.length (costs.getD 0 []).length (hC costs) i (rowOf.set 0 (i : Int)) u0 v0 used least0 way0 at_) : ∀ (fuel j : Nat) (v u le : List Int), (costs.getD 0 []).length + 1 - j < fuel →
    Th.Up costs.length (costs.getD 0 []).length (rowOf.set 0 (i : Int)) (used.set at_ true) delta u0 v0 le0 j u v le →
    ∃ j' v' u' le', F_impl_assigned_L4 i rowOf at_ used delta fuel (j, v, u, le) = .next (j', v', u', le') ∧ (costs.getD 0 []).length < j' ∧
      Th.Up costs.length (costs.getD 0 []).length (rowOf.set 0 (i : Int)) (used.set at_ true) delta u0 v0 le0 j' u' v' le' := by
  intro fuel
  induction fuel with
  | zero => intro j v u le hf; omega
  | succ mf ih =>
    intro j v u le hf hU
    rw [F_impl_assigned_L4_s]
    have hl : (used.set at_ true).length = (costs.getD 0 []).length + 1 := by rw [List.length_set]; exact hS.lus
    by_cases hc : (j : Int) < ((used.set at_ true).length : Int)
    · have hj : j ≤ (costs.getD 0 []).length := by omega
      rw [decide_eq_true hc, cond_true]
      cases hu : (used.set at_ true).getD j false with
      | true =>
        rw [cond_true]
        exact ih _ _ _ _ (by omega) (up_yes hS hU hj hu)
      | false =>
        rw [cond_false]
        exact ih _ _ _ _ (by omega) (hU.no hj hu)
    · rw [decide_eq_false hc, cond_false]
      exact ⟨j, v, u, le, rfl, by omega, hU⟩
theorem asg_L2 : ∀ (fuel at_ : Nat) (used : List Bool) (least way v u : List Int), (costs.getD 0 []).length + 1 - used.countP id < fuel →
    Th.Sr costs.length (costs.getD 0 []).length (hC costs) i (rowOf.set 0 (i : Int)) u v used least way at_ →
    ∃ at' used' least' way' v' u', F_impl_assigned_L2 costs i rowOf fuel (at_, used, least, way, v, u) = .next (at', used', least', way', v', u') ∧
      Th.Ax costs.length (costs.getD 0 []).length (hC costs) i u' v' way' (rowOf.set 0 (i : Int)) ((at' : Int)).toNat := by
  intro fuel
  induction fuel with
  | zero => intro at_ used least way v u hf; omega
  | succ mf ih =>
    intro at_ used least way v u hf hS
    rw [F_impl_assigned_L2_s]
    obtain ⟨delta, to, j, least', way', h1, h2, h3⟩ := asg_L3 hS ((costs.getD 0 []).length + 1 - 1 + 1) 1 0 1152921504606846976 least way (by omega) (Th.Sc.init hS)
    rw [h1, elim_next]
    dsimp only
    obtain ⟨j1, v', u', le', h4, h5, h6⟩ := asg_L4 (delta := delta) hS (((used.set at_ true).length - 0) + 1) 0 v u least' (by rw [List.length_set, hS.lus]; omega) (Th.Up.init hS.inn.lu hS.inn.lv h3.lle)
    rw [h4, elim_next]
    dsimp only
    have hR := Th.Up.risen hS h3 h2 h6 h5
    by_cases h0 : (rowOf.set 0 (i : Int)).getD to 0 = 0
    · rw [decide_eq_true h0, cond_true]
      exact ⟨_, _, _, _, _, _, rfl, sr_ax hS h3 hR h0⟩
    · rw [decide_eq_false h0, cond_false]
      exact ih _ _ _ _ _ _ (by have := sr_mu hS; omega) (sr_next hS h3 hR h0)
theorem asg_L5 {n m : Nat} {C : Nat → Nat → Int} : ∀ (fuel : Nat) (x : Int) (rowOf : List Int), 0 ≤ x → Th.dep 0 way (m + 1) x.toNat < fuel → Th.Ax n m C i u v way rowOf x.toNat →
    ∃ x' rowOf', F_impl_assigned_L5 way fuel (x, rowOf) = .next (x', rowOf') ∧ Th.Hu n m C i u v rowOf' := by
  intro fuel
  induction fuel with
  | zero => intro x rowOf _ hf; omega
  | succ mf ih =>
    intro x rowOf hx hf hA
    rw [F_impl_assigned_L5_s]
    by_cases h0 : x = 0
    · rw [decide_eq_true h0, Bool.not_true, cond_false]
      have e : x.toNat = 0 := by omega
      rw [e] at hA
      exact ⟨x, rowOf, rfl, hA.hu⟩
    · rw [decide_eq_false h0, Bool.not_false, cond_true]
      obtain ⟨h1, h2, h3, _⟩ := ax_step hx hA h0
      exact ih _ _ h1 (by omega) h2
theorem asg_L1 (h : Cs costs) (hn : costs.length < (costs.getD 0 []).length ∧ (costs.getD 0 []).length ≤ 63) : ∀ (fuel i : Nat) (rowOf v u : List Int), costs.length + 1 - i < fuel → 1 ≤ i → i ≤ costs.length + 1 → Th.Hu costs.length (costs.getD 0 []).length (hC costs) (i - 1) u v rowOf →
    ∃ i' rowOf' v' u', F_impl_assigned_L1 costs fuel (i, rowOf, v, u) = .next (i', rowOf', v', u') ∧ Th.Hu costs.length (costs.getD 0 []).length (hC costs) costs.length u' v' rowOf' := by
  intro fuel
  induction fuel with
  | zero => intro i rowOf v u hf; omega
  | succ mf ih =>
    intro i rowOf v u hf h1 h2 hH
    rw [F_impl_assigned_L1_s]
    by_cases hc : (i : Int) ≤ (costs.length : Int)
    · rw [decide_eq_true hc, cond_true]
      have hrep := repeat_eq (1152921504606846976) (((costs.getD 0 []).length : Int) + 1) (by omega) (by omega)
      have hS := sr_init hH h1 (by omega) hrep
      obtain ⟨at', used', least', way', v', u', h3, h4⟩ := asg_L2 ((costs.getD 0 []).length + 1 - (List.replicate ((costs.getD 0 []).length + 1) false).countP id + 1) 0 _ _ _ v u (by omega) hS
      rw [h3, elim_next]
      dsimp only
      obtain ⟨x', rowOf', h5, h6⟩ := asg_L5 (Th.dep 0 way' ((costs.getD 0 []).length + 1) ((at' : Int)).toNat + 1) (at' : Int) (rowOf.set 0 (i : Int)) (by omega) (by omega) h4
      rw [h5, elim_next]
      exact ih (i + 1) rowOf' v' u' (by omega) (by omega) (by omega) (by rw [show i + 1 - 1 = i by omega]; exact h6)
    · rw [decide_eq_false hc, cond_false]
      exact ⟨i, rowOf, v, u, rfl, hu_end hH (by omega)⟩
theorem asg_L6 (hH : Th.Hu costs.length (costs.getD 0 []).length (hC costs) costs.length u v rowOf) : ∀ (fuel j : Nat) (s : Int) (out : List Int), (costs.getD 0 []).length + 1 - j < fuel → 1 ≤ j → j ≤ (costs.getD 0 []).length + 1 →
    Th.Ot costs.length (costs.getD 0 []).length rowOf j out → s = Th.sumTo (Th.colCost (hC costs) rowOf) (j - 1) →
    ∃ j' out', F_impl_assigned_L6 costs rowOf fuel (s, j, out) = .next (Th.sumTo (Th.colCost (hC costs) rowOf) (costs.getD 0 []).length, j', out') ∧ Th.Ot costs.length (costs.getD 0 []).length rowOf ((costs.getD 0 []).length + 1) out' := by
  intro fuel
  induction fuel with
  | zero => intro j s out hf; omega
  | succ mf ih =>
    intro j s out hf h1 h2 hO hs
    rw [F_impl_assigned_L6_s]
    by_cases hc : (j : Int) ≤ ((costs.getD 0 []).length : Int)
    · rw [decide_eq_true hc, cond_true]
      have hstep : Th.sumTo (Th.colCost (hC costs) rowOf) (j + 1 - 1) = Th.sumTo (Th.colCost (hC costs) rowOf) (j - 1) + Th.colCost (hC costs) rowOf (j - 1) := by
        obtain ⟨q, rfl⟩ : ∃ q, j = q + 1 := ⟨j - 1, by omega⟩
        rfl
      have hcc : Th.colCost (hC costs) rowOf (j - 1) = if 0 < rowOf.getD j 0 then hC costs (rowOf.getD j 0).toNat j else 0 := by
        unfold Th.colCost; rw [show j - 1 + 1 = j by omega]
      by_cases h0 : 0 < rowOf.getD j 0
      · rw [decide_eq_true h0, cond_true]
        refine ih (j + 1) _ _ (by omega) (by omega) (by omega) (hO.yes hH h1 (by omega) h0) ?_
        rw [hstep, hcc, if_pos h0, hs]
        unfold hC
        rw [show (rowOf.getD j 0 - 1).toNat = (rowOf.getD j 0).toNat - 1 by omega, show ((j : Int) - 1).toNat = j - 1 by omega]
      · rw [decide_eq_false h0, cond_false]
        refine ih (j + 1) _ _ (by omega) (by omega) (by omega) (hO.no h0) ?_
        rw [hstep, hcc, if_neg h0, hs]; omega
    · rw [decide_eq_false hc, cond_false]
      have e : j = (costs.getD 0 []).length + 1 := by omega
      subst e
      exact ⟨_, out, by rw [hs]; rfl, hO⟩
end
/-- What is returned for costs. -/
structure As (costs : List (List Int)) (res : List Int × Int) : Prop where
  len : res.1.length = costs.length
  cert : ∃ p r, Th.Cert costs.length (costs.getD 0 []).length (fun l x => hC costs (x + 1) (l + 1)) (fun _ _ => True) (Th.colOf res.1) p r
  rng : ∀ x, x < costs.length → 0 ≤ res.1.getD x 0 ∧ res.1.getD x 0 < ((costs.getD 0 []).length : Int)
  sum : res.2 = Th.cost (fun l x => hC costs (x + 1) (l + 1)) (Th.colOf res.1) costs.length
theorem assigned_as {costs : List (List Int)} (h : Cs costs) : As costs (F_impl_assigned costs) := by
  unfold F_impl_assigned
  by_cases h0 : (costs.length : Int) = 0
  · rw [decide_eq_true h0, cond_true]
    have e : costs.length = 0 := by omega
    rw [List.length_eq_zero_iff] at e
    subst e
    exact ⟨rfl, ⟨fun _ => 0, fun _ => 0, ⟨fun i hi => absurd hi (by simp), fun i hi => absurd hi (by simp), fun i j hi => absurd hi (by simp)⟩, fun i l hi => absurd hi (by simp), fun _ _ => Int.le_refl _, fun i hi => absurd hi (by simp), fun _ _ _ => rfl⟩, fun x hx => absurd hx (by simp), rfl⟩
  · rw [decide_eq_false h0, cond_false]
    have hnm := h.nm (by omega)
    obtain ⟨i', rowOf, v, u, h1, h2⟩ := asg_L1 h hnm (costs.length + 1 - 1 + 1) 1 (List.replicate ((costs.getD 0 []).length + 1) 0) (List.replicate ((costs.getD 0 []).length + 1) 0) (List.replicate (costs.length + 1) 0) (by omega) (by omega) (by omega) (hu_start h hnm)
    rw [h1, elim_next]
    dsimp only
    obtain ⟨j', out, h3, h4⟩ := asg_L6 h2 ((costs.getD 0 []).length + 1 - 1 + 1) 1 0 (List.replicate costs.length 0) (by omega) (by omega) (by omega) ⟨by simp, fun j x g1 g2 => by omega⟩ rfl
    rw [h3, elim_next]
    obtain ⟨h5, h6⟩ := h2.cert h4
    exact ⟨h4.len, ⟨_, _, h5⟩, h6, h2.sum h4⟩
end Go.Proofs.Ytgnikdpgndmldaa
namespace Go.Proofs.Ytgnikdpgndmldaa
set_option linter.unusedVariables false
set_option linter.unusedSimpArgs false
open Go Go.RowKit
set_option linter.unusedVariables false

def F_impl_FlowCost (m : List (List Int)) (a : List Int) (reqs : List Int) : Int × Bool := (bif !(F_impl_isServed m a reqs) then (0, false) else ((F_impl_assigned ((F_impl_flowOf m a reqs).2)).2, true))

def F_laws_FnExactFlowCost (m : List (List Int)) (a : List Int) (reqs : List Int) : Bool := (bif decide (1048576 < (a.length : Int)) then true else (bif decide (1048576 < (reqs.length : Int)) then true else (bif decide ((F_laws_szMetric m 1048576) < 0) then true else (bif ((!decide ((F_impl_FlowCost (F_laws_toMetric m) (F_laws_toIntS a) (F_laws_toIntS reqs)).1 = (F_spec_FlowCost (F_laws_toMetric m) (F_laws_toIntS a) (F_laws_toIntS reqs)).1)) || (((F_impl_FlowCost (F_laws_toMetric m) (F_laws_toIntS a) (F_laws_toIntS reqs)).2) != ((F_spec_FlowCost (F_laws_toMetric m) (F_laws_toIntS a) (F_laws_toIntS reqs)).2))) then false else (bif !(F_laws_eqMetric (F_laws_toMetric m) (F_laws_toMetric m)) then false else (bif !(F_laws_eqIntS (F_laws_toIntS a) (F_laws_toIntS a)) then false else (bif !(F_laws_eqIntS (F_laws_toIntS reqs) (F_laws_toIntS reqs)) then false else true)))))))


end Go.Proofs.Ytgnikdpgndmldaa
namespace Go.Proofs.Ytgnikdpgndmldaa
set_option linter.unusedVariables false
set_option linter.unusedSimpArgs false
open Go Go.RowKit
set_option linter.unusedVariables false

theorem fw_cs {m : List (List Int)} {a reqs : List Int} (h : Sv m a reqs) : Fw m a reqs reqs.length (F_impl_flowOf m a reqs).2 := (flowOf_fw (m := m) (a := a) (reqs := reqs) ⟨h.cf.n3, h.r60⟩).1
theorem fw_wide {m : List (List Int)} {a reqs : List Int} (h : Sv m a reqs) (hn : reqs.length ≠ 0) : ((F_impl_flowOf m a reqs).2.getD 0 []).length = a.length + reqs.length := (fw_cs h).row 0 (by omega)
theorem cs_flow {m : List (List Int)} {a reqs : List Int} (h : Sv m a reqs) : Cs (F_impl_flowOf m a reqs).2 := by
  have hF := fw_cs h
  have hb := flow_bd h
  have h60 := h.r60
  have hk := h.cf.n1
  have hk3 := h.cf.n3
  have hlen := hF.len
  refine ⟨by omega, fun i hi => ?_, fun hn => ?_, hb.2.2⟩
  · rw [hF.row i (by omega), fw_wide h (by omega)]
  · rw [fw_wide h (by omega)]; omega
section
variable {m : List (List Int)} {a reqs : List Int}
/-- The cost of a column in the program's table. -/
theorem hC_flow (h : Sv m a reqs) {l x : Nat} (hx : x < reqs.length) (hl : l < a.length + reqs.length) : hC (F_impl_flowOf m a reqs).2 (x + 1) (l + 1) = if l < a.length + x then gap m a reqs l x else 1073741824 := by
  unfold hC
  exact (fw_cs h).el x l hx hl
theorem sumTo_nn {f : Nat → Int} : ∀ {n : Nat}, (∀ i, i < n → 0 ≤ f i) → 0 ≤ Th.sumTo f n ∧ ∀ i, i < n → f i ≤ Th.sumTo f n
  | 0, _ => ⟨Int.le_refl _, fun i hi => by omega⟩
  | n + 1, h => by
    obtain ⟨h1, h2⟩ := sumTo_nn (f := f) (n := n) fun i hi => h i (by omega)
    have h3 := h n (by omega)
    rw [Th.sumTo_succ]
    refine ⟨by omega, fun i hi => ?_⟩
    by_cases e : i = n
    · subst e; omega
    · have := h2 i (by omega); omega
theorem sumTo_up {f : Nat → Int} {B : Int} : ∀ {n : Nat}, (∀ i, i < n → f i ≤ B) → Th.sumTo f n ≤ B * n
  | 0, _ => by simp [Th.sumTo]
  | n + 1, h => by
    have h1 := sumTo_up (f := f) (B := B) (n := n) fun i hi => h i (by omega)
    have h3 := h n (by omega)
    rw [Th.sumTo_succ, show ((n + 1 : Nat) : Int) = (n : Int) + 1 by omega, Int.mul_add]; omega
/-- A table of a flow, some rows perhaps with one column alone. -/
structure Ft (m : List (List Int)) (a reqs : List Int) (ok : Nat → Nat → Prop) (costs : List (List Int)) : Prop where
  cs : Cs costs
  len : costs.length = reqs.length
  wide : reqs.length ≠ 0 → (costs.getD 0 []).length = a.length + reqs.length
  yes : ∀ l x, x < reqs.length → l < a.length + reqs.length → ok l x → l < a.length + x ∧ hC costs (x + 1) (l + 1) = gap m a reqs l x
  no : ∀ l x, x < reqs.length → l < a.length + reqs.length → ¬ ok l x → hC costs (x + 1) (l + 1) = 1073741824
/-- What costs least in the table costs least of all that may be, if there is any. -/
theorem Ft.best {ok : Nat → Nat → Prop} {costs : List (List Int)} (h : Sv m a reqs) (hT : Ft m a reqs ok costs) {M : Nat → Nat} (hM : Th.Mt reqs.length (a.length + reqs.length) ok M) :
    Th.Mt reqs.length (a.length + reqs.length) ok (Th.colOf (F_impl_assigned costs).1) ∧ (F_impl_assigned costs).1.length = reqs.length ∧ (∀ x, x < reqs.length → 0 ≤ (F_impl_assigned costs).1.getD x 0) ∧
      (F_impl_assigned costs).2 = Th.cost (fun l x => gap m a reqs l x) (Th.colOf (F_impl_assigned costs).1) reqs.length ∧ (F_impl_assigned costs).2 ≤ Th.cost (fun l x => gap m a reqs l x) M reqs.length := by
  have hA := assigned_as hT.cs
  have hlen := hT.len
  have h60 := h.r60
  obtain ⟨p, r, hK⟩ := hA.cert
  rw [hlen] at hK
  have hw : ∀ x, x < reqs.length → (costs.getD 0 []).length = a.length + reqs.length := fun x hx => hT.wide (by omega)
  have hMlt : ∀ x, x < reqs.length → M x < a.length + reqs.length := hM.lt
  have hM' : Th.Mt reqs.length (costs.getD 0 []).length (fun _ _ => True) M := ⟨fun x hx => by rw [hw x hx]; exact hM.lt x hx, fun _ _ => trivial, hM.inj⟩
  have hb := hK.best hM'
  have e1 : Th.cost (fun l x => hC costs (x + 1) (l + 1)) M reqs.length = Th.cost (fun l x => gap m a reqs l x) M reqs.length := by
    unfold Th.cost
    exact Th.sumTo_congr fun x hx => (hT.yes (M x) x hx (hM.lt x hx) (hM.ok x hx)).2
  have e2 : Th.cost (fun l x => gap m a reqs l x) M reqs.length ≤ 99 * reqs.length := by
    unfold Th.cost
    exact sumTo_up fun x hx => (gap_all h _ _).2
  have hlt : ∀ x, x < reqs.length → Th.colOf (F_impl_assigned costs).1 x < a.length + reqs.length := fun x hx => by rw [← hw x hx]; exact hK.mt.lt x hx
  have hok : ∀ x, x < reqs.length → ok (Th.colOf (F_impl_assigned costs).1 x) x := fun x hx => by
    refine Classical.byContradiction fun hne => ?_
    have h1 := hT.no _ x hx (hlt x hx) hne
    have h2 := (sumTo_nn (f := fun i => hC costs (i + 1) (Th.colOf (F_impl_assigned costs).1 i + 1)) (n := reqs.length) fun i hi => (hT.cs.el _ _).1).2 x hx
    have h3 : Th.cost (fun l x => hC costs (x + 1) (l + 1)) (Th.colOf (F_impl_assigned costs).1) reqs.length ≤ 99 * reqs.length := by rw [e1] at hb; omega
    unfold Th.cost at h3
    dsimp only at h2 h3
    omega
  have e3 : Th.cost (fun l x => hC costs (x + 1) (l + 1)) (Th.colOf (F_impl_assigned costs).1) reqs.length = Th.cost (fun l x => gap m a reqs l x) (Th.colOf (F_impl_assigned costs).1) reqs.length := by
    unfold Th.cost
    exact Th.sumTo_congr fun x hx => (hT.yes _ x hx (hlt x hx) (hok x hx)).2
  have hs := hA.sum
  rw [hlen] at hs
  refine ⟨⟨hlt, hok, hK.mt.inj⟩, by rw [hA.len, hlen], fun x hx => (hA.rng x (by omega)).1, by rw [hs, e3], by rw [hs, ← e1]; exact hb⟩
theorem flow_ft (h : Sv m a reqs) : Ft m a reqs (fun l x => l < a.length + x) (F_impl_flowOf m a reqs).2 :=
  ⟨cs_flow h, (fw_cs h).len, fun hn => fw_wide h hn, fun l x hx hl hk => ⟨hk, by rw [hC_flow h hx hl, if_pos hk]⟩, fun l x hx hl hk => by rw [hC_flow h hx hl, if_neg hk]⟩
/-- The program's matching: as good as the reference's. -/
theorem flow_best (h : Sv m a reqs) : Th.Mt reqs.length (a.length + reqs.length) (fun l x => l < a.length + x) (Th.colOf (F_impl_assigned (F_impl_flowOf m a reqs).2).1) ∧ (F_impl_assigned (F_impl_flowOf m a reqs).2).1.length = reqs.length ∧
    (∀ x, x < reqs.length → 0 ≤ (F_impl_assigned (F_impl_flowOf m a reqs).2).1.getD x 0) ∧ (F_impl_assigned (F_impl_flowOf m a reqs).2).2 = Th.cost (fun l x => gap m a reqs l x) (Th.colOf (F_impl_assigned (F_impl_flowOf m a reqs).2).1) reqs.length ∧
      (F_impl_assigned (F_impl_flowOf m a reqs).2).2 = Th.cost (fun l x => gap m a reqs l x) (Th.colOf (F_spec_l7Flow m a reqs)) reqs.length := by
  obtain ⟨hl, p, r, hA⟩ := flow_aq h
  have hC := hA.cert
  rw [hl] at hC
  obtain ⟨h1, h2, h3, h4, h5⟩ := (flow_ft h).best h hC.mt
  have h6 := hC.best h1
  exact ⟨h1, h2, h3, h4, by omega⟩
end
theorem flowCost_eq (m : List (List Int)) (a reqs : List Int) : F_impl_FlowCost m a reqs = F_spec_FlowCost m a reqs := by
  unfold F_impl_FlowCost F_spec_FlowCost
  rw [served_or]
  cases hs : F_impl_isServed m a reqs with
  | false => rfl
  | true =>
    have h := isServed_t hs
    rw [Bool.not_true, cond_false, cond_false]
    obtain ⟨hl, p, r, hA⟩ := flow_aq h
    have h5 := (flow_best h).2.2.2.2
    rw [l7Cost_eq _ _ _ _ hA.nb, hl, h5]
theorem law_FlowCost (m : List (List Int)) (a reqs : List Int) : F_laws_FnExactFlowCost m a reqs = true := by
  unfold F_laws_FnExactFlowCost
  simp only [toMetric_eq, toIntS_eq, flowCost_eq, eqMetric_refl, eqIntS_refl]
  simp
end Go.Proofs.Ytgnikdpgndmldaa
namespace Go.Proofs.Ytgnikdpgndmldaa
set_option linter.unusedVariables false
set_option linter.unusedSimpArgs false
open Go Go.RowKit
set_option linter.unusedVariables false

def F_spec_l7Rise_L3 (m : List (List Int)) (a : List Int) (reqs : List Int) (before : List Int) (k13_2 : Nat) (m0_2 : List Int) (m1_2 : List Int) : Nat → Bool × Nat × List Int → Ctl (Bool × Nat × List Int) (List Int × List Int)
  | 0, s => .next s
  | mf3 + 1, (k12_3, k14_3, m0_3) => (bif decide ((k14_3 : Int) < (a.length : Int) + (k13_2 : Int)) then (bif decide ((m0_3.getD k14_3 0) < ((m1_2.set k13_2 ((m0_2.getD (((before.getD k13_2 0)).toNat) 0) + (F_spec_l7Gap m a reqs (before.getD k13_2 0) (k13_2 : Int)))).getD k13_2 0) - (F_spec_l7Gap m a reqs (k14_3 : Int) (k13_2 : Int))) then F_spec_l7Rise_L3 m a reqs before k13_2 m0_2 m1_2 mf3 (true, (k14_3 + 1), (m0_3.set k14_3 (((m1_2.set k13_2 ((m0_2.getD (((before.getD k13_2 0)).toNat) 0) + (F_spec_l7Gap m a reqs (before.getD k13_2 0) (k13_2 : Int)))).getD k13_2 0) - (F_spec_l7Gap m a reqs (k14_3 : Int) (k13_2 : Int))))) else F_spec_l7Rise_L3 m a reqs before k13_2 m0_2 m1_2 mf3 (k12_3, (k14_3 + 1), m0_3)) else (.next (k12_3, k14_3, m0_3)))
theorem F_spec_l7Rise_L3_s (m : List (List Int)) (a : List Int) (reqs : List Int) (before : List Int) (k13_2 : Nat) (m0_2 : List Int) (m1_2 : List Int) (k12_3 : Bool) (k14_3 : Nat) (m0_3 : List Int) (mf3 : Nat) : F_spec_l7Rise_L3 m a reqs before k13_2 m0_2 m1_2 (mf3 + 1) (k12_3, k14_3, m0_3) = (bif decide ((k14_3 : Int) < (a.length : Int) + (k13_2 : Int)) then (bif decide ((m0_3.getD k14_3 0) < ((m1_2.set k13_2 ((m0_2.getD (((before.getD k13_2 0)).toNat) 0) + (F_spec_l7Gap m a reqs (before.getD k13_2 0) (k13_2 : Int)))).getD k13_2 0) - (F_spec_l7Gap m a reqs (k14_3 : Int) (k13_2 : Int))) then F_spec_l7Rise_L3 m a reqs before k13_2 m0_2 m1_2 mf3 (true, (k14_3 + 1), (m0_3.set k14_3 (((m1_2.set k13_2 ((m0_2.getD (((before.getD k13_2 0)).toNat) 0) + (F_spec_l7Gap m a reqs (before.getD k13_2 0) (k13_2 : Int)))).getD k13_2 0) - (F_spec_l7Gap m a reqs (k14_3 : Int) (k13_2 : Int))))) else F_spec_l7Rise_L3 m a reqs before k13_2 m0_2 m1_2 mf3 (k12_3, (k14_3 + 1), m0_3)) else (.next (k12_3, k14_3, m0_3))) := rfl
def F_spec_l7Rise_L2 (m : List (List Int)) (a : List Int) (reqs : List Int) (before : List Int) : Nat → Bool × Nat × List Int × List Int → Ctl (Bool × Nat × List Int × List Int) (List Int × List Int)
  | 0, s => .next s
  | mf2 + 1, (k12_2, k13_2, m0_2, m1_2) => (bif decide ((k13_2 : Int) < (reqs.length : Int)) then ((F_spec_l7Rise_L3 m a reqs before k13_2 m0_2 m1_2 ((a.length + k13_2 - 0) + 1) (k12_2, 0, m0_2)).elim (fun (k12_3, _, m0_3) => F_spec_l7Rise_L2 m a reqs before mf2 (k12_3, (k13_2 + 1), m0_3, (m1_2.set k13_2 ((m0_2.getD (((before.getD k13_2 0)).toNat) 0) + (F_spec_l7Gap m a reqs (before.getD k13_2 0) (k13_2 : Int)))))) (fun r => .ret r)) else (.next (k12_2, k13_2, m0_2, m1_2)))
theorem F_spec_l7Rise_L2_s (m : List (List Int)) (a : List Int) (reqs : List Int) (before : List Int) (k12_2 : Bool) (k13_2 : Nat) (m0_2 : List Int) (m1_2 : List Int) (mf2 : Nat) : F_spec_l7Rise_L2 m a reqs before (mf2 + 1) (k12_2, k13_2, m0_2, m1_2) = (bif decide ((k13_2 : Int) < (reqs.length : Int)) then ((F_spec_l7Rise_L3 m a reqs before k13_2 m0_2 m1_2 ((a.length + k13_2 - 0) + 1) (k12_2, 0, m0_2)).elim (fun (k12_3, _, m0_3) => F_spec_l7Rise_L2 m a reqs before mf2 (k12_3, (k13_2 + 1), m0_3, (m1_2.set k13_2 ((m0_2.getD (((before.getD k13_2 0)).toNat) 0) + (F_spec_l7Gap m a reqs (before.getD k13_2 0) (k13_2 : Int)))))) (fun r => .ret r)) else (.next (k12_2, k13_2, m0_2, m1_2))) := rfl
def F_spec_l7Rise_L1 (m : List (List Int)) (a : List Int) (reqs : List Int) (before : List Int) : Nat → Bool × List Int × List Int → Ctl (Bool × List Int × List Int) (List Int × List Int)
  | 0, s => .next s
  | mf1 + 1, (k12_1, m0_1, m1_1) => (bif k12_1 then ((F_spec_l7Rise_L2 m a reqs before ((reqs.length - 0) + 1) (false, 0, m0_1, m1_1)).elim (fun (k12_2, _, m0_2, m1_2) => F_spec_l7Rise_L1 m a reqs before mf1 (k12_2, m0_2, m1_2)) (fun r => .ret r)) else (.next (k12_1, m0_1, m1_1)))
theorem F_spec_l7Rise_L1_s (m : List (List Int)) (a : List Int) (reqs : List Int) (before : List Int) (k12_1 : Bool) (m0_1 : List Int) (m1_1 : List Int) (mf1 : Nat) : F_spec_l7Rise_L1 m a reqs before (mf1 + 1) (k12_1, m0_1, m1_1) = (bif k12_1 then ((F_spec_l7Rise_L2 m a reqs before ((reqs.length - 0) + 1) (false, 0, m0_1, m1_1)).elim (fun (k12_2, _, m0_2, m1_2) => F_spec_l7Rise_L1 m a reqs before mf1 (k12_2, m0_2, m1_2)) (fun r => .ret r)) else (.next (k12_1, m0_1, m1_1))) := rfl
def F_spec_l7Rise (m : List (List Int)) (a : List Int) (reqs : List Int) (before : List Int) : List Int × List Int := ((F_spec_l7Rise_L1 m a reqs before ((2 * (1000000 - Th.lsum (List.replicate (a.length + reqs.length) (0 : Int))).toNat + (bif true then 1 else 0)) + 1) (true, (List.replicate (a.length + reqs.length) (0 : Int)), (List.replicate reqs.length (0 : Int)))).elim (fun (_, m0_1, m1_1) => (m1_1, m0_1)) (fun r => r))

def F_spec_LeastPrices (m : List (List Int)) (a : List Int) (reqs : List Int) : List Int × Bool := (bif ((!(F_spec_l6Good m)) || (!(F_spec_l6Start m a reqs))) then (([] : List Int), false) else ((F_spec_l7Rise m a reqs (F_spec_l7Flow m a reqs)).1, true))

def F_impl_LeastPrices_L1 (m : List (List Int)) (a : List Int) (reqs : List Int) : Nat → List Int × Nat → Ctl (List Int × Nat) (List Int × Bool)
  | 0, s => .next s
  | mf1 + 1, (k11_1, k40_1) => (bif decide ((k40_1 : Int) < ((F_impl_assigned ((F_impl_flowOf m a reqs).2)).1.length : Int)) then F_impl_LeastPrices_L1 m a reqs mf1 ((k11_1 ++ ([(((F_impl_flowOf m a reqs).2.getD k40_1 []).getD ((((F_impl_assigned ((F_impl_flowOf m a reqs).2)).1.getD k40_1 0)).toNat) 0)])), (k40_1 + 1)) else (.next (k11_1, k40_1)))
theorem F_impl_LeastPrices_L1_s (m : List (List Int)) (a : List Int) (reqs : List Int) (k11_1 : List Int) (k40_1 : Nat) (mf1 : Nat) : F_impl_LeastPrices_L1 m a reqs (mf1 + 1) (k11_1, k40_1) = (bif decide ((k40_1 : Int) < ((F_impl_assigned ((F_impl_flowOf m a reqs).2)).1.length : Int)) then F_impl_LeastPrices_L1 m a reqs mf1 ((k11_1 ++ ([(((F_impl_flowOf m a reqs).2.getD k40_1 []).getD ((((F_impl_assigned ((F_impl_flowOf m a reqs).2)).1.getD k40_1 0)).toNat) 0)])), (k40_1 + 1)) else (.next (k11_1, k40_1))) := rfl
def F_impl_LeastPrices_L4 (m : List (List Int)) (a : List Int) (reqs : List Int) (k62_3 : Nat) : Nat → Bool × Nat × List Int → Ctl (Bool × Nat × List Int) (List Int × Bool)
  | 0, s => .next s
  | mf4 + 1, (k14_4, k72_4, m0_4) => (bif decide ((k72_4 : Int) < ((F_impl_flowOf m a reqs).2.length : Int)) then (bif decide ((((F_impl_flowOf m a reqs).2.getD k72_4 []).getD ((((F_impl_assigned ((F_impl_flowOf m a reqs).2)).1.getD k62_3 0)).toNat) 0) = 1073741824) then F_impl_LeastPrices_L4 m a reqs k62_3 mf4 (k14_4, (k72_4 + 1), m0_4) else (bif decide ((m0_4.getD k62_3 0) < ((m0_4.getD k72_4 0) - (((F_impl_flowOf m a reqs).2.getD k72_4 []).getD ((((F_impl_assigned ((F_impl_flowOf m a reqs).2)).1.getD k62_3 0)).toNat) 0)) + (((F_impl_flowOf m a reqs).2.getD k62_3 []).getD ((((F_impl_assigned ((F_impl_flowOf m a reqs).2)).1.getD k62_3 0)).toNat) 0)) then F_impl_LeastPrices_L4 m a reqs k62_3 mf4 (true, (k72_4 + 1), (m0_4.set k62_3 (((m0_4.getD k72_4 0) - (((F_impl_flowOf m a reqs).2.getD k72_4 []).getD ((((F_impl_assigned ((F_impl_flowOf m a reqs).2)).1.getD k62_3 0)).toNat) 0)) + (((F_impl_flowOf m a reqs).2.getD k62_3 []).getD ((((F_impl_assigned ((F_impl_flowOf m a reqs).2)).1.getD k62_3 0)).toNat) 0)))) else F_impl_LeastPrices_L4 m a reqs k62_3 mf4 (k14_4, (k72_4 + 1), m0_4))) else (.next (k14_4, k72_4, m0_4)))
theorem F_impl_LeastPrices_L4_s (m : List (List Int)) (a : List Int) (reqs : List Int) (k62_3 : Nat) (k14_4 : Bool) (k72_4 : Nat) (m0_4 : List Int) (mf4 : Nat) : F_impl_LeastPrices_L4 m a reqs k62_3 (mf4 + 1) (k14_4, k72_4, m0_4) = (bif decide ((k72_4 : Int) < ((F_impl_flowOf m a reqs).2.length : Int)) then (bif decide ((((F_impl_flowOf m a reqs).2.getD k72_4 []).getD ((((F_impl_assigned ((F_impl_flowOf m a reqs).2)).1.getD k62_3 0)).toNat) 0) = 1073741824) then F_impl_LeastPrices_L4 m a reqs k62_3 mf4 (k14_4, (k72_4 + 1), m0_4) else (bif decide ((m0_4.getD k62_3 0) < ((m0_4.getD k72_4 0) - (((F_impl_flowOf m a reqs).2.getD k72_4 []).getD ((((F_impl_assigned ((F_impl_flowOf m a reqs).2)).1.getD k62_3 0)).toNat) 0)) + (((F_impl_flowOf m a reqs).2.getD k62_3 []).getD ((((F_impl_assigned ((F_impl_flowOf m a reqs).2)).1.getD k62_3 0)).toNat) 0)) then F_impl_LeastPrices_L4 m a reqs k62_3 mf4 (true, (k72_4 + 1), (m0_4.set k62_3 (((m0_4.getD k72_4 0) - (((F_impl_flowOf m a reqs).2.getD k72_4 []).getD ((((F_impl_assigned ((F_impl_flowOf m a reqs).2)).1.getD k62_3 0)).toNat) 0)) + (((F_impl_flowOf m a reqs).2.getD k62_3 []).getD ((((F_impl_assigned ((F_impl_flowOf m a reqs).2)).1.getD k62_3 0)).toNat) 0)))) else F_impl_LeastPrices_L4 m a reqs k62_3 mf4 (k14_4, (k72_4 + 1), m0_4))) else (.next (k14_4, k72_4, m0_4))) := rfl
def F_impl_LeastPrices_L3 (m : List (List Int)) (a : List Int) (reqs : List Int) : Nat → Bool × Nat × List Int → Ctl (Bool × Nat × List Int) (List Int × Bool)
  | 0, s => .next s
  | mf3 + 1, (k14_3, k62_3, m0_3) => (bif decide ((k62_3 : Int) < ((F_impl_assigned ((F_impl_flowOf m a reqs).2)).1.length : Int)) then ((F_impl_LeastPrices_L4 m a reqs k62_3 ((((F_impl_flowOf m a reqs).2.length) - 0) + 1) (k14_3, 0, m0_3)).elim (fun (k14_4, _, m0_4) => F_impl_LeastPrices_L3 m a reqs mf3 (k14_4, (k62_3 + 1), m0_4)) (fun r => .ret r)) else (.next (k14_3, k62_3, m0_3)))
theorem F_impl_LeastPrices_L3_s (m : List (List Int)) (a : List Int) (reqs : List Int) (k14_3 : Bool) (k62_3 : Nat) (m0_3 : List Int) (mf3 : Nat) : F_impl_LeastPrices_L3 m a reqs (mf3 + 1) (k14_3, k62_3, m0_3) = (bif decide ((k62_3 : Int) < ((F_impl_assigned ((F_impl_flowOf m a reqs).2)).1.length : Int)) then ((F_impl_LeastPrices_L4 m a reqs k62_3 ((((F_impl_flowOf m a reqs).2.length) - 0) + 1) (k14_3, 0, m0_3)).elim (fun (k14_4, _, m0_4) => F_impl_LeastPrices_L3 m a reqs mf3 (k14_4, (k62_3 + 1), m0_4)) (fun r => .ret r)) else (.next (k14_3, k62_3, m0_3))) := rfl
def F_impl_LeastPrices_L2 (m : List (List Int)) (a : List Int) (reqs : List Int) : Nat → Bool × List Int → Ctl (Bool × List Int) (List Int × Bool)
  | 0, s => .next s
  | mf2 + 1, (k14_2, m0_2) => (bif k14_2 then ((F_impl_LeastPrices_L3 m a reqs ((((F_impl_assigned ((F_impl_flowOf m a reqs).2)).1.length) - 0) + 1) (false, 0, m0_2)).elim (fun (k14_3, _, m0_3) => F_impl_LeastPrices_L2 m a reqs mf2 (k14_3, m0_3)) (fun r => .ret r)) else (.next (k14_2, m0_2)))
theorem F_impl_LeastPrices_L2_s (m : List (List Int)) (a : List Int) (reqs : List Int) (k14_2 : Bool) (m0_2 : List Int) (mf2 : Nat) : F_impl_LeastPrices_L2 m a reqs (mf2 + 1) (k14_2, m0_2) = (bif k14_2 then ((F_impl_LeastPrices_L3 m a reqs ((((F_impl_assigned ((F_impl_flowOf m a reqs).2)).1.length) - 0) + 1) (false, 0, m0_2)).elim (fun (k14_3, _, m0_3) => F_impl_LeastPrices_L2 m a reqs mf2 (k14_3, m0_3)) (fun r => .ret r)) else (.next (k14_2, m0_2))) := rfl
def F_impl_LeastPrices (m : List (List Int)) (a : List Int) (reqs : List Int) : List Int × Bool := (bif !(F_impl_isServed m a reqs) then ([], false) else ((F_impl_LeastPrices_L1 m a reqs ((((F_impl_assigned ((F_impl_flowOf m a reqs).2)).1.length) - 0) + 1) (([] : List Int), 0)).elim (fun (k11_1, _) => ((F_impl_LeastPrices_L2 m a reqs ((2 * (1000000 - Th.lsum k11_1).toNat + (bif true then 1 else 0)) + 1) (true, k11_1)).elim (fun (_, m0_2) => (m0_2, true)) (fun r => r))) (fun r => r)))

def F_laws_FnExactLeastPrices (m : List (List Int)) (a : List Int) (reqs : List Int) : Bool := (bif decide (1048576 < (a.length : Int)) then true else (bif decide (1048576 < (reqs.length : Int)) then true else (bif decide ((F_laws_szMetric m 1048576) < 0) then true else (bif ((!(F_laws_eqIntS ((F_impl_LeastPrices (F_laws_toMetric m) (F_laws_toIntS a) (F_laws_toIntS reqs)).1) ((F_spec_LeastPrices (F_laws_toMetric m) (F_laws_toIntS a) (F_laws_toIntS reqs)).1))) || (((F_impl_LeastPrices (F_laws_toMetric m) (F_laws_toIntS a) (F_laws_toIntS reqs)).2) != ((F_spec_LeastPrices (F_laws_toMetric m) (F_laws_toIntS a) (F_laws_toIntS reqs)).2))) then false else (bif !(F_laws_eqMetric (F_laws_toMetric m) (F_laws_toMetric m)) then false else (bif !(F_laws_eqIntS (F_laws_toIntS a) (F_laws_toIntS a)) then false else (bif !(F_laws_eqIntS (F_laws_toIntS reqs) (F_laws_toIntS reqs)) then false else (bif (((decide ((F_laws_markIntS (F_laws_toIntS reqs) ((F_laws_markIntS (F_laws_toIntS a) ((F_laws_markMetric (F_laws_toMetric m) 1).1)).1)).1 < 0)) || (!(F_laws_eqIntS ((F_impl_LeastPrices (F_laws_toMetric m) (F_laws_toIntS a) (F_laws_toIntS reqs)).1) ((F_spec_LeastPrices (F_laws_toMetric m) (F_laws_toIntS a) (F_laws_toIntS reqs)).1)))) || (((F_impl_LeastPrices (F_laws_toMetric m) (F_laws_toIntS a) (F_laws_toIntS reqs)).2) != ((F_spec_LeastPrices (F_laws_toMetric m) (F_laws_toIntS a) (F_laws_toIntS reqs)).2))) then false else (bif decide ((F_laws_heldIntS ((F_laws_markIntS ((F_impl_LeastPrices (F_laws_toMetric m) (F_laws_toIntS a) (F_laws_toIntS reqs)).1) 1).2) 1) < 0) then false else (bif !decide ((F_laws_heldIntS ((F_laws_markIntS ((F_impl_LeastPrices (F_laws_toMetric m) (F_laws_toIntS a) (F_laws_toIntS reqs)).1) 1).2) 1) = (F_laws_markIntS ((F_impl_LeastPrices (F_laws_toMetric m) (F_laws_toIntS a) (F_laws_toIntS reqs)).1) 1).1) then false else true))))))))))


end Go.Proofs.Ytgnikdpgndmldaa
namespace Go.Proofs.Ytgnikdpgndmldaa
set_option linter.unusedVariables false
set_option linter.unusedSimpArgs false
open Go Go.RowKit
set_option linter.unusedVariables false

abbrev okF (a : List Int) (l x : Nat) : Prop := l < a.length + x
abbrev RiM (m : List (List Int)) (a reqs before rents : List Int) : Prop := Th.Ri reqs.length (a.length + reqs.length) (fun l x => gap m a reqs l x) (fun l x => l < a.length + x) (Th.colOf before) rents
abbrev PiM (m : List (List Int)) (a reqs ps : List Int) : Prop := Th.Pi reqs.length (fun l x => gap m a reqs l x) (fun l x => l < a.length + x) (Th.colOf (F_impl_assigned (F_impl_flowOf m a reqs).2).1) ps
section
variable {m : List (List Int)} {a reqs before : List Int} {p r : Nat → Int} {rents : List Int}
theorem ri_init (m : List (List Int)) (a reqs before : List Int) : RiM m a reqs before (List.replicate (a.length + reqs.length) 0) := Th.Ri.init
theorem Aq.crt (hA : Aq m a reqs before p r) (hl : before.length = reqs.length) : Th.Cert reqs.length (a.length + reqs.length) (fun l x => gap m a reqs l x) (fun l x => l < a.length + x) (Th.colOf before) p r := by
  have := hA.cert; rwa [hl] at this
theorem Aq.pb2 (hA : Aq m a reqs before p r) (hl : before.length = reqs.length) : ∀ i, i < reqs.length → p i ≤ 5940 := fun i hi => by
  have h1 := (hA.pb i (by omega)).2
  have h2 := hA.sv.r60
  omega
theorem rise_bd (hA : Aq m a reqs before p r) (hl : before.length = reqs.length) (h : RiM m a reqs before rents) (l : Nat) (hl2 : l < a.length + reqs.length) : 0 ≤ rents.getD l 0 ∧ rents.getD l 0 ≤ 5940 :=
  h.bd (hA.crt hl) (by omega) (hA.pb2 hl) (fun l i => (gap_all hA.sv l i).1) l hl2
theorem rise_sum (hA : Aq m a reqs before p r) (hl : before.length = reqs.length) (h : RiM m a reqs before rents) : Th.lsum rents ≤ 1000000 := by
  have h1 := h.len
  have h2 := hA.sv.r60
  have h3 := hA.sv.cf.n3
  have := Th.lsum_high (B := 5940) (by omega) rents fun i hi => (rise_bd hA hl h i (by omega)).2
  omega
theorem rise_low (hA : Aq m a reqs before p r) (hl : before.length = reqs.length) (h : RiM m a reqs before rents) {i : Nat} {ps : List Int} (hi : i < reqs.length) (hps : ps.length = reqs.length) :
    Th.Low reqs.length (a.length + reqs.length) (fun l x => gap m a reqs l x) (fun l x => l < a.length + x) (Th.colOf before) i ((ps.set i (rents.getD ((before.getD i 0)).toNat 0 + F_spec_l7Gap m a reqs (before.getD i 0) (i : Int))).getD i 0) ∧
      (0 ≤ (ps.set i (rents.getD ((before.getD i 0)).toNat 0 + F_spec_l7Gap m a reqs (before.getD i 0) (i : Int))).getD i 0 ∧ (ps.set i (rents.getD ((before.getD i 0)).toNat 0 + F_spec_l7Gap m a reqs (before.getD i 0) (i : Int))).getD i 0 ≤ 6100) := by
  rw [getD_set_eq _ _ _ _ (by omega)]
  have hb := hA.hb i (by omega)
  have e : before.getD i 0 = ((Th.colOf before i : Nat) : Int) := by unfold Th.colOf; omega
  have h1 := rise_bd hA hl h (before.getD i 0).toNat (by omega)
  have h2 := gap_any hA.sv (before.getD i 0) (i : Int)
  have h3 := h.price (hA.crt hl).mt hi
  refine ⟨?_, by omega, by omega⟩
  have e2 : F_spec_l7Gap m a reqs (before.getD i 0) (i : Int) = gap m a reqs (Th.colOf before i) i := by rw [← gap_eq, ← e]
  rw [e2]
  exact h3
theorem rise_step (hA : Aq m a reqs before p r) (hl : before.length = reqs.length) (h : RiM m a reqs before rents) {i l : Nat} {v : Int} (hv : Th.Low reqs.length (a.length + reqs.length) (fun l x => gap m a reqs l x) (fun l x => l < a.length + x) (Th.colOf before) i v)
    (hi : i < reqs.length) (hl2 : l < a.length + i) (hq : rents.getD l 0 < v - F_spec_l7Gap m a reqs (l : Int) (i : Int)) :
    RiM m a reqs before (rents.set l (v - F_spec_l7Gap m a reqs (l : Int) (i : Int))) ∧ Th.lsum rents < Th.lsum (rents.set l (v - F_spec_l7Gap m a reqs (l : Int) (i : Int))) := by
  rw [gap_eq] at hq ⊢
  exact h.step hi (by omega) hl2 hv hq
/-! the reference -/
/-- The first places are paid for, with no rent too small; and the first columns of the next. -/
def Pd (m : List (List Int)) (a reqs before rents ps : List Int) (i0 : Nat) : Prop :=
  ∀ i, i < i0 → i < reqs.length → ps.getD i 0 = rents.getD (Th.colOf before i) 0 + gap m a reqs (Th.colOf before i) i ∧ ∀ l, l < a.length + i → ps.getD i 0 ≤ rents.getD l 0 + gap m a reqs l i
theorem rise_L3 (hA : Aq m a reqs before p r) (hlb : before.length = reqs.length) {i : Nat} (hi : i < reqs.length) {rents0 rents1 ps : List Int} (hps : ps.length = reqs.length) (h1 : RiM m a reqs before rents1) : ∀ (fuel l : Nat) (b : Bool) (rents : List Int), a.length + i - l < fuel → l ≤ a.length + i →
    RiM m a reqs before rents → Th.Rup b rents rents0 → (b = false → rents = rents1 ∧ ∀ l', l' < l → (ps.set i (rents1.getD ((before.getD i 0)).toNat 0 + F_spec_l7Gap m a reqs (before.getD i 0) (i : Int))).getD i 0 ≤ rents.getD l' 0 + gap m a reqs l' i) →
    ∃ b' l' rents', F_spec_l7Rise_L3 m a reqs before i rents1 ps fuel (b, l, rents) = .next (b', l', rents') ∧ RiM m a reqs before rents' ∧ Th.Rup b' rents' rents0 ∧
      (b' = false → rents' = rents1 ∧ b = false ∧ ∀ l', l' < a.length + i → (ps.set i (rents1.getD ((before.getD i 0)).toNat 0 + F_spec_l7Gap m a reqs (before.getD i 0) (i : Int))).getD i 0 ≤ rents'.getD l' 0 + gap m a reqs l' i) := by
  intro fuel
  induction fuel with
  | zero => intro l b rents hf; omega
  | succ mf ih =>
    intro l b rents hf hl hR hU hD
    rw [F_spec_l7Rise_L3_s]
    have hlow := rise_low hA hlb h1 (i := i) (ps := ps) hi hps
    by_cases hc : (l : Int) < (a.length : Int) + (i : Int)
    · rw [decide_eq_true hc, cond_true]
      by_cases hq : rents.getD l 0 < (ps.set i (rents1.getD ((before.getD i 0)).toNat 0 + F_spec_l7Gap m a reqs (before.getD i 0) (i : Int))).getD i 0 - F_spec_l7Gap m a reqs (l : Int) (i : Int)
      · rw [decide_eq_true hq, cond_true]
        have hst := rise_step hA hlb hR hlow.1 (l := l) hi (by omega) hq
        obtain ⟨b', l', rents', g1, g2, g3, g4⟩ := ih (l + 1) true _ (by omega) (by omega) hst.1 (hU.up hst.2) (fun hb => by cases hb)
        exact ⟨b', l', rents', g1, g2, g3, fun hb => by have := (g4 hb).2.1; cases this⟩
      · rw [decide_eq_false hq, cond_false]
        obtain ⟨b', l', rents', g1, g2, g3, g4⟩ := ih (l + 1) b rents (by omega) (by omega) hR hU (fun hb => ⟨(hD hb).1, fun l' hl' => by
          by_cases e : l' = l
          · subst e; rw [gap_eq] at hq; omega
          · exact (hD hb).2 l' (by omega)⟩)
        exact ⟨b', l', rents', g1, g2, g3, g4⟩
    · rw [decide_eq_false hc, cond_false]
      refine ⟨b, l, rents, rfl, hR, hU, fun hb => ⟨(hD hb).1, hb, fun l' hl' => (hD hb).2 l' (by omega)⟩⟩
theorem rise_L2 (hA : Aq m a reqs before p r) (hlb : before.length = reqs.length) {rents0 : List Int} : ∀ (fuel i : Nat) (b : Bool) (rents ps : List Int), reqs.length - i < fuel → i ≤ reqs.length →
    RiM m a reqs before rents → Th.Rup b rents rents0 → ps.length = reqs.length → (b = false → rents = rents0 ∧ Pd m a reqs before rents ps i) →
    ∃ b' i' rents' ps', F_spec_l7Rise_L2 m a reqs before fuel (b, i, rents, ps) = .next (b', i', rents', ps') ∧ RiM m a reqs before rents' ∧ Th.Rup b' rents' rents0 ∧ ps'.length = reqs.length ∧ (b' = false → Pd m a reqs before rents' ps' reqs.length) := by
  intro fuel
  induction fuel with
  | zero => intro i b rents ps hf; omega
  | succ mf ih =>
    intro i b rents ps hf hi hR hU hps hD
    rw [F_spec_l7Rise_L2_s]
    by_cases hc : (i : Int) < (reqs.length : Int)
    · rw [decide_eq_true hc, cond_true]
      obtain ⟨b', l', rents', g1, g2, g3, g4⟩ := rise_L3 hA hlb (i := i) (by omega) (rents0 := rents0) hps hR (a.length + i - 0 + 1) 0 b rents (by omega) (by omega) hR hU (fun hb => ⟨rfl, fun l' hl' => by omega⟩)
      rw [g1, elim_next]
      refine ih (i + 1) b' rents' _ (by omega) (by omega) g2 g3 (by rw [List.length_set]; exact hps) fun hb => ?_
      obtain ⟨e1, e2, e3⟩ := g4 hb
      obtain ⟨d1, d2⟩ := hD e2
      refine ⟨by rw [e1, d1], fun x hx hxr => ?_⟩
      by_cases e : x = i
      · subst e
        refine ⟨?_, fun l hl => e3 l hl⟩
        rw [getD_set_eq _ _ _ _ (by omega), e1]
        have hb := hA.hb x (by omega)
        have e' : before.getD x 0 = ((Th.colOf before x : Nat) : Int) := by unfold Th.colOf; omega
        have e2' : F_spec_l7Gap m a reqs (before.getD x 0) (x : Int) = gap m a reqs (Th.colOf before x) x := by rw [← gap_eq, ← e']
        rw [e2']
      · rw [getD_set_ne _ _ _ _ _ (Ne.symm e), e1]
        exact d2 x (by omega) hxr
    · rw [decide_eq_false hc, cond_false]
      have e : i = reqs.length := by omega
      subst e
      exact ⟨b, _, rents, ps, rfl, hR, hU, hps, fun hb => (hD hb).2⟩
theorem rise_L1 (hA : Aq m a reqs before p r) (hlb : before.length = reqs.length) : ∀ (fuel : Nat) (b : Bool) (rents ps : List Int), 2 * (1000000 - Th.lsum rents).toNat + (bif b then 1 else 0) < fuel →
    RiM m a reqs before rents → ps.length = reqs.length → (b = false → Pd m a reqs before rents ps reqs.length) →
    ∃ b' rents' ps', F_spec_l7Rise_L1 m a reqs before fuel (b, rents, ps) = .next (b', rents', ps') ∧ RiM m a reqs before rents' ∧ ps'.length = reqs.length ∧ Pd m a reqs before rents' ps' reqs.length := by
  intro fuel
  induction fuel with
  | zero => intro b rents ps hf; omega
  | succ mf ih =>
    intro b rents ps hf hR hps hD
    rw [F_spec_l7Rise_L1_s]
    cases b with
    | true =>
      rw [cond_true] at hf ⊢
      obtain ⟨b', i', rents', ps', g1, g2, g3, g4, g5⟩ := rise_L2 hA hlb (rents0 := rents) (reqs.length - 0 + 1) 0 false rents ps (by omega) (Nat.zero_le _) hR (Th.Rup.init _) hps (fun _ => ⟨rfl, fun i hi => by omega⟩)
      rw [g1, elim_next]
      dsimp only
      have hmu := g3.mu (rise_sum hA hlb g2)
      exact ih b' rents' ps' (by omega) g2 g4 g5
    | false =>
      rw [cond_false]
      exact ⟨false, rents, ps, rfl, hR, hps, hD rfl⟩
/-- The reference's prices and rents are the least ones. -/
theorem rise_least (hA : Aq m a reqs before p r) (hlb : before.length = reqs.length) : (F_spec_l7Rise m a reqs before).1.length = reqs.length ∧ (F_spec_l7Rise m a reqs before).2.length = a.length + reqs.length ∧
    Th.LeastFix reqs.length (a.length + reqs.length) (fun l x => gap m a reqs l x) (fun l x => l < a.length + x) (Th.colOf before) (fun i => (F_spec_l7Rise m a reqs before).1.getD i 0) (fun l => (F_spec_l7Rise m a reqs before).2.getD l 0) := by
  unfold F_spec_l7Rise
  obtain ⟨b', rents, ps, g1, g2, g3, g4⟩ := rise_L1 hA hlb (2 * (1000000 - Th.lsum (List.replicate (a.length + reqs.length) 0)).toNat + (bif true then 1 else 0) + 1) true (List.replicate (a.length + reqs.length) 0) (List.replicate reqs.length 0) (by omega) (ri_init m a reqs before) (by simp) (fun hb => by cases hb)
  rw [g1, elim_next]
  dsimp only
  refine ⟨g3, g2.len, ⟨g2.nn, fun i l hi hl hk => (g4 i hi hi).2 l hk, fun i hi => (g4 i hi hi).1⟩, fun p' r' hf => ⟨fun i hi => ?_, fun l hl => g2.le p' r' hf l hl⟩⟩
  have h1 := (g4 i hi hi).1
  have h2 := g2.price (hA.crt hlb).mt hi p' r' hf
  try dsimp only at h1 h2 ⊢
  omega
/-! the program -/
theorem before_bd (h : Sv m a reqs) {i : Nat} (hi : i < reqs.length) : 0 ≤ (F_impl_assigned (F_impl_flowOf m a reqs).2).1.getD i 0 ∧ (F_impl_assigned (F_impl_flowOf m a reqs).2).1.getD i 0 < (a.length : Int) + (i : Int) := by
  obtain ⟨h1, h2, h3, _⟩ := flow_best h
  have h4 := h1.ok i hi
  have h5 := h3 i hi
  unfold Th.colOf at h4
  omega
theorem fc_el (h : Sv m a reqs) {i j : Nat} (hi : i < reqs.length) (hj : j < reqs.length) : ((F_impl_flowOf m a reqs).2.getD j []).getD ((F_impl_assigned (F_impl_flowOf m a reqs).2).1.getD i 0).toNat 0 =
    if Th.colOf (F_impl_assigned (F_impl_flowOf m a reqs).2).1 i < a.length + j then gap m a reqs (Th.colOf (F_impl_assigned (F_impl_flowOf m a reqs).2).1 i) j else 1073741824 := by
  have h1 := before_bd h hi
  exact (fw_cs h).el j _ hj (by omega)
/-- The first prices, as they begin. -/
structure Pt (m : List (List Int)) (a reqs : List Int) (k : Nat) (out : List Int) : Prop where
  len : out.length = k
  el : ∀ i, i < k → out.getD i 0 = gap m a reqs (Th.colOf (F_impl_assigned (F_impl_flowOf m a reqs).2).1 i) i
theorem pt_nil (m : List (List Int)) (a reqs : List Int) : Pt m a reqs 0 [] := ⟨rfl, fun i hi => by omega⟩
theorem getD_snoc (l : List Int) (v : Int) (j : Nat) : (l ++ [v]).getD j 0 = if j < l.length then l.getD j 0 else if j = l.length then v else 0 := by
  by_cases h : j < l.length
  · rw [if_pos h, List.getD_eq_getElem?_getD, List.getElem?_append_left h, ← List.getD_eq_getElem?_getD]
  · rw [if_neg h, List.getD_eq_getElem?_getD, List.getElem?_append_right (by omega)]
    by_cases e : j = l.length
    · rw [if_pos e, e]; simp
    · rw [if_neg e, List.getElem?_eq_none (by simp; omega)]; rfl
theorem pt_push (h : Sv m a reqs) {k : Nat} {out : List Int} (hP : Pt m a reqs k out) (hk : k < reqs.length) : Pt m a reqs (k + 1) (out ++ [((F_impl_flowOf m a reqs).2.getD k []).getD ((F_impl_assigned (F_impl_flowOf m a reqs).2).1.getD k 0).toNat 0]) := by
  have hl := hP.len
  have hb := before_bd h hk
  refine ⟨by simp [hl], fun i hi => ?_⟩
  rw [getD_snoc]
  by_cases e : i < k
  · rw [if_pos (by omega)]; exact hP.el i e
  · have e' : i = k := by omega
    subst e'
    rw [if_neg (by omega), if_pos hl.symm, fc_el h hk hk, if_pos (by unfold Th.colOf; omega)]
theorem pi_of (h : Sv m a reqs) {out : List Int} (hP : Pt m a reqs reqs.length out) : PiM m a reqs out :=
  ⟨hP.len, fun i hi => by rw [hP.el i hi]; exact Int.le_refl _, fun p' hf i hi => by rw [hP.el i hi]; exact hf.own i hi⟩
theorem lp_cert (h : Sv m a reqs) : ∃ p r, Th.Cert reqs.length (a.length + reqs.length) (fun l x => gap m a reqs l x) (fun l x => l < a.length + x) (Th.colOf (F_impl_assigned (F_impl_flowOf m a reqs).2).1) p r ∧ ∀ i, i < reqs.length → p i ≤ 5940 := by
  obtain ⟨hl, p, r, hA⟩ := flow_aq h
  obtain ⟨h1, _, _, h4, h5⟩ := flow_best h
  exact ⟨p, r, (hA.crt hl).other h1 (by omega), hA.pb2 hl⟩
theorem lp_bd (h : Sv m a reqs) {ps : List Int} (hP : PiM m a reqs ps) (i : Nat) (hi : i < reqs.length) : 0 ≤ ps.getD i 0 ∧ ps.getD i 0 ≤ 5940 := by
  obtain ⟨p, r, hc, hb⟩ := lp_cert h
  have h1 := hP.own i hi
  have h2 := (gap_all h (Th.colOf (F_impl_assigned (F_impl_flowOf m a reqs).2).1 i) i).1
  have h3 := hP.le p (hc.fix.pfix hc.mt) i hi
  have h4 := hb i hi
  omega
theorem lp_sum (h : Sv m a reqs) {ps : List Int} (hP : PiM m a reqs ps) : Th.lsum ps ≤ 1000000 := by
  have h1 := hP.len
  have h2 := h.r60
  have := Th.lsum_high (B := 5940) (by omega) ps fun i hi => (lp_bd h hP i (by omega)).2
  omega
theorem lp_step (h : Sv m a reqs) {ps : List Int} (hP : PiM m a reqs ps) {i j : Nat} (hi : i < reqs.length) (hj : j < reqs.length)
    (hnf : ¬ ((F_impl_flowOf m a reqs).2.getD j []).getD (((F_impl_assigned (F_impl_flowOf m a reqs).2).1.getD i 0)).toNat 0 = 1073741824)
    (hq : ps.getD i 0 < (ps.getD j 0 - ((F_impl_flowOf m a reqs).2.getD j []).getD (((F_impl_assigned (F_impl_flowOf m a reqs).2).1.getD i 0)).toNat 0) + ((F_impl_flowOf m a reqs).2.getD i []).getD (((F_impl_assigned (F_impl_flowOf m a reqs).2).1.getD i 0)).toNat 0) :
    PiM m a reqs (ps.set i ((ps.getD j 0 - ((F_impl_flowOf m a reqs).2.getD j []).getD (((F_impl_assigned (F_impl_flowOf m a reqs).2).1.getD i 0)).toNat 0) + ((F_impl_flowOf m a reqs).2.getD i []).getD (((F_impl_assigned (F_impl_flowOf m a reqs).2).1.getD i 0)).toNat 0)) ∧
      Th.lsum ps < Th.lsum (ps.set i ((ps.getD j 0 - ((F_impl_flowOf m a reqs).2.getD j []).getD (((F_impl_assigned (F_impl_flowOf m a reqs).2).1.getD i 0)).toNat 0) + ((F_impl_flowOf m a reqs).2.getD i []).getD (((F_impl_assigned (F_impl_flowOf m a reqs).2).1.getD i 0)).toNat 0)) := by
  have hb := before_bd h hi
  have e1 := fc_el h hi hi
  rw [if_pos (by unfold Th.colOf; omega)] at e1
  rw [fc_el h hi hj] at hnf hq ⊢
  rw [e1] at hq ⊢
  by_cases hk : Th.colOf (F_impl_assigned (F_impl_flowOf m a reqs).2).1 i < a.length + j
  · rw [if_pos hk] at hq ⊢
    exact hP.step hi hj hk hq
  · rw [if_neg hk] at hnf; exact absurd rfl hnf
/-- No price is too small against the first. -/
def Nt (m : List (List Int)) (a reqs ps : List Int) (i0 j0 : Nat) : Prop := ∀ i j, i < reqs.length → j < reqs.length → (i < i0 ∨ (i = i0 ∧ j < j0)) → Th.colOf (F_impl_assigned (F_impl_flowOf m a reqs).2).1 i < a.length + j →
  ps.getD j 0 - gap m a reqs (Th.colOf (F_impl_assigned (F_impl_flowOf m a reqs).2).1 i) j + gap m a reqs (Th.colOf (F_impl_assigned (F_impl_flowOf m a reqs).2).1 i) i ≤ ps.getD i 0
theorem lp_L4 (h : Sv m a reqs) {i : Nat} (hi : i < reqs.length) {ps0 : List Int} : ∀ (fuel j : Nat) (b : Bool) (ps : List Int), reqs.length - j < fuel → j ≤ reqs.length → PiM m a reqs ps → Th.Rup b ps ps0 → (b = false → Nt m a reqs ps i j) →
    ∃ b' j' ps', F_impl_LeastPrices_L4 m a reqs i fuel (b, j, ps) = .next (b', j', ps') ∧ PiM m a reqs ps' ∧ Th.Rup b' ps' ps0 ∧ (b' = false → Nt m a reqs ps' (i + 1) 0) := by
  intro fuel
  induction fuel with
  | zero => intro j b ps hf; omega
  | succ mf ih =>
    intro j b ps hf hj hP hU hD
    rw [F_impl_LeastPrices_L4_s]
    have hlen := (fw_cs h).len
    have hb := before_bd h hi
    by_cases hc : (j : Int) < ((F_impl_flowOf m a reqs).2.length : Int)
    · rw [decide_eq_true hc, cond_true]
      have hjr : j < reqs.length := by omega
      have next : b = false → (Th.colOf (F_impl_assigned (F_impl_flowOf m a reqs).2).1 i < a.length + j → ps.getD j 0 - gap m a reqs (Th.colOf (F_impl_assigned (F_impl_flowOf m a reqs).2).1 i) j + gap m a reqs (Th.colOf (F_impl_assigned (F_impl_flowOf m a reqs).2).1 i) i ≤ ps.getD i 0) → Nt m a reqs ps i (j + 1) := fun hbf hh i' j' h1 h2 h3 h4 => by
        rcases h3 with h3 | ⟨h3, h5⟩
        · exact hD hbf i' j' h1 h2 (.inl h3) h4
        · subst h3
          by_cases e : j' = j
          · subst e; exact hh h4
          · exact hD hbf i' j' h1 h2 (.inr ⟨rfl, by omega⟩) h4
      by_cases hf1 : ((F_impl_flowOf m a reqs).2.getD j []).getD (((F_impl_assigned (F_impl_flowOf m a reqs).2).1.getD i 0)).toNat 0 = 1073741824
      · rw [decide_eq_true hf1, cond_true]
        refine ih (j + 1) b ps (by omega) (by omega) hP hU fun hb' => next hb' fun hk => ?_
        rw [fc_el h hi hjr, if_pos hk] at hf1
        have := gap_all h (Th.colOf (F_impl_assigned (F_impl_flowOf m a reqs).2).1 i) j
        omega
      · rw [decide_eq_false hf1, cond_false]
        by_cases hq : ps.getD i 0 < (ps.getD j 0 - ((F_impl_flowOf m a reqs).2.getD j []).getD (((F_impl_assigned (F_impl_flowOf m a reqs).2).1.getD i 0)).toNat 0) + ((F_impl_flowOf m a reqs).2.getD i []).getD (((F_impl_assigned (F_impl_flowOf m a reqs).2).1.getD i 0)).toNat 0
        · rw [decide_eq_true hq, cond_true]
          have hst := lp_step h hP hi hjr hf1 hq
          exact ih (j + 1) true _ (by omega) (by omega) hst.1 (hU.up hst.2) (fun hb => by cases hb)
        · rw [decide_eq_false hq, cond_false]
          refine ih (j + 1) b ps (by omega) (by omega) hP hU fun hb' => next hb' fun hk => ?_
          have e1 := fc_el h hi hi
          rw [if_pos (by unfold Th.colOf; omega)] at e1
          rw [fc_el h hi hjr, if_pos hk, e1] at hq
          omega
    · rw [decide_eq_false hc, cond_false]
      refine ⟨b, j, ps, rfl, hP, hU, fun hbf i' j' h1 h2 h3 h4 => ?_⟩
      by_cases e : i' = i
      · subst e; exact hD hbf i' j' h1 h2 (.inr ⟨rfl, by omega⟩) h4
      · exact hD hbf i' j' h1 h2 (.inl (by omega)) h4
theorem lp_L3 (h : Sv m a reqs) {ps0 : List Int} : ∀ (fuel i : Nat) (b : Bool) (ps : List Int), reqs.length - i < fuel → i ≤ reqs.length → PiM m a reqs ps → Th.Rup b ps ps0 → (b = false → Nt m a reqs ps i 0) →
    ∃ b' i' ps', F_impl_LeastPrices_L3 m a reqs fuel (b, i, ps) = .next (b', i', ps') ∧ PiM m a reqs ps' ∧ Th.Rup b' ps' ps0 ∧ (b' = false → Nt m a reqs ps' reqs.length 0) := by
  intro fuel
  induction fuel with
  | zero => intro i b ps hf; omega
  | succ mf ih =>
    intro i b ps hf hi hP hU hD
    rw [F_impl_LeastPrices_L3_s]
    have hl := (flow_best h).2.1
    have hlen := (fw_cs h).len
    by_cases hc : (i : Int) < ((F_impl_assigned (F_impl_flowOf m a reqs).2).1.length : Int)
    · rw [decide_eq_true hc, cond_true]
      obtain ⟨b', j', ps', g1, g2, g3, g4⟩ := lp_L4 h (i := i) (by omega) (ps0 := ps0) ((F_impl_flowOf m a reqs).2.length - 0 + 1) 0 b ps (by omega) (Nat.zero_le _) hP hU hD
      rw [g1, elim_next]
      exact ih (i + 1) b' ps' (by omega) (by omega) g2 g3 g4
    · rw [decide_eq_false hc, cond_false]
      have e : i = reqs.length := by omega
      subst e
      exact ⟨b, _, ps, rfl, hP, hU, hD⟩
theorem lp_L2 (h : Sv m a reqs) : ∀ (fuel : Nat) (b : Bool) (ps : List Int), 2 * (1000000 - Th.lsum ps).toNat + (bif b then 1 else 0) < fuel → PiM m a reqs ps → (b = false → Nt m a reqs ps reqs.length 0) →
    ∃ b' ps', F_impl_LeastPrices_L2 m a reqs fuel (b, ps) = .next (b', ps') ∧ PiM m a reqs ps' ∧ Nt m a reqs ps' reqs.length 0 := by
  intro fuel
  induction fuel with
  | zero => intro b ps hf; omega
  | succ mf ih =>
    intro b ps hf hP hD
    rw [F_impl_LeastPrices_L2_s]
    cases b with
    | true =>
      rw [cond_true] at hf ⊢
      have hl := (flow_best h).2.1
      obtain ⟨b', i', ps', g1, g2, g3, g4⟩ := lp_L3 h (ps0 := ps) ((F_impl_assigned (F_impl_flowOf m a reqs).2).1.length - 0 + 1) 0 false ps (by omega) (Nat.zero_le _) hP (Th.Rup.init _) (fun _ i j h1 h2 h3 => by omega)
      rw [g1, elim_next]
      dsimp only
      have hmu := g3.mu (lp_sum h g2)
      exact ih b' ps' (by omega) g2 g4
    | false =>
      rw [cond_false]
      exact ⟨false, ps, rfl, hP, hD rfl⟩
theorem lp_L1 (h : Sv m a reqs) : ∀ (fuel k : Nat) (out : List Int), reqs.length - k < fuel → k ≤ reqs.length → Pt m a reqs k out → ∃ k' out', F_impl_LeastPrices_L1 m a reqs fuel (out, k) = .next (out', k') ∧ Pt m a reqs reqs.length out' := by
  intro fuel
  induction fuel with
  | zero => intro k out hf; omega
  | succ mf ih =>
    intro k out hf hk hP
    rw [F_impl_LeastPrices_L1_s]
    have hl := (flow_best h).2.1
    by_cases hc : (k : Int) < ((F_impl_assigned (F_impl_flowOf m a reqs).2).1.length : Int)
    · rw [decide_eq_true hc, cond_true]
      exact ih (k + 1) _ (by omega) (by omega) (pt_push h hP (by omega))
    · rw [decide_eq_false hc, cond_false]
      have e : k = reqs.length := by omega
      subst e
      exact ⟨_, out, rfl, hP⟩
end
theorem leastPrices_eq (m : List (List Int)) (a reqs : List Int) : F_impl_LeastPrices m a reqs = F_spec_LeastPrices m a reqs := by
  unfold F_impl_LeastPrices F_spec_LeastPrices
  rw [served_or]
  cases hs : F_impl_isServed m a reqs with
  | false => rfl
  | true =>
    have h := isServed_t hs
    rw [Bool.not_true, cond_false, cond_false]
    obtain ⟨hl, p, r, hA⟩ := flow_aq h
    obtain ⟨b1, b2, b3, b4, b5⟩ := flow_best h
    obtain ⟨k', out, g1, g2⟩ := lp_L1 h ((F_impl_assigned (F_impl_flowOf m a reqs).2).1.length - 0 + 1) 0 [] (by omega) (Nat.zero_le _) (pt_nil m a reqs)
    rw [g1, elim_next]
    dsimp only
    obtain ⟨b', ps, g3, g4, g5⟩ := lp_L2 h (2 * (1000000 - Th.lsum out).toNat + (bif true then 1 else 0) + 1) true out (by omega) (pi_of h g2) (fun hb => by cases hb)
    rw [g3, elim_next]
    dsimp only
    obtain ⟨e1, _, e3⟩ := rise_least hA hl
    have hsame := Th.prices_same (M := Th.colOf (F_spec_l7Flow m a reqs)) (p := fun i => ps.getD i 0) e3 (hA.crt hl) b1 (by omega) ⟨g4.own, fun i j hi hj hk => g5 i j hi hj (.inl hi) hk⟩ g4.le
    congr 1
    refine List.ext_getElem (by rw [g4.len, e1]) fun i h1 h2 => ?_
    have := hsame i (by rw [← g4.len]; exact h1)
    try dsimp only at this
    rw [getD_lt _ _ _ h1, getD_lt _ _ _ h2] at this
    exact this
theorem leastPrices_len (m : List (List Int)) (a reqs : List Int) : (F_impl_LeastPrices m a reqs).1.length ≤ 60 := by
  rw [leastPrices_eq]
  unfold F_spec_LeastPrices
  rw [served_or]
  cases hs : F_impl_isServed m a reqs with
  | false => simp
  | true =>
    have h := isServed_t hs
    rw [Bool.not_true, cond_false]
    obtain ⟨hl, p, r, hA⟩ := flow_aq h
    have := (rise_least hA hl).1
    have := h.r60
    dsimp only; omega
theorem law_LeastPrices (m : List (List Int)) (a reqs : List Int) : F_laws_FnExactLeastPrices m a reqs = true := by
  unfold F_laws_FnExactLeastPrices
  simp only [toMetric_eq, toIntS_eq, leastPrices_eq, eqMetric_refl, eqIntS_refl, markIntS_eq, markMetric_eq, heldIntS_iota]
  have h1 : ¬ ((1 : Int) + (total m : Int) + (a.length : Int) + (reqs.length : Int) < 0) := by omega
  have h2 : ¬ ((1 : Int) + ((F_spec_LeastPrices m a reqs).1.length : Int) < 0) := by omega
  simp [h1, h2]
end Go.Proofs.Ytgnikdpgndmldaa
namespace Go.Proofs.Ytgnikdpgndmldaa
set_option linter.unusedVariables false
set_option linter.unusedSimpArgs false
open Go Go.RowKit
set_option linter.unusedVariables false

def F_spec_l7Tight (m : List (List Int)) (a : List Int) (reqs : List Int) (prices : List Int) (rents : List Int) (l : Int) (i : Int) : Bool := ((decide (l < (a.length : Int) + i)) && (decide ((prices.getD ((i).toNat) 0) - (rents.getD ((l).toNat) 0) = (F_spec_l7Gap m a reqs l i))))


end Go.Proofs.Ytgnikdpgndmldaa
namespace Go.Proofs.Ytgnikdpgndmldaa
set_option linter.unusedVariables false
set_option linter.unusedSimpArgs false
open Go Go.RowKit
set_option linter.unusedVariables false

/-- A matching of least cost. -/
def Opt (m : List (List Int)) (a reqs : List Int) (M : Nat → Nat) : Prop :=
  Th.Mt reqs.length (a.length + reqs.length) (fun l x => l < a.length + x) M ∧ Th.cost (fun l x => gap m a reqs l x) M reqs.length ≤ Th.cost (fun l x => gap m a reqs l x) (Th.colOf (F_spec_l7Flow m a reqs)) reqs.length
/-- One begins so. -/
def Ext (m : List (List Int)) (a reqs p : List Int) : Prop := ∃ M, Opt m a reqs M ∧ p.length ≤ reqs.length ∧ ∀ j, j < p.length → p.getD j 0 = (M j : Int)
/-- The first of those that begin so. -/
structure Lex (m : List (List Int)) (a reqs p : List Int) : Prop where
  ext : Ext m a reqs p
  least : ∀ j, j < p.length → ∀ k : Nat, (k : Int) < p.getD j 0 → ¬ Ext m a reqs (p.take j ++ [(k : Int)])
section
variable {m : List (List Int)} {a reqs p q : List Int}
theorem getD_take (p : List Int) (i j : Nat) : (p.take j).getD i 0 = if i < j then p.getD i 0 else 0 := by
  rw [List.getD_eq_getElem?_getD, List.getElem?_take]
  split
  · rw [List.getD_eq_getElem?_getD]
  · rfl
theorem Ext.take (h : Ext m a reqs p) {j : Nat} (hj : j < p.length) : Ext m a reqs (p.take j ++ [p.getD j 0]) := by
  obtain ⟨M, h1, h2, h3⟩ := h
  have hl : (p.take j).length = j := by rw [List.length_take]; omega
  refine ⟨M, h1, by simp; omega, fun i hi => ?_⟩
  simp only [List.length_append, List.length_cons, List.length_nil, hl] at hi
  rw [getD_snoc, hl, getD_take]
  by_cases e : i < j
  · rw [if_pos e, if_pos e]; exact h3 i (by omega)
  · rw [if_neg e, if_pos (by omega)]; have : i = j := by omega
    subst this; exact h3 i hj
theorem Ext.nn (h : Ext m a reqs p) {j : Nat} (hj : j < p.length) : 0 ≤ p.getD j 0 := by
  obtain ⟨M, h1, h2, h3⟩ := h
  rw [h3 j hj]; omega
theorem take_snoc (p : List Int) {j : Nat} (hj : j < p.length) : p.take (j + 1) = p.take j ++ [p.getD j 0] := by
  rw [List.take_add_one, List.getElem?_eq_getElem hj, List.getD_eq_getElem?_getD, List.getElem?_eq_getElem hj]; rfl
theorem Lex.half (h : Lex m a reqs p) (hq : Lex m a reqs q) {j : Nat} (hj : j < p.length) (hj2 : j < q.length) (e : p.take j = q.take j) : p.getD j 0 ≤ q.getD j 0 := by
  refine Classical.byContradiction fun hne => ?_
  have h1 := hq.ext.take hj2
  have h2 := hq.ext.nn hj2
  refine h.least j hj (q.getD j 0).toNat (by omega) ?_
  rw [e, Int.toNat_of_nonneg h2]; exact h1
theorem Lex.one (h : Lex m a reqs p) (hq : Lex m a reqs q) (hl : p.length = q.length) : p = q := by
  have : ∀ j, j ≤ p.length → p.take j = q.take j := by
    intro j
    induction j with
    | zero => intro _; simp
    | succ j ih =>
      intro hj
      have e := ih (by omega)
      rw [take_snoc p (by omega), take_snoc q (by omega), e]
      have h1 := h.half hq (j := j) (by omega) (by omega) e
      have h2 := hq.half h (j := j) (by omega) (by omega) e.symm
      rw [show p.getD j 0 = q.getD j 0 by omega]
  have h1 := this p.length (Nat.le_refl _)
  rwa [List.take_length, hl, List.take_length] at h1
theorem Lex.push (h : Lex m a reqs p) {k : Nat} (hk : ∀ k' : Nat, k' < k → ¬ Ext m a reqs (p ++ [(k' : Int)])) (he : Ext m a reqs (p ++ [(k : Int)])) : Lex m a reqs (p ++ [(k : Int)]) := by
  refine ⟨he, fun j hj k' hk' => ?_⟩
  simp only [List.length_append, List.length_cons, List.length_nil] at hj
  rw [getD_snoc] at hk'
  by_cases e : j < p.length
  · rw [if_pos e] at hk'
    rw [List.take_append_of_le_length (by omega)]
    exact h.least j e k' hk'
  · have e2 : j = p.length := by omega
    rw [if_neg e, if_pos e2] at hk'
    rw [e2, List.take_append_of_le_length (Nat.le_refl _), List.take_length]
    exact hk k' (by omega)
theorem lex_nil (h : Sv m a reqs) : Lex m a reqs [] := by
  obtain ⟨hl, p, r, hA⟩ := flow_aq h
  exact ⟨⟨_, ⟨(hA.crt hl).mt, Int.le_refl _⟩, Nat.zero_le _, fun j hj => by simp at hj⟩, fun j hj => by simp at hj⟩
theorem Ext.last {k : Int} (h : Ext m a reqs (p ++ [k])) : 0 ≤ k ∧ k < a.length + p.length ∧ k ∉ p ∧ p.length < reqs.length := by
  obtain ⟨M, h1, h2, h3⟩ := h
  have hl : (p ++ [k]).length = p.length + 1 := by simp
  have h4 := h3 p.length (by omega)
  rw [getD_snoc, if_neg (by omega), if_pos rfl] at h4
  have h5 := h1.1.ok p.length (by omega)
  refine ⟨by omega, by omega, fun hm => ?_, by omega⟩
  obtain ⟨j, hj, he⟩ := List.mem_iff_getElem.1 hm
  have h6 := h3 j (by omega)
  rw [getD_snoc, if_pos hj, getD_lt _ _ _ hj, he] at h6
  have := h1.1.inj j p.length (by omega) (by omega) (by omega)
  omega
theorem Lex.more (h : Lex m a reqs p) (hl : p.length < reqs.length) : ∃ k : Nat, k < a.length + p.length ∧ Ext m a reqs (p ++ [(k : Int)]) := by
  obtain ⟨M, h1, h2, h3⟩ := h.ext
  refine ⟨M p.length, h1.1.ok _ hl, M, h1, by simp; omega, fun j hj => ?_⟩
  simp only [List.length_append, List.length_cons, List.length_nil] at hj
  rw [getD_snoc]
  by_cases e : j < p.length
  · rw [if_pos e]; exact h3 j e
  · rw [if_neg e, if_pos (by omega), show j = p.length by omega]

/-! by prices and rents -/
structure Rs (m : List (List Int)) (a reqs ps rs : List Int) : Prop where
  sv : Sv m a reqs
  lp : ps.length = reqs.length
  lr : rs.length = a.length + reqs.length
  cert : Th.Cert reqs.length (a.length + reqs.length) (fun l x => gap m a reqs l x) (fun l x => l < a.length + x) (Th.colOf (F_spec_l7Flow m a reqs)) (fun i => ps.getD i 0) (fun l => rs.getD l 0)
  pb : ∀ i, 0 ≤ ps.getD i 0 ∧ ps.getD i 0 ≤ 99999
  rb : ∀ l, 0 ≤ rs.getD l 0 ∧ rs.getD l 0 ≤ 99999
theorem rs_rise (h : Sv m a reqs) : Rs m a reqs (F_spec_l7Rise m a reqs (F_spec_l7Flow m a reqs)).1 (F_spec_l7Rise m a reqs (F_spec_l7Flow m a reqs)).2 := by
  obtain ⟨hl, p, r, hA⟩ := flow_aq h
  obtain ⟨h1, h2, h3⟩ := rise_least hA hl
  have hc := h3.cert (hA.crt hl)
  have hle := h3.least p r (hA.crt hl).fix
  have hpb := hA.pb2 hl
  have hrb : ∀ l, l < a.length + reqs.length → (F_spec_l7Rise m a reqs (F_spec_l7Flow m a reqs)).2.getD l 0 ≤ 5940 := fun l hl2 => by
    by_cases hh : ∃ i, i < reqs.length ∧ Th.colOf (F_spec_l7Flow m a reqs) i = l
    · obtain ⟨i, hi, e⟩ := hh
      have e1 := hc.tight i hi
      have e2 := hle.1 i hi
      have e3 := hpb i hi
      have e4 := (gap_all h (Th.colOf (F_spec_l7Flow m a reqs) i) i).1
      try dsimp only at e1 e2 e3 e4
      rw [e] at e1 e4
      omega
    · have := hc.free l hl2 (fun i hi e => hh ⟨i, hi, e⟩)
      (try dsimp only at this)
      omega
  refine ⟨h, h1, h2, hc, fun i => ?_, fun l => ?_⟩
  · by_cases hi : i < reqs.length
    · have e1 := hc.tight i hi
      have e2 := hle.1 i hi
      have e3 := hpb i hi
      have e4 := (gap_all h (Th.colOf (F_spec_l7Flow m a reqs) i) i).1
      have e5 := hc.nn _ (hc.mt.lt i hi)
      try dsimp only at e1 e2 e3 e4 e5
      omega
    · rw [List.getD_eq_getElem?_getD, List.getElem?_eq_none (by omega)]; simp
  · by_cases hl2 : l < a.length + reqs.length
    · have e1 := hc.nn l hl2
      have e2 := hrb l hl2
      try dsimp only at e1
      omega
    · rw [List.getD_eq_getElem?_getD, List.getElem?_eq_none (by omega)]; simp
variable {ps rs : List Int}
theorem Rs.other (h : Rs m a reqs ps rs) {M : Nat → Nat} (hM : Opt m a reqs M) : Th.Cert reqs.length (a.length + reqs.length) (fun l x => gap m a reqs l x) (fun l x => l < a.length + x) M (fun i => ps.getD i 0) (fun l => rs.getD l 0) := h.cert.other hM.1 hM.2
theorem Rs.opt (h : Rs m a reqs ps rs) {M : Nat → Nat} (hM : Th.Cert reqs.length (a.length + reqs.length) (fun l x => gap m a reqs l x) (fun l x => l < a.length + x) M (fun i => ps.getD i 0) (fun l => rs.getD l 0)) : Opt m a reqs M := ⟨hM.mt, hM.best h.cert.mt⟩
theorem tight_iff {l i : Nat} : F_spec_l7Tight m a reqs ps rs (l : Int) (i : Int) = true ↔ l < a.length + i ∧ ps.getD i 0 = rs.getD l 0 + gap m a reqs l i := by
  unfold F_spec_l7Tight
  rw [gap_eq, Bool.and_eq_true, decide_eq_true_iff, decide_eq_true_iff, Int.toNat_natCast, Int.toNat_natCast]
  constructor
  · rintro ⟨h1, h2⟩; exact ⟨by omega, by omega⟩
  · rintro ⟨h1, h2⟩; exact ⟨by omega, by omega⟩
theorem has_iff (l : List Int) (n : Int) : F_spec_l1Has l n = true ↔ n ∈ l := by
  rw [l1Has_iff]
  constructor
  · rintro ⟨i, hi, he⟩; rw [← he, getD_lt _ _ _ hi]; exact List.getElem_mem hi
  · intro hm; obtain ⟨i, hi, he⟩ := List.mem_iff_getElem.1 hm; exact ⟨i, hi, by rw [getD_lt _ _ _ hi]; exact he⟩
/-- Whether a place can be served next by a server or a place. -/
def gridB (m : List (List Int)) (a reqs ps rs begun : List Int) (l x : Nat) : Bool :=
  bif decide ((x : Int) < (begun.length : Int)) then decide (begun.getD x 0 = (l : Int)) else (!(F_spec_l1Has begun (l : Int)) && F_spec_l7Tight m a reqs ps rs (l : Int) (x : Int))
def Goes (m : List (List Int)) (a reqs ps rs begun : List Int) : Prop :=
  Kn.Cov (fun x l => gridB m a reqs ps rs begun l x = true) reqs.length (a.length + reqs.length) (fun _ => True) ∧ Kn.Cov (fun l x => gridB m a reqs ps rs begun l x = true) (a.length + reqs.length) reqs.length (fun l => 0 < rs.getD l 0)
theorem grid_lo {begun : List Int} {l x : Nat} (h : x < begun.length) : gridB m a reqs ps rs begun l x = true ↔ begun.getD x 0 = (l : Int) := by
  unfold gridB; rw [decide_eq_true (by omega), cond_true, decide_eq_true_iff]
theorem grid_hi {begun : List Int} {l x : Nat} (h : ¬ x < begun.length) : gridB m a reqs ps rs begun l x = true ↔ (l : Int) ∉ begun ∧ l < a.length + x ∧ ps.getD x 0 = rs.getD l 0 + gap m a reqs l x := by
  unfold gridB
  rw [decide_eq_false (by omega), cond_false, Bool.and_eq_true, Bool.not_eq_true', tight_iff]
  constructor
  · rintro ⟨h1, h2⟩; exact ⟨(fun hm => by rw [(has_iff begun l).2 hm] at h1; cases h1), h2⟩
  · rintro ⟨h1, h2⟩; refine ⟨?_, h2⟩; cases h3 : F_spec_l1Has begun (l : Int) with
    | false => rfl
    | true => exact absurd ((has_iff begun l).1 h3) h1
theorem goes_of (h : Rs m a reqs ps rs) (he : Ext m a reqs p) : Goes m a reqs ps rs p := by
  obtain ⟨M, hM, hl, hp⟩ := he
  have hC := h.other hM
  have hg : ∀ x, x < reqs.length → gridB m a reqs ps rs p (M x) x = true := fun x hx => by
    by_cases e : x < p.length
    · exact (grid_lo e).2 (hp x e)
    · refine (grid_hi e).2 ⟨fun hm => ?_, hC.mt.ok x hx, hC.tight x hx⟩
      obtain ⟨j, hj, he⟩ := List.mem_iff_getElem.1 hm
      have h3 := hp j hj
      rw [getD_lt _ _ _ hj, he] at h3
      have := hC.mt.inj x j hx (by omega) (by omega)
      omega
  refine ⟨⟨M, fun x hx _ => ⟨hC.mt.lt x hx, hg x hx⟩, fun x x' hx hx' _ _ e => hC.mt.inj x x' hx hx' e⟩, ?_⟩
  have hex : ∀ l, l < a.length + reqs.length → 0 < rs.getD l 0 → ∃ i, i < reqs.length ∧ M i = l := fun l hl2 hr => Classical.byContradiction fun hne => by
    have := hC.free l hl2 (fun i hi e => hne ⟨i, hi, e⟩)
    (try dsimp only at this)
    omega
  refine ⟨fun l => Classical.epsilon fun i => i < reqs.length ∧ M i = l, fun l hl2 hr => ?_, fun l l' hl2 hl3 hr hr' e => ?_⟩
  · obtain ⟨h1, h2⟩ := Classical.epsilon_spec (hex l hl2 hr)
    refine ⟨h1, ?_⟩
    have := hg _ h1
    rw [h2] at this; exact this
  · obtain ⟨h1, h2⟩ := Classical.epsilon_spec (hex l hl2 hr)
    obtain ⟨h3, h4⟩ := Classical.epsilon_spec (hex l' hl3 hr')
    try dsimp only at e
    rw [← h2, ← h4, e]
theorem goes_ext (h : Rs m a reqs ps rs) (he : Ext m a reqs p) {k : Nat} (hk : k < a.length + p.length) (hpl : p.length < reqs.length) (ht : ps.getD p.length 0 = rs.getD k 0 + gap m a reqs k p.length)
    (hg : Goes m a reqs ps rs (p ++ [(k : Int)])) : Ext m a reqs (p ++ [(k : Int)]) := by
  obtain ⟨⟨f1, g1, i1⟩, f2, g2, i2⟩ := hg
  have hlen : (p ++ [(k : Int)]).length = p.length + 1 := by simp
  obtain ⟨M, hM, hpaid⟩ := Kn.md (n := reqs.length) (L := a.length + reqs.length) (E := fun l x => gridB m a reqs ps rs (p ++ [(k : Int)]) l x = true) (paid := fun l => 0 < rs.getD l 0) (f2 := f2) g2 i2 (reqs.length + 1) f1
    ⟨fun x hx => (g1 x hx trivial).1, fun x hx => (g1 x hx trivial).2, fun x y hx hy e => i1 x y hx hy trivial trivial e⟩ (by omega)
  obtain ⟨M0, hO0, hl0, hp0⟩ := he
  have hC0 := h.other hO0
  have hpre : ∀ x, x < p.length + 1 → (p ++ [(k : Int)]).getD x 0 = (M x : Int) := fun x hx => (grid_lo (by omega)).1 (hM.ok x (by omega))
  have hT : ∀ x, x < reqs.length → M x < a.length + x ∧ ps.getD x 0 = rs.getD (M x) 0 + gap m a reqs (M x) x := fun x hx => by
    by_cases e : x < p.length + 1
    · have h3 := hpre x e
      rw [getD_snoc] at h3
      by_cases e2 : x < p.length
      · rw [if_pos e2, hp0 x e2] at h3
        have h4 : M x = M0 x := by omega
        rw [h4]
        exact ⟨hC0.mt.ok x hx, hC0.tight x hx⟩
      · have e3 : x = p.length := by omega
        rw [if_neg e2, if_pos e3] at h3
        have h4 : M x = k := by omega
        rw [h4, e3]
        exact ⟨hk, ht⟩
    · exact ((grid_hi (by omega)).1 (hM.ok x hx)).2
  refine ⟨M, h.opt ⟨⟨hM.lt, fun x hx => (hT x hx).1, hM.inj⟩, h.cert.feas, h.cert.nn, fun x hx => (hT x hx).2, fun l hl hne => ?_⟩, by omega, fun j hj => hpre j (by omega)⟩
  have h1 := h.cert.nn l hl
  refine Classical.byContradiction fun hne2 => ?_
  obtain ⟨i, hi, e⟩ := hpaid l hl (by (try dsimp only at h1 hne2); omega)
  exact hne i hi e
/-- The reference's test. -/
theorem spec_test (h : Rs m a reqs ps rs) (he : Ext m a reqs p) (hpl : p.length < reqs.length) {k : Nat} :
    ((!(F_spec_l1Has p (k : Int))) = true ∧ F_spec_l7Tight m a reqs ps rs (k : Int) (p.length : Int) = true ∧ Goes m a reqs ps rs (p ++ [(k : Int)])) ↔ Ext m a reqs (p ++ [(k : Int)]) := by
  constructor
  · rintro ⟨h1, h2, h3⟩
    obtain ⟨h4, h5⟩ := tight_iff.1 h2
    exact goes_ext h he h4 hpl h5 h3
  · intro hx
    obtain ⟨h1, h2, h3, h4⟩ := hx.last
    refine ⟨?_, ?_, goes_of h hx⟩
    · cases h5 : F_spec_l1Has p (k : Int) with
      | false => rfl
      | true => exact absurd ((has_iff p k).1 h5) h3
    · obtain ⟨M, hM, hl, hp⟩ := hx
      have hC := h.other hM
      have h5 := hp p.length (by simp)
      rw [getD_snoc, if_neg (by omega), if_pos rfl] at h5
      have h6 : M p.length = k := by omega
      have h7 := hC.tight p.length h4
      try dsimp only at h7
      rw [h6] at h7
      exact tight_iff.2 ⟨by omega, h7⟩

/-! the program -/
/-- The table where the first rows have one column each; row z is left open. -/
structure Tb (m : List (List Int)) (a reqs p : List Int) (z : Nat) (cs : List (List Int)) : Prop where
  len : cs.length = reqs.length
  row : ∀ x, x < reqs.length → (cs.getD x []).length = a.length + reqs.length
  el : ∀ x l, x < reqs.length → l < a.length + reqs.length → x ≠ z → (cs.getD x []).getD l 0 = if l < a.length + x ∧ (x < p.length → p.getD x 0 = (l : Int)) then gap m a reqs l x else 1073741824
theorem tb_start (h : Sv m a reqs) (z : Nat) : Tb m a reqs [] z (F_impl_flowOf m a reqs).2 := by
  have hF := fw_cs h
  refine ⟨hF.len, hF.row, fun x l hx hl _ => ?_⟩
  rw [hF.el x l hx hl]
  by_cases e : l < a.length + x
  · rw [if_pos e, if_pos ⟨e, fun h => by simp at h⟩]
  · rw [if_neg e, if_neg (fun h => e h.1)]
theorem Tb.at_ {z : Nat} {cs : List (List Int)} (h : Tb m a reqs p reqs.length cs) : Tb m a reqs p z cs := ⟨h.len, h.row, fun x l hx hl _ => h.el x l hx hl (by omega)⟩
theorem only_get (n k l : Nat) (v : Int) (hl : l < n) (hk : k < n) : ((List.replicate n (1073741824 : Int)).set k v).getD l 0 = if l = k then v else 1073741824 := by
  rw [Kn.getD_set _ _ _ _ _ (by simpa using hk)]
  by_cases e : l = k
  · rw [if_pos e, if_pos e]
  · rw [if_neg e, if_neg e, getD_lt _ _ _ (by simpa using hl), List.getElem_replicate]
theorem Tb.put {cs : List (List Int)} (h : Tb m a reqs p p.length cs) {k : Nat} (hk : k < a.length + p.length) (hpl : p.length < reqs.length) :
    Tb m a reqs (p ++ [(k : Int)]) reqs.length (cs.set p.length ((List.replicate (a.length + reqs.length) 1073741824).set k (gap m a reqs k p.length))) := by
  have hl := h.len
  refine ⟨by rw [List.length_set]; exact hl, fun x hx => ?_, fun x l hx hl2 _ => ?_⟩
  · rw [Kn.getD_set _ _ _ _ _ (by omega)]
    split
    · simp
    · exact h.row x hx
  · rw [Kn.getD_set _ _ _ _ _ (by omega)]
    by_cases e : x = p.length
    · have hg : (p ++ [(k : Int)]).getD x 0 = (k : Int) := by rw [getD_snoc, if_neg (by omega), if_pos e]
      rw [if_pos e, only_get _ _ _ _ hl2 (by omega), hg]
      by_cases e2 : l = k
      · rw [if_pos e2, if_pos ⟨by omega, fun _ => by omega⟩, e2, e]
      · rw [if_neg e2, if_neg (fun hh => e2 (by have := hh.2 (by simp; omega); omega))]
    · rw [if_neg e, h.el x l hx hl2 e]
      have h1 : (x < (p ++ [(k : Int)]).length → (p ++ [(k : Int)]).getD x 0 = (l : Int)) ↔ (x < p.length → p.getD x 0 = (l : Int)) := by
        rw [getD_snoc]
        simp only [List.length_append, List.length_cons, List.length_nil]
        constructor
        · intro h2 h3; have := h2 (by omega); rwa [if_pos h3] at this
        · intro h2 h3; rw [if_pos (by omega)]; exact h2 (by omega)
      simp only [h1]
theorem Tb.reput {cs : List (List Int)} {z : Nat} (h : Tb m a reqs p reqs.length cs) {row : List Int} (hr : row.length = a.length + reqs.length) (hz : z < reqs.length) : Tb m a reqs p z (cs.set z row) := by
  have hl := h.len
  refine ⟨by rw [List.length_set]; exact hl, fun x hx => ?_, fun x l hx hl2 hne => ?_⟩
  · rw [Kn.getD_set _ _ _ _ _ (by omega)]
    split
    · exact hr
    · exact h.row x hx
  · rw [Kn.getD_set _ _ _ _ _ (by omega), if_neg hne]
    exact h.el x l hx hl2 (by omega)
theorem Tb.ft {cs : List (List Int)} (hS : Sv m a reqs) (h : Tb m a reqs p reqs.length cs) : Ft m a reqs (fun l x => l < a.length + x ∧ (x < p.length → p.getD x 0 = (l : Int))) cs := by
  have hlen := h.len
  have h60 := hS.r60
  have hk1 := hS.cf.n1
  have hk3 := hS.cf.n3
  have hw : reqs.length ≠ 0 → (cs.getD 0 []).length = a.length + reqs.length := fun hn => h.row 0 (by omega)
  have hc : ∀ l x, x < reqs.length → l < a.length + reqs.length → hC cs (x + 1) (l + 1) = if l < a.length + x ∧ (x < p.length → p.getD x 0 = (l : Int)) then gap m a reqs l x else 1073741824 := fun l x hx hl => by
    unfold hC
    rw [Nat.add_sub_cancel, Nat.add_sub_cancel]
    exact h.el x l hx hl (by omega)
  refine ⟨⟨by omega, fun i hi => by rw [h.row i (by omega), hw (by omega)], fun hn => by rw [hw (by omega)]; omega, fun i j => ?_⟩, hlen, hw, fun l x hx hl hk => ⟨hk.1, by rw [hc l x hx hl, if_pos hk]⟩, fun l x hx hl hk => by rw [hc l x hx hl, if_neg hk]⟩
  by_cases hi : i < reqs.length
  · by_cases hj : j < a.length + reqs.length
    · rw [h.el i j hi hj (by omega)]
      have := gap_all hS j i
      split <;> omega
    · rw [List.getD_eq_getElem?_getD, List.getElem?_eq_none (by rw [h.row i hi]; omega)]; simp
  · rw [show cs.getD i [] = [] by rw [List.getD_eq_getElem?_getD, List.getElem?_eq_none (by omega)]; rfl]; simp
theorem flow_cost (h : Sv m a reqs) : (F_impl_assigned (F_impl_flowOf m a reqs).2).2 = Th.cost (fun l x => gap m a reqs l x) (Th.colOf (F_spec_l7Flow m a reqs)) reqs.length := (flow_best h).2.2.2.2
theorem least_of (h : Sv m a reqs) {M : Nat → Nat} (hM : Th.Mt reqs.length (a.length + reqs.length) (fun l x => l < a.length + x) M) : Th.cost (fun l x => gap m a reqs l x) (Th.colOf (F_spec_l7Flow m a reqs)) reqs.length ≤ Th.cost (fun l x => gap m a reqs l x) M reqs.length := by
  obtain ⟨hl, p, r, hA⟩ := flow_aq h
  exact (hA.crt hl).best hM
/-- The program's test. -/
theorem impl_test {cs : List (List Int)} (hS : Sv m a reqs) (h : Tb m a reqs p reqs.length cs) (hpl : p.length ≤ reqs.length) :
    (F_impl_assigned cs).2 = (F_impl_assigned (F_impl_flowOf m a reqs).2).2 ↔ Ext m a reqs p := by
  have hT := h.ft hS
  rw [flow_cost hS]
  constructor
  · intro he
    have hA := assigned_as hT.cs
    have hlen := hT.len
    have h60 := hS.r60
    obtain ⟨pp, r, hK⟩ := hA.cert
    rw [hlen] at hK
    have hw : ∀ x, x < reqs.length → (cs.getD 0 []).length = a.length + reqs.length := fun x hx => hT.wide (by omega)
    have hlt : ∀ x, x < reqs.length → Th.colOf (F_impl_assigned cs).1 x < a.length + reqs.length := fun x hx => by rw [← hw x hx]; exact hK.mt.lt x hx
    have hs := hA.sum
    rw [hlen] at hs
    have e0 : Th.cost (fun l x => gap m a reqs l x) (Th.colOf (F_spec_l7Flow m a reqs)) reqs.length ≤ 99 * reqs.length := by
      unfold Th.cost
      exact sumTo_up fun x hx => (gap_all hS _ _).2
    have hok : ∀ x, x < reqs.length → Th.colOf (F_impl_assigned cs).1 x < a.length + x ∧ (x < p.length → p.getD x 0 = (Th.colOf (F_impl_assigned cs).1 x : Int)) := fun x hx => by
      refine Classical.byContradiction fun hne => ?_
      have h1 := hT.no _ x hx (hlt x hx) hne
      have h2 := (sumTo_nn (f := fun i => hC cs (i + 1) (Th.colOf (F_impl_assigned cs).1 i + 1)) (n := reqs.length) fun i hi => (hT.cs.el _ _).1).2 x hx
      have h3 : Th.sumTo (fun i => hC cs (i + 1) (Th.colOf (F_impl_assigned cs).1 i + 1)) reqs.length ≤ 99 * reqs.length := by
        have e4 : Th.sumTo (fun i => hC cs (i + 1) (Th.colOf (F_impl_assigned cs).1 i + 1)) reqs.length = Th.cost (fun l x => hC cs (x + 1) (l + 1)) (Th.colOf (F_impl_assigned cs).1) reqs.length := rfl
        rw [e4, ← hs, he]; exact e0
      (try dsimp only at h1 h2)
      omega
    have e3 : Th.cost (fun l x => hC cs (x + 1) (l + 1)) (Th.colOf (F_impl_assigned cs).1) reqs.length = Th.cost (fun l x => gap m a reqs l x) (Th.colOf (F_impl_assigned cs).1) reqs.length := by
      unfold Th.cost
      exact Th.sumTo_congr fun x hx => (hT.yes _ x hx (hlt x hx) (hok x hx)).2
    refine ⟨Th.colOf (F_impl_assigned cs).1, ⟨⟨hlt, fun x hx => (hok x hx).1, hK.mt.inj⟩, ?_⟩, hpl, fun j hj => (hok j (by omega)).2 hj⟩
    rw [← e3, ← hs, he]
    exact Int.le_refl _
  · rintro ⟨M, hM, hl, hp⟩
    obtain ⟨h1, _, _, h4, h5⟩ := hT.best hS (M := M) ⟨hM.1.lt, fun x hx => ⟨hM.1.ok x hx, fun hxp => hp x hxp⟩, hM.1.inj⟩
    have h6 := least_of hS (M := Th.colOf (F_impl_assigned cs).1) ⟨h1.lt, fun x hx => (h1.ok x hx).1, h1.inj⟩
    have h7 := hM.2
    omega
theorem contains_mem (l : List Int) (n : Int) : F_slices_Contains_Sint_int l n = true ↔ n ∈ l := by rw [contains_eq]; exact has_iff l n
end
/-- The first chain list of least cost. -/
noncomputable def chains (m : List (List Int)) (a reqs : List Int) : List Int := Classical.epsilon fun p => Lex m a reqs p ∧ p.length = reqs.length
theorem chains_eq {m : List (List Int)} {a reqs p : List Int} (h : Lex m a reqs p) (hl : p.length = reqs.length) : chains m a reqs = p := by
  have h1 := Classical.epsilon_spec (p := fun p => Lex m a reqs p ∧ p.length = reqs.length) ⟨p, h, hl⟩
  exact h1.1.one h (h1.2.trans hl.symm)
theorem chains_ok {m : List (List Int)} {a reqs : List Int} (h : Sv m a reqs) : ∀ i, i ≤ reqs.length → ∃ p, Lex m a reqs p ∧ p.length = i
  | 0, _ => ⟨[], lex_nil h, rfl⟩
  | i + 1, hi => by
    obtain ⟨p, h1, h2⟩ := chains_ok h i (by omega)
    obtain ⟨k0, _, hk0⟩ := h1.more (by omega)
    have hex : ∀ n k : Nat, k ≤ n → Ext m a reqs (p ++ [(k : Int)]) → ∃ k : Nat, Ext m a reqs (p ++ [(k : Int)]) ∧ ∀ k' : Nat, k' < k → ¬ Ext m a reqs (p ++ [(k' : Int)]) := by
      intro n
      induction n with
      | zero => intro k hk he; exact ⟨k, he, fun k' hk' => by omega⟩
      | succ n ih =>
        intro k hk he
        by_cases hh : ∃ k' : Nat, k' < k ∧ Ext m a reqs (p ++ [(k' : Int)])
        · obtain ⟨k', h3, h4⟩ := hh
          exact ih k' (by omega) h4
        · exact ⟨k, he, fun k' hk' hx => hh ⟨k', hk', hx⟩⟩
    obtain ⟨k, h3, h4⟩ := hex k0 k0 (Nat.le_refl _) hk0
    exact ⟨_, h1.push h4 h3, by simp [h2]⟩
noncomputable def F_spec_ChainsOf (m : List (List Int)) (a reqs : List Int) : List Int × Bool := bif (F_impl_isServed m a reqs && decide ((reqs.length : Int) ≤ 24)) then (chains m a reqs, true) else ([], false)
theorem chainsOf_len (m : List (List Int)) (a reqs : List Int) : (F_spec_ChainsOf m a reqs).1.length ≤ 60 := by
  unfold F_spec_ChainsOf
  cases hs : F_impl_isServed m a reqs with
  | false => simp
  | true =>
    have h := isServed_t hs
    by_cases h24 : (reqs.length : Int) ≤ 24
    · rw [decide_eq_true h24]
      obtain ⟨p, h1, h2⟩ := chains_ok h reqs.length (Nat.le_refl _)
      have e := chains_eq h1 h2
      simp only [Bool.and_self, cond_true, e]
      omega
    · rw [decide_eq_false h24]; simp
end Go.Proofs.Ytgnikdpgndmldaa
namespace Go.Proofs.Ytgnikdpgndmldaa
set_option linter.unusedVariables false
set_option linter.unusedSimpArgs false
open Go Go.RowKit
set_option linter.unusedVariables false

noncomputable def F_laws_FnExactChainsOf (m : List (List Int)) (a : List Int) (reqs : List Int) : Bool := (bif decide (1048576 < (a.length : Int)) then true else (bif decide (1048576 < (reqs.length : Int)) then true else (bif decide ((F_laws_szMetric m 1048576) < 0) then true else (bif ((!(F_laws_eqIntS ((F_spec_ChainsOf (F_laws_toMetric m) (F_laws_toIntS a) (F_laws_toIntS reqs)).1) ((F_spec_ChainsOf (F_laws_toMetric m) (F_laws_toIntS a) (F_laws_toIntS reqs)).1))) || (((F_spec_ChainsOf (F_laws_toMetric m) (F_laws_toIntS a) (F_laws_toIntS reqs)).2) != ((F_spec_ChainsOf (F_laws_toMetric m) (F_laws_toIntS a) (F_laws_toIntS reqs)).2))) then false else (bif !(F_laws_eqMetric (F_laws_toMetric m) (F_laws_toMetric m)) then false else (bif !(F_laws_eqIntS (F_laws_toIntS a) (F_laws_toIntS a)) then false else (bif !(F_laws_eqIntS (F_laws_toIntS reqs) (F_laws_toIntS reqs)) then false else (bif (((decide ((F_laws_markIntS (F_laws_toIntS reqs) ((F_laws_markIntS (F_laws_toIntS a) ((F_laws_markMetric (F_laws_toMetric m) 1).1)).1)).1 < 0)) || (!(F_laws_eqIntS ((F_spec_ChainsOf (F_laws_toMetric m) (F_laws_toIntS a) (F_laws_toIntS reqs)).1) ((F_spec_ChainsOf (F_laws_toMetric m) (F_laws_toIntS a) (F_laws_toIntS reqs)).1)))) || (((F_spec_ChainsOf (F_laws_toMetric m) (F_laws_toIntS a) (F_laws_toIntS reqs)).2) != ((F_spec_ChainsOf (F_laws_toMetric m) (F_laws_toIntS a) (F_laws_toIntS reqs)).2))) then false else (bif decide ((F_laws_heldIntS ((F_laws_markIntS ((F_spec_ChainsOf (F_laws_toMetric m) (F_laws_toIntS a) (F_laws_toIntS reqs)).1) 1).2) 1) < 0) then false else (bif !decide ((F_laws_heldIntS ((F_laws_markIntS ((F_spec_ChainsOf (F_laws_toMetric m) (F_laws_toIntS a) (F_laws_toIntS reqs)).1) 1).2) 1) = (F_laws_markIntS ((F_spec_ChainsOf (F_laws_toMetric m) (F_laws_toIntS a) (F_laws_toIntS reqs)).1) 1).1) then false else true))))))))))


end Go.Proofs.Ytgnikdpgndmldaa
namespace Go.Proofs.Ytgnikdpgndmldaa
set_option linter.unusedVariables false
set_option linter.unusedSimpArgs false
open Go Go.RowKit
theorem law_ChainsOf (m : List (List Int)) (a reqs : List Int) : F_laws_FnExactChainsOf m a reqs = true := by
  unfold F_laws_FnExactChainsOf
  simp only [toMetric_eq, toIntS_eq, eqMetric_refl, eqIntS_refl, markIntS_eq, markMetric_eq, heldIntS_iota]
  have h1 : ¬ ((1 : Int) + (total m : Int) + (a.length : Int) + (reqs.length : Int) < 0) := by omega
  have h2 : ¬ ((1 : Int) + ((F_spec_ChainsOf m a reqs).1.length : Int) < 0) := by omega
  simp [h1, h2]
end Go.Proofs.Ytgnikdpgndmldaa
