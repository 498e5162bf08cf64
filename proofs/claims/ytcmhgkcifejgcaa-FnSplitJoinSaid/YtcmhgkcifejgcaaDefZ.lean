/-
  What functions of the program compute, as plain functions. No condition.
-/
import Derived.Test.YtcmhgkcifejgcaaDefN
import Derived.Test.YtcmhgkcifejgcaaStrL
namespace Go.Proofs.Ytcmhgkcifejgcaa
open Go Go.RowKit
set_option linter.unusedVariables false

def F_spec_l1Cur_of (code : List Int) (at_ : Int) (seed : Int) (list : List ByteArray) : ByteArray × (Int × Int) := ((fun q1_4 => ((list.getD ((q1_4.1).toNat) ByteArray.empty), ((q1_4.2).1, (q1_4.2).2))) (F_spec_l1Cur_pick code at_ seed (list.length : Int)))

def F_spec_l1Cur_any1 (code : List Int) (at_ : Int) (seed : Int) : ByteArray × (Int × Int) := ((fun q1_2 => (q1_2.1, ((q1_2.2).1, (q1_2.2).2))) (F_spec_l1Cur_of code at_ seed ([(ByteArray.mk #[]), (ByteArray.mk #[97]), (ByteArray.mk #[97, 44, 98]), (ByteArray.mk #[115, 111, 109, 101, 32, 119, 111, 114, 100, 115]), (ByteArray.mk #[120, 35, 121]), (ByteArray.mk #[45, 49, 50]), (ByteArray.mk #[0, 255]), (ByteArray.mk #[44, 44]), (ByteArray.mk #[48])])))

def F_impl_splitAt_L1 (s : ByteArray) (sep : Int) : Nat → List ByteArray × Nat × Nat → Ctl (List ByteArray × Nat × Nat) (List ByteArray)
  | 0, s => .next s
  | mf1 + 1, (out1, from1, k11_1) => (bif decide ((k11_1 : Int) < (s.size : Int)) then (bif decide ((sAt s k11_1) = sep) then F_impl_splitAt_L1 s sep mf1 ((out1 ++ ([(s.extract from1 k11_1)])), (k11_1 + 1), (k11_1 + 1)) else F_impl_splitAt_L1 s sep mf1 (out1, from1, (k11_1 + 1))) else (.next (out1, from1, k11_1)))
theorem F_impl_splitAt_L1_s (s : ByteArray) (sep : Int) (out1 : List ByteArray) (from1 : Nat) (k11_1 : Nat) (mf1 : Nat) : F_impl_splitAt_L1 s sep (mf1 + 1) (out1, from1, k11_1) = (bif decide ((k11_1 : Int) < (s.size : Int)) then (bif decide ((sAt s k11_1) = sep) then F_impl_splitAt_L1 s sep mf1 ((out1 ++ ([(s.extract from1 k11_1)])), (k11_1 + 1), (k11_1 + 1)) else F_impl_splitAt_L1 s sep mf1 (out1, from1, (k11_1 + 1))) else (.next (out1, from1, k11_1))) := rfl
def F_impl_splitAt (s : ByteArray) (sep : Int) : List ByteArray := ((F_impl_splitAt_L1 s sep ((s.size - 0) + 1) (([] : List ByteArray), 0, 0)).elim (fun (out1, from1, _) => (out1 ++ ([(s.extract from1 s.size)]))) (fun r => r))

def F_impl_SplitString (s : ByteArray) (sep : ByteArray) : List ByteArray × Bool := (bif ((decide (4000 < (s.size : Int))) || (!decide ((sep.size : Int) = 1))) then ([], false) else ((F_impl_splitAt s (sAt sep 0)), true))

def F_impl_JoinStrings_L1 (parts : List ByteArray) (sep : ByteArray) : Nat → Int × Nat → Ctl (Int × Nat) (ByteArray × Bool)
  | 0, s => .next s
  | mf1 + 1, (size1, k22_1) => (bif decide ((k22_1 : Int) < (parts.length : Int)) then (bif ((decide (4000 < size1 + ((parts.getD k22_1 ByteArray.empty).size : Int))) || (decide (0 ≤ (idxByte (parts.getD k22_1 ByteArray.empty) (sAt sep 0))))) then (.ret ((ByteArray.mk #[]), false)) else F_impl_JoinStrings_L1 parts sep mf1 ((size1 + ((parts.getD k22_1 ByteArray.empty).size : Int)), (k22_1 + 1))) else (.next (size1, k22_1)))
theorem F_impl_JoinStrings_L1_s (parts : List ByteArray) (sep : ByteArray) (size1 : Int) (k22_1 : Nat) (mf1 : Nat) : F_impl_JoinStrings_L1 parts sep (mf1 + 1) (size1, k22_1) = (bif decide ((k22_1 : Int) < (parts.length : Int)) then (bif ((decide (4000 < size1 + ((parts.getD k22_1 ByteArray.empty).size : Int))) || (decide (0 ≤ (idxByte (parts.getD k22_1 ByteArray.empty) (sAt sep 0))))) then (.ret ((ByteArray.mk #[]), false)) else F_impl_JoinStrings_L1 parts sep mf1 ((size1 + ((parts.getD k22_1 ByteArray.empty).size : Int)), (k22_1 + 1))) else (.next (size1, k22_1))) := rfl
def F_impl_JoinStrings (parts : List ByteArray) (sep : ByteArray) : ByteArray × Bool := (bif ((decide ((parts.length : Int) = 0)) || (!decide ((sep.size : Int) = 1))) then ((ByteArray.mk #[]), false) else ((F_impl_JoinStrings_L1 parts sep ((parts.length - 0) + 1) (((parts.length : Int) - 1), 0)).elim (fun (size1, _) => (bif decide (4000 < size1) then ((ByteArray.mk #[]), false) else ((joinB parts sep), true))) (fun r => r)))

def F_spec_l1Stands_L1 (s : ByteArray) (b : Int) : Nat → Nat → Ctl (Nat) (Bool)
  | 0, s => .next s
  | mf1 + 1, i1 => (bif decide ((i1 : Int) < (s.size : Int)) then (bif decide ((sAt s i1) = b) then (.ret true) else F_spec_l1Stands_L1 s b mf1 (i1 + 1)) else (.next i1))
theorem F_spec_l1Stands_L1_s (s : ByteArray) (b : Int) (i1 : Nat) (mf1 : Nat) : F_spec_l1Stands_L1 s b (mf1 + 1) i1 = (bif decide ((i1 : Int) < (s.size : Int)) then (bif decide ((sAt s i1) = b) then (.ret true) else F_spec_l1Stands_L1 s b mf1 (i1 + 1)) else (.next i1)) := rfl
def F_spec_l1Stands (s : ByteArray) (b : Int) : Bool := ((F_spec_l1Stands_L1 s b ((s.size - 0) + 1) 0).elim (fun _ => false) (fun r => r))

def F_spec_JoinStrings_L1 (l : List ByteArray) (sign : ByteArray) : Nat → ByteArray × Nat → Ctl (ByteArray × Nat) (ByteArray × Bool)
  | 0, s => .next s
  | mf1 + 1, (out1, i1) => (bif decide ((i1 : Int) < (l.length : Int)) then (bif (F_spec_l1Stands (l.getD i1 ByteArray.empty) (sAt sign 0)) then (.ret ((ByteArray.mk #[]), false)) else (bif decide (0 < (i1 : Int)) then (bif decide (4000 < (((out1 ++ sign) ++ (l.getD i1 ByteArray.empty)).size : Int)) then (.ret ((ByteArray.mk #[]), false)) else F_spec_JoinStrings_L1 l sign mf1 (((out1 ++ sign) ++ (l.getD i1 ByteArray.empty)), (i1 + 1))) else (bif decide (4000 < ((out1 ++ (l.getD i1 ByteArray.empty)).size : Int)) then (.ret ((ByteArray.mk #[]), false)) else F_spec_JoinStrings_L1 l sign mf1 ((out1 ++ (l.getD i1 ByteArray.empty)), (i1 + 1))))) else (.next (out1, i1)))
theorem F_spec_JoinStrings_L1_s (l : List ByteArray) (sign : ByteArray) (out1 : ByteArray) (i1 : Nat) (mf1 : Nat) : F_spec_JoinStrings_L1 l sign (mf1 + 1) (out1, i1) = (bif decide ((i1 : Int) < (l.length : Int)) then (bif (F_spec_l1Stands (l.getD i1 ByteArray.empty) (sAt sign 0)) then (.ret ((ByteArray.mk #[]), false)) else (bif decide (0 < (i1 : Int)) then (bif decide (4000 < (((out1 ++ sign) ++ (l.getD i1 ByteArray.empty)).size : Int)) then (.ret ((ByteArray.mk #[]), false)) else F_spec_JoinStrings_L1 l sign mf1 (((out1 ++ sign) ++ (l.getD i1 ByteArray.empty)), (i1 + 1))) else (bif decide (4000 < ((out1 ++ (l.getD i1 ByteArray.empty)).size : Int)) then (.ret ((ByteArray.mk #[]), false)) else F_spec_JoinStrings_L1 l sign mf1 ((out1 ++ (l.getD i1 ByteArray.empty)), (i1 + 1))))) else (.next (out1, i1))) := rfl
def F_spec_JoinStrings (l : List ByteArray) (sign : ByteArray) : ByteArray × Bool := (bif ((!decide ((sign.size : Int) = 1)) || (decide ((l.length : Int) = 0))) then ((ByteArray.mk #[]), false) else ((F_spec_JoinStrings_L1 l sign ((l.length - 0) + 1) ((ByteArray.mk #[]), 0)).elim (fun (out1, _) => (out1, true)) (fun r => r)))

def F_impl_LessString (a : ByteArray) (b : ByteArray) : Bool := Op.bytesLess (a).toList (b).toList

def F_spec_LessString (a : ByteArray) (b : ByteArray) : Bool := Op.bytesLess (a).toList (b).toList

def F_spec_DrawSplitString (code : List Int) : ByteArray × ByteArray := ((fun q2_1 => ((fun q3_3 => (q2_1.1, q3_3.1)) (F_spec_l1Cur_of code ((q2_1.2).1) ((q2_1.2).2) ([(ByteArray.mk #[44]), (ByteArray.mk #[44]), (ByteArray.mk #[32]), (ByteArray.mk #[]), (ByteArray.mk #[44, 44])])))) (F_spec_l1Cur_any1 code 0 0))

def F_spec_DrawJoinStrings_L1 (code : List Int) (q3_1 : Int × (Int × Int)) : Nat → List ByteArray × Nat × Int × Int → Ctl (List ByteArray × Nat × Int × Int) (List ByteArray × ByteArray)
  | 0, s => .next s
  | mf1 + 1, (l1, i1, zg1_2_1_1, zg1_2_2_1) => (bif decide ((i1 : Int) < q3_1.1) then ((fun (q7_2 : ByteArray × (Int × Int)) => F_spec_DrawJoinStrings_L1 code q3_1 mf1 ((l1 ++ ([q7_2.1])), (i1 + 1), ((q7_2.2).1), ((q7_2.2).2))) (F_spec_l1Cur_any1 code zg1_2_1_1 zg1_2_2_1)) else (.next (l1, i1, zg1_2_1_1, zg1_2_2_1)))
theorem F_spec_DrawJoinStrings_L1_s (code : List Int) (q3_1 : Int × (Int × Int)) (l1 : List ByteArray) (i1 : Nat) (zg1_2_1_1 : Int) (zg1_2_2_1 : Int) (mf1 : Nat) : F_spec_DrawJoinStrings_L1 code q3_1 (mf1 + 1) (l1, i1, zg1_2_1_1, zg1_2_2_1) = (bif decide ((i1 : Int) < q3_1.1) then ((fun (q7_2 : ByteArray × (Int × Int)) => F_spec_DrawJoinStrings_L1 code q3_1 mf1 ((l1 ++ ([q7_2.1])), (i1 + 1), ((q7_2.2).1), ((q7_2.2).2))) (F_spec_l1Cur_any1 code zg1_2_1_1 zg1_2_2_1)) else (.next (l1, i1, zg1_2_1_1, zg1_2_2_1))) := rfl
def F_spec_DrawJoinStrings (code : List Int) : List ByteArray × ByteArray := ((fun (q3_1 : Int × (Int × Int)) => ((F_spec_DrawJoinStrings_L1 code q3_1 ((((q3_1.1).toNat) - 0) + 1) (([] : List ByteArray), 0, ((q3_1.2).1), ((q3_1.2).2))).elim (fun (l1, _, zg1_2_1_1, zg1_2_2_1) => ((fun (q8_1 : Bool × (Int × Int)) => (bif q8_1.1 then ((fun (q9_2 : Int × (Int × Int)) => ((fun (q10_3 : ByteArray × (Int × Int)) => ((l1 ++ ([(zeros (Int.toNat (3990 + q9_2.1)))])), q10_3.1)) (F_spec_l1Cur_of code ((q9_2.2).1) ((q9_2.2).2) ([(ByteArray.mk #[44]), (ByteArray.mk #[59]), (ByteArray.mk #[59]), (ByteArray.mk #[]), (ByteArray.mk #[97, 98])])))) (F_spec_l1Cur_pick code ((q8_1.2).1) ((q8_1.2).2) 20)) else ((fun (q10_3 : ByteArray × (Int × Int)) => (l1, q10_3.1)) (F_spec_l1Cur_of code ((q8_1.2).1) ((q8_1.2).2) ([(ByteArray.mk #[44]), (ByteArray.mk #[59]), (ByteArray.mk #[59]), (ByteArray.mk #[]), (ByteArray.mk #[97, 98])]))))) (F_spec_l1Cur_one code zg1_2_1_1 zg1_2_2_1 20))) (fun r => r))) (F_spec_l1Cur_pick code 0 0 4))

def F_spec_DrawLessString (code : List Int) : ByteArray × ByteArray := ((fun q2_1 => ((fun q3_2 => (q2_1.1, q3_2.1)) (F_spec_l1Cur_any1 code ((q2_1.2).1) ((q2_1.2).2)))) (F_spec_l1Cur_any1 code 0 0))

def F_laws_vBig (code : List Int) : Bool := decide (65536 < (code.length : Int))

def F_laws_FnSplitJoin (code : List Int) : Bool := (bif (F_laws_vBig code) then true else (bif ((((!(((F_impl_JoinStrings ((F_spec_DrawJoinStrings code).1) ((F_spec_DrawJoinStrings code).2)).1).toList == ((F_spec_JoinStrings ((F_spec_DrawJoinStrings code).1) ((F_spec_DrawJoinStrings code).2)).1).toList)) || (((F_impl_JoinStrings ((F_spec_DrawJoinStrings code).1) ((F_spec_DrawJoinStrings code).2)).2) != ((F_spec_JoinStrings ((F_spec_DrawJoinStrings code).1) ((F_spec_DrawJoinStrings code).2)).2))) || ((F_impl_LessString ((F_spec_DrawLessString code).1) ((F_spec_DrawLessString code).2)) != (F_spec_LessString ((F_spec_DrawLessString code).1) ((F_spec_DrawLessString code).2)))) || ((F_impl_LessString ((F_spec_DrawLessString code).1) ((F_spec_DrawLessString code).2)) && (F_impl_LessString ((F_spec_DrawLessString code).2) ((F_spec_DrawLessString code).1)))) then false else (bif !decide ((((F_spec_DrawSplitString code).2).size : Int) = 1) then ((!((F_impl_SplitString ((F_spec_DrawSplitString code).1) ((F_spec_DrawSplitString code).2)).2)) && (decide (((F_impl_SplitString ((F_spec_DrawSplitString code).1) ((F_spec_DrawSplitString code).2)).1.length : Int) = 0))) else ((((F_impl_SplitString ((F_spec_DrawSplitString code).1) ((F_spec_DrawSplitString code).2)).2) && ((F_impl_JoinStrings ((F_impl_SplitString ((F_spec_DrawSplitString code).1) ((F_spec_DrawSplitString code).2)).1) ((F_spec_DrawSplitString code).2)).2)) && (((F_impl_JoinStrings ((F_impl_SplitString ((F_spec_DrawSplitString code).1) ((F_spec_DrawSplitString code).2)).1) ((F_spec_DrawSplitString code).2)).1).toList == ((F_spec_DrawSplitString code).1).toList)))))


end Go.Proofs.Ytcmhgkcifejgcaa
