/-
  Part of a proof: rules of the walk, plain functions and their laws, walks. No condition.
-/
import Derived.Test.YtcmhgkcifejgcaaKFnRunsAndUses10
import Derived.Shelf.Sort.Plain
import Derived.Shelf.Bits.Mul64
import Derived.Shelf.Slices.CompactI
import Derived.Shelf.Strings.OnBuilder
import Derived.Shelf.Small.Strs
import Derived.Test.YtcmhgkcifejgcaaProg
namespace Go.Proofs.Ytcmhgkcifejgcaa
set_option linter.unusedVariables false
set_option linter.unusedSimpArgs false
open Go Go.Shelf
def lays156_ren : Go.Shelf.Ren := ⟨fun | 156 => 68 | 165 => 118 | 166 => 119 | 169 => 120 | 240 => 153 | 241 => 154 | 276 => 172 | 277 => 173 | n => n, fun | 31 => 26 | 9 => 9 | 3 => 3 | 4 => 4 | 0 => 0 | 20 => 20 | 72 => 122 | 76 => 126 | 70 => 120 | 37 => 22 | 75 => 125 | 127 => 152 | 164 => 167 | 5 => 5 | 80 => 76 | n => n, fun | n => n⟩
theorem lays156 : Go.Proofs.Lays.n156 Try.prog lays156_ren := {
  mixed := by kernel_rfl
  f156 := Try.func68.trans (congrArg some (by kernel_rfl))
  f165 := Try.func118.trans (congrArg some (by kernel_rfl))
  f166 := Try.func119.trans (congrArg some (by kernel_rfl))
  f169 := Try.func120.trans (congrArg some (by kernel_rfl))
  f240 := Try.func153.trans (congrArg some (by kernel_rfl))
  f241 := Try.func154.trans (congrArg some (by kernel_rfl))
  f276 := Try.func172.trans (congrArg some (by kernel_rfl))
  f277 := Try.func173.trans (congrArg some (by kernel_rfl))
  t0 := Try.underlying0
  a0 := Try.isAgg0
  z0 := Try.sizeOf0
  v0 := Try.zeroValue0
  t3 := Try.underlying3
  a3 := Try.isAgg3
  z3 := Try.sizeOf3
  v3 := Try.zeroValue3
  t4 := Try.underlying4
  a4 := Try.isAgg4
  z4 := Try.sizeOf4
  v4 := Try.zeroValue4
  t9 := Try.underlying9
  a9 := Try.isAgg9
  z9 := Try.sizeOf9
  v9 := Try.zeroValue9
  t20 := Try.underlying20
  a20 := Try.isAgg20
  z20 := Try.sizeOf20
  v20 := Try.zeroValue20
  t31 := Try.underlying26
  a31 := Try.isAgg26
  z31 := Try.sizeOf26
  v31 := Try.zeroValue26
  t37 := Try.underlying22
  a37 := Try.isAgg22
  z37 := Try.sizeOf22
  v37 := Try.zeroValue22
  t70 := Try.underlying120
  a70 := Try.isAgg120
  z70 := Try.sizeOf120
  v70 := Try.zeroValue120
  t72 := Try.underlying122
  a72 := Try.isAgg122
  z72 := Try.sizeOf122
  v72 := Try.zeroValue122
  t75 := Try.underlying125
  a75 := Try.isAgg125
  z75 := Try.sizeOf125
  v75 := Try.zeroValue125
  t76 := Try.underlying126
  a76 := Try.isAgg126
  z76 := Try.sizeOf126
  v76 := Try.zeroValue126
  t127 := Try.underlying152
  a127 := Try.isAgg152
  z127 := Try.sizeOf152
  v127 := Try.zeroValue152
  t164 := Try.underlying167
  a164 := Try.isAgg167
  z164 := Try.sizeOf167
  v164 := Try.zeroValue167 }
def lays137_ren : Go.Shelf.Ren := ⟨fun | 137 => 67 | 217 => 117 | 266 => 152 | n => n, fun | 9 => 9 | 5 => 5 | 3 => 3 | n => n, fun | n => n⟩
theorem lays137 : Go.Proofs.Lays.n137 Try.prog lays137_ren := {
  mixed := by kernel_rfl
  f137 := Try.func67.trans (congrArg some (by kernel_rfl))
  f217 := Try.func117.trans (congrArg some (by kernel_rfl))
  f266 := Try.func152.trans (congrArg some (by kernel_rfl))
  t3 := Try.underlying3
  a3 := Try.isAgg3
  z3 := Try.sizeOf3
  v3 := Try.zeroValue3
  t5 := Try.underlying5
  a5 := Try.isAgg5
  z5 := Try.sizeOf5
  v5 := Try.zeroValue5
  t9 := Try.underlying9
  a9 := Try.isAgg9
  z9 := Try.sizeOf9
  v9 := Try.zeroValue9 }
def lays189_ren : Go.Shelf.Ren := ⟨fun | 189 => 151 | 125 => 171 | 257 => 170 | 128 => 188 | 129 => 189 | 294 => 180 | 295 => 181 | 296 => 182 | 297 => 183 | 298 => 184 | 299 => 185 | 216 => 169 | 300 => 186 | 301 => 187 | 328 => 191 | 329 => 192 | 330 => 193 | 331 => 194 | 332 => 195 | 215 => 179 | 343 => 197 | n => n, fun | 28 => 34 | 3 => 3 | 46 => 129 | 0 => 0 | 51 => 154 | 53 => 73 | 4 => 4 | 183 => 176 | 182 => 175 | 131 => 65 | 5 => 5 | 9 => 9 | 218 => 183 | 222 => 187 | 228 => 189 | 229 => 190 | n => n, fun | n => n⟩
theorem lays189 : Go.Proofs.Lays.n189 Try.prog lays189_ren := {
  mixed := by kernel_rfl
  f125 := Try.func171.trans (congrArg some (by kernel_rfl))
  f128 := Try.func188.trans (congrArg some (by kernel_rfl))
  f129 := Try.func189.trans (congrArg some (by kernel_rfl))
  f189 := Try.func151.trans (congrArg some (by kernel_rfl))
  f215 := Try.func179.trans (congrArg some (by kernel_rfl))
  f216 := Try.func169.trans (congrArg some (by kernel_rfl))
  f257 := Try.func170.trans (congrArg some (by kernel_rfl))
  f294 := Try.func180.trans (congrArg some (by kernel_rfl))
  f295 := Try.func181.trans (congrArg some (by kernel_rfl))
  f296 := Try.func182.trans (congrArg some (by kernel_rfl))
  f297 := Try.func183.trans (congrArg some (by kernel_rfl))
  f298 := Try.func184.trans (congrArg some (by kernel_rfl))
  f299 := Try.func185.trans (congrArg some (by kernel_rfl))
  f300 := Try.func186.trans (congrArg some (by kernel_rfl))
  f301 := Try.func187.trans (congrArg some (by kernel_rfl))
  f328 := Try.func191.trans (congrArg some (by kernel_rfl))
  f329 := Try.func192.trans (congrArg some (by kernel_rfl))
  f330 := Try.func193.trans (congrArg some (by kernel_rfl))
  f331 := Try.func194.trans (congrArg some (by kernel_rfl))
  f332 := Try.func195.trans (congrArg some (by kernel_rfl))
  f343 := Try.func197.trans (congrArg some (by kernel_rfl))
  t0 := Try.underlying0
  a0 := Try.isAgg0
  z0 := Try.sizeOf0
  v0 := Try.zeroValue0
  t3 := Try.underlying3
  a3 := Try.isAgg3
  z3 := Try.sizeOf3
  v3 := Try.zeroValue3
  t4 := Try.underlying4
  a4 := Try.isAgg4
  z4 := Try.sizeOf4
  v4 := Try.zeroValue4
  t5 := Try.underlying5
  a5 := Try.isAgg5
  z5 := Try.sizeOf5
  v5 := Try.zeroValue5
  t9 := Try.underlying9
  a9 := Try.isAgg9
  z9 := Try.sizeOf9
  v9 := Try.zeroValue9
  t28 := Try.underlying34
  a28 := Try.isAgg34
  z28 := Try.sizeOf34
  v28 := Try.zeroValue34
  t46 := Try.underlying129
  a46 := Try.isAgg129
  z46 := Try.sizeOf129
  v46 := Try.zeroValue129
  t51 := Try.underlying154
  a51 := Try.isAgg154
  z51 := Try.sizeOf154
  v51 := Try.zeroValue154
  t53 := Try.underlying73
  a53 := Try.isAgg73
  z53 := Try.sizeOf73
  v53 := Try.zeroValue73
  t131 := Try.underlying65
  a131 := Try.isAgg65
  z131 := Try.sizeOf65
  v131 := Try.zeroValue65
  t182 := Try.underlying175
  a182 := Try.isAgg175
  z182 := Try.sizeOf175
  v182 := Try.zeroValue175
  t183 := Try.underlying176
  a183 := Try.isAgg176
  z183 := Try.sizeOf176
  v183 := Try.zeroValue176
  t218 := Try.underlying183
  a218 := Try.isAgg183
  z218 := Try.sizeOf183
  v218 := Try.zeroValue183
  t222 := Try.underlying187
  a222 := Try.isAgg187
  z222 := Try.sizeOf187
  v222 := Try.zeroValue187
  t228 := Try.underlying189
  a228 := Try.isAgg189
  z228 := Try.sizeOf189
  v228 := Try.zeroValue189
  t229 := Try.underlying190
  a229 := Try.isAgg190
  z229 := Try.sizeOf190
  v229 := Try.zeroValue190 }
def lays212_ren : Go.Shelf.Ren := ⟨fun | 212 => 124 | 263 => 157 | 264 => 158 | n => n, fun | 46 => 129 | 51 => 154 | 146 => 155 | 53 => 73 | 148 => 157 | n => n, fun | n => n⟩
theorem lays212 : Go.Proofs.Lays.n212 Try.prog lays212_ren := {
  mixed := by kernel_rfl
  f212 := Try.func124.trans (congrArg some (by kernel_rfl))
  f263 := Try.func157.trans (congrArg some (by kernel_rfl))
  f264 := Try.func158.trans (congrArg some (by kernel_rfl))
  t46 := Try.underlying129
  a46 := Try.isAgg129
  z46 := Try.sizeOf129
  v46 := Try.zeroValue129
  t51 := Try.underlying154
  a51 := Try.isAgg154
  z51 := Try.sizeOf154
  v51 := Try.zeroValue154
  t53 := Try.underlying73
  a53 := Try.isAgg73
  z53 := Try.sizeOf73
  v53 := Try.zeroValue73
  t146 := Try.underlying155
  a146 := Try.isAgg155
  z146 := Try.sizeOf155
  v146 := Try.zeroValue155
  t148 := Try.underlying157
  a148 := Try.isAgg157
  z148 := Try.sizeOf157
  v148 := Try.zeroValue157 }
def lays220_ren : Go.Shelf.Ren := ⟨fun | 20 => 162 | n => n, fun | 22 => 34 | 3 => 3 | 4 => 4 | 0 => 0 | n => n, fun | n => n⟩
theorem lays220 : Go.Proofs.Lays2.n20 Try.prog lays220_ren := {
  mixed := by kernel_rfl
  f20 := Try.func162.trans (congrArg some (by kernel_rfl))
  t0 := Try.underlying0
  a0 := Try.isAgg0
  z0 := Try.sizeOf0
  v0 := Try.zeroValue0
  t3 := Try.underlying3
  a3 := Try.isAgg3
  z3 := Try.sizeOf3
  v3 := Try.zeroValue3
  t4 := Try.underlying4
  a4 := Try.isAgg4
  z4 := Try.sizeOf4
  v4 := Try.zeroValue4
  t22 := Try.underlying34
  a22 := Try.isAgg34
  z22 := Try.sizeOf34
  v22 := Try.zeroValue34
  i3 := by kernel_rfl }
end Go.Proofs.Ytcmhgkcifejgcaa
namespace Go.Proofs.Ytcmhgkcifejgcaa
set_option linter.unusedVariables false
set_option linter.unusedSimpArgs false
open Go Go.RowKit

def mulU (x y : Int) : Int × Int := (((x.toNat * y.toNat / 18446744073709551616 : Nat) : Int), ((x.toNat * y.toNat % 18446744073709551616 : Nat) : Int))
theorem mulU_one {n : Nat} {c : Int} (hn : n = 1) (h0 : 0 ≤ c) (h1 : c ≤ 1000000) : (mulU (n : Int) c).1 = 0 ∧ (mulU (n : Int) c).2 = c := by
  subst hn
  unfold mulU
  simp only [Int.toNat_natCast, Nat.one_mul]
  omega
theorem bits_Mul_ok (w : World) (x y : Int) (hp0 : 0 ≤ x) (hp1 : x < 18446744073709551616) (hp2 : 0 ≤ y) (hp3 : y < 18446744073709551616) :
    Calls Try.prog 124 ([(.int .u64 x), (.int .u64 y)] : List Value).toArray w (Ret (.tuple #[(.int .u64 ((mulU x y).1)), (.int .u64 ((mulU x y).2))]) (Hp w [])) := by
  have h := Any.bits_Mul lays212 x.toNat y.toNat (by omega) (by omega) w
  rw [Int.toNat_of_nonneg hp0, Int.toNat_of_nonneg hp2] at h
  refine h.mono ?_
  rintro e w' ⟨rfl, rfl⟩
  exact ⟨rfl, Hp.start _⟩
end Go.Proofs.Ytcmhgkcifejgcaa
namespace Go.Proofs.Ytcmhgkcifejgcaa
set_option linter.unusedVariables false
set_option linter.unusedSimpArgs false
open Go Go.RowKit
set_option linter.unusedVariables false

def F_spec_l6Sort_L2 (list : List Int) (out1 : List Int) (i1 : Nat) : Nat → Nat → Ctl (Nat) (List Int)
  | 0, s => .next s
  | mf2 + 1, k2 => (bif ((decide ((k2 : Int) < (out1.length : Int))) && (decide ((out1.getD k2 0) ≤ (list.getD i1 0)))) then F_spec_l6Sort_L2 list out1 i1 mf2 (k2 + 1) else (.next k2))
theorem F_spec_l6Sort_L2_s (list : List Int) (out1 : List Int) (i1 : Nat) (k2 : Nat) (mf2 : Nat) : F_spec_l6Sort_L2 list out1 i1 (mf2 + 1) k2 = (bif ((decide ((k2 : Int) < (out1.length : Int))) && (decide ((out1.getD k2 0) ≤ (list.getD i1 0)))) then F_spec_l6Sort_L2 list out1 i1 mf2 (k2 + 1) else (.next k2)) := rfl
def F_spec_l6Sort_L1 (list : List Int) : Nat → List Int × Nat → Ctl (List Int × Nat) (List Int)
  | 0, s => .next s
  | mf1 + 1, (out1, i1) => (bif decide ((i1 : Int) < (list.length : Int)) then ((F_spec_l6Sort_L2 list out1 i1 ((out1.length - 0) + 1) 0).elim (fun k2 => F_spec_l6Sort_L1 list mf1 ((((([] : List Int) ++ ((out1.take k2).drop 0)) ++ ([(list.getD i1 0)])) ++ ((out1.take out1.length).drop k2)), (i1 + 1))) (fun r => .ret r)) else (.next (out1, i1)))
theorem F_spec_l6Sort_L1_s (list : List Int) (out1 : List Int) (i1 : Nat) (mf1 : Nat) : F_spec_l6Sort_L1 list (mf1 + 1) (out1, i1) = (bif decide ((i1 : Int) < (list.length : Int)) then ((F_spec_l6Sort_L2 list out1 i1 ((out1.length - 0) + 1) 0).elim (fun k2 => F_spec_l6Sort_L1 list mf1 ((((([] : List Int) ++ ((out1.take k2).drop 0)) ++ ([(list.getD i1 0)])) ++ ((out1.take out1.length).drop k2)), (i1 + 1))) (fun r => .ret r)) else (.next (out1, i1))) := rfl
def F_spec_l6Sort (list : List Int) : List Int := ((F_spec_l6Sort_L1 list ((list.length - 0) + 1) (([] : List Int), 0)).elim (fun (out1, _) => out1) (fun r => r))

def F_slices_Repeat_Sint_int_L1  : Nat → Nat × List Int → Ctl (Nat × List Int) (List Int)
  | 0, s => .next s
  | mf1 + 1, (n1, newslice1) => (bif decide ((n1 : Int) < (newslice1.length : Int)) then F_slices_Repeat_Sint_int_L1 mf1 ((n1 + (min ((newslice1.take n1).drop 0).length (newslice1.length - n1))), (newslice1.take n1 ++ ((newslice1.take n1).drop 0).take (newslice1.length - n1) ++ newslice1.drop (n1 + (min ((newslice1.take n1).drop 0).length (newslice1.length - n1))))) else (.next (n1, newslice1)))
theorem F_slices_Repeat_Sint_int_L1_s (n1 : Nat) (newslice1 : List Int) (mf1 : Nat) : F_slices_Repeat_Sint_int_L1  (mf1 + 1) (n1, newslice1) = (bif decide ((n1 : Int) < (newslice1.length : Int)) then F_slices_Repeat_Sint_int_L1 mf1 ((n1 + (min ((newslice1.take n1).drop 0).length (newslice1.length - n1))), (newslice1.take n1 ++ ((newslice1.take n1).drop 0).take (newslice1.length - n1) ++ newslice1.drop (n1 + (min ((newslice1.take n1).drop 0).length (newslice1.length - n1))))) else (.next (n1, newslice1))) := rfl
def F_slices_Repeat_Sint_int (x : List Int) (count : Int) : List Int := ((((bif decide (count < 0) then default else (Ctl.next ())) : Ctl (Unit) (List Int))).elim (fun _ => ((((bif ((decide (0 < (mulU (x.length : Int) count).1)) || (decide (9223372036854775807 < (mulU (x.length : Int) count).2))) then default else (Ctl.next ())) : Ctl (Unit) (List Int))).elim (fun _ => ((F_slices_Repeat_Sint_int_L1  (((x.take (List.replicate (((mulU (x.length : Int) count).2).toNat) (0 : Int)).length ++ (List.replicate (((mulU (x.length : Int) count).2).toNat) (0 : Int)).drop (min x.length (List.replicate (((mulU (x.length : Int) count).2).toNat) (0 : Int)).length)).length - (min x.length (List.replicate (((mulU (x.length : Int) count).2).toNat) (0 : Int)).length)) + 1) ((min x.length (List.replicate (((mulU (x.length : Int) count).2).toNat) (0 : Int)).length), (x.take (List.replicate (((mulU (x.length : Int) count).2).toNat) (0 : Int)).length ++ (List.replicate (((mulU (x.length : Int) count).2).toNat) (0 : Int)).drop (min x.length (List.replicate (((mulU (x.length : Int) count).2).toNat) (0 : Int)).length)))).elim (fun (_, newslice1) => newslice1) (fun r => r))) (fun r => r))) (fun r => r))

def F_spec_l4With (list : List Int) (at_ : Int) (y : Int) : List Int := (list.set ((at_).toNat) y)


end Go.Proofs.Ytcmhgkcifejgcaa
namespace Go.Proofs.Ytcmhgkcifejgcaa
set_option linter.unusedVariables false
set_option linter.unusedSimpArgs false
open Go Go.RowKit
set_option linter.unusedVariables false

def F_impl_isItems (n : Int) : Bool := ((decide (1 ≤ n)) && (decide (n ≤ 8)))

def F_impl_IsRequests (n : Int) (reqs : List Int) : Bool := ((((decide (1 ≤ n)) && (decide (n ≤ 8))) && (decide ((reqs.length : Int) ≤ 60))) && (F_impl_areBelow n reqs))

def F_spec_l3Items (n : Int) : Bool := ((decide (1 ≤ n)) && (decide (n ≤ 8)))

def F_spec_l3List_L1 (n : Int) (reqs : List Int) : Nat → Nat → Ctl (Nat) (Bool)
  | 0, s => .next s
  | mf1 + 1, i1 => (bif decide ((i1 : Int) < (reqs.length : Int)) then (bif !((decide (0 ≤ (reqs.getD i1 0))) && (decide ((reqs.getD i1 0) ≤ (n - 1)))) then (.ret false) else F_spec_l3List_L1 n reqs mf1 (i1 + 1)) else (.next i1))
theorem F_spec_l3List_L1_s (n : Int) (reqs : List Int) (i1 : Nat) (mf1 : Nat) : F_spec_l3List_L1 n reqs (mf1 + 1) i1 = (bif decide ((i1 : Int) < (reqs.length : Int)) then (bif !((decide (0 ≤ (reqs.getD i1 0))) && (decide ((reqs.getD i1 0) ≤ (n - 1)))) then (.ret false) else F_spec_l3List_L1 n reqs mf1 (i1 + 1)) else (.next i1)) := rfl
def F_spec_l3List (n : Int) (reqs : List Int) : Bool := ((F_spec_l3List_L1 n reqs ((reqs.length - 0) + 1) 0).elim (fun _ => true) (fun r => r))

def F_spec_l3Good (n : Int) (reqs : List Int) : Bool := ((((decide (1 ≤ n)) && (decide (n ≤ 8))) && (decide ((reqs.length : Int) ≤ 60))) && (F_spec_l3List n reqs))

def F_spec_l1Cur_among (code : List Int) (at_ : Int) (seed : Int) (list : List Int) : Int × (Int × Int) := ((fun q1_4 => ((list.getD ((q1_4.1).toNat) 0), ((q1_4.2).1, (q1_4.2).2))) (F_spec_l1Cur_pick code at_ seed (list.length : Int)))

def F_laws_vBig (code : List Int) : Bool := decide (65536 < (code.length : Int))

def F_spec_l1Cur_items (code : List Int) (at_ : Int) (seed : Int) : Int × (Int × Int) := ((fun q1_3 => ((fun q1_7 => (q1_7.1, ((q1_7.2).1, (q1_7.2).2))) (F_spec_l1Cur_among code ((q1_3.2).1) ((q1_3.2).2) ((([3, 4, 5, 2, 6, 8, 1, 0, 9, -1]).take ((7 + (q1_3.1 / 8)).toNat)).drop 0)))) (F_spec_l1Cur_pick code at_ seed 24))

def F_spec_l1Cur_requests_L1 (code : List Int) (n : Int) (q2_2 : Int × (Int × Int)) (q3_1 : Int × (Int × Int)) : Nat → List Int × Int × Int → Ctl (List Int × Int × Int) (List Int × (Int × Int))
  | 0, s => .next s
  | mf1 + 1, (k5_1, zP_1_1, zP_2_1) => (bif decide ((k5_1.length : Int) < q2_2.1) then (bif ((decide (q3_1.1 = 0)) && (decide (0 < (k5_1.length : Int)))) then ((fun (q7_8 : Int × (Int × Int)) => F_spec_l1Cur_requests_L1 code n q2_2 q3_1 mf1 ((k5_1 ++ ([((k5_1.getD (((k5_1.length : Int) - 1).toNat) 0) + q7_8.1) % (F_spec_l1Most 1 (F_spec_l1Least n 8))])), ((q7_8.2).1), ((q7_8.2).2))) (F_spec_l1Cur_pick code zP_1_1 zP_2_1 2)) else (bif ((decide (q3_1.1 = 1)) && (decide (2 < (k5_1.length : Int)))) then ((fun (q9_6 : Int × (Int × Int)) => ((fun (q10_1 : Bool × (Int × Int)) => (bif q10_1.1 then ((fun (q11_6 : Int × (Int × Int)) => F_spec_l1Cur_requests_L1 code n q2_2 q3_1 mf1 (((k5_1 ++ ([(k5_1.getD ((((k5_1.length : Int) - 1) - q9_6.1).toNat) 0)])).set ((((k5_1 ++ ([(k5_1.getD ((((k5_1.length : Int) - 1) - q9_6.1).toNat) 0)])).length : Int) - 1).toNat) q11_6.1), ((q11_6.2).1), ((q11_6.2).2))) (F_spec_l1Cur_pick code ((q10_1.2).1) ((q10_1.2).2) (F_spec_l1Most 1 (F_spec_l1Least n 8)))) else F_spec_l1Cur_requests_L1 code n q2_2 q3_1 mf1 ((k5_1 ++ ([(k5_1.getD ((((k5_1.length : Int) - 1) - q9_6.1).toNat) 0)])), ((q10_1.2).1), ((q10_1.2).2)))) (F_spec_l1Cur_one code ((q9_6.2).1) ((q9_6.2).2) 3))) (F_spec_l1Cur_pick code zP_1_1 zP_2_1 3)) else ((fun (q5_3 : Int × (Int × Int)) => F_spec_l1Cur_requests_L1 code n q2_2 q3_1 mf1 ((k5_1 ++ ([q5_3.1])), ((q5_3.2).1), ((q5_3.2).2))) (F_spec_l1Cur_pick code zP_1_1 zP_2_1 (F_spec_l1Most 1 (F_spec_l1Least n 8)))))) else (.next (k5_1, zP_1_1, zP_2_1)))
theorem F_spec_l1Cur_requests_L1_s (code : List Int) (n : Int) (q2_2 : Int × (Int × Int)) (q3_1 : Int × (Int × Int)) (k5_1 : List Int) (zP_1_1 : Int) (zP_2_1 : Int) (mf1 : Nat) : F_spec_l1Cur_requests_L1 code n q2_2 q3_1 (mf1 + 1) (k5_1, zP_1_1, zP_2_1) = (bif decide ((k5_1.length : Int) < q2_2.1) then (bif ((decide (q3_1.1 = 0)) && (decide (0 < (k5_1.length : Int)))) then ((fun (q7_8 : Int × (Int × Int)) => F_spec_l1Cur_requests_L1 code n q2_2 q3_1 mf1 ((k5_1 ++ ([((k5_1.getD (((k5_1.length : Int) - 1).toNat) 0) + q7_8.1) % (F_spec_l1Most 1 (F_spec_l1Least n 8))])), ((q7_8.2).1), ((q7_8.2).2))) (F_spec_l1Cur_pick code zP_1_1 zP_2_1 2)) else (bif ((decide (q3_1.1 = 1)) && (decide (2 < (k5_1.length : Int)))) then ((fun (q9_6 : Int × (Int × Int)) => ((fun (q10_1 : Bool × (Int × Int)) => (bif q10_1.1 then ((fun (q11_6 : Int × (Int × Int)) => F_spec_l1Cur_requests_L1 code n q2_2 q3_1 mf1 (((k5_1 ++ ([(k5_1.getD ((((k5_1.length : Int) - 1) - q9_6.1).toNat) 0)])).set ((((k5_1 ++ ([(k5_1.getD ((((k5_1.length : Int) - 1) - q9_6.1).toNat) 0)])).length : Int) - 1).toNat) q11_6.1), ((q11_6.2).1), ((q11_6.2).2))) (F_spec_l1Cur_pick code ((q10_1.2).1) ((q10_1.2).2) (F_spec_l1Most 1 (F_spec_l1Least n 8)))) else F_spec_l1Cur_requests_L1 code n q2_2 q3_1 mf1 ((k5_1 ++ ([(k5_1.getD ((((k5_1.length : Int) - 1) - q9_6.1).toNat) 0)])), ((q10_1.2).1), ((q10_1.2).2)))) (F_spec_l1Cur_one code ((q9_6.2).1) ((q9_6.2).2) 3))) (F_spec_l1Cur_pick code zP_1_1 zP_2_1 3)) else ((fun (q5_3 : Int × (Int × Int)) => F_spec_l1Cur_requests_L1 code n q2_2 q3_1 mf1 ((k5_1 ++ ([q5_3.1])), ((q5_3.2).1), ((q5_3.2).2))) (F_spec_l1Cur_pick code zP_1_1 zP_2_1 (F_spec_l1Most 1 (F_spec_l1Least n 8)))))) else (.next (k5_1, zP_1_1, zP_2_1))) := rfl
def F_spec_l1Cur_requests_L2 (code : List Int) (n : Int) : Nat → List Int × Int × Int → Ctl (List Int × Int × Int) (List Int × (Int × Int))
  | 0, s => .next s
  | mf2 + 1, (k5_2, zP_1_2, zP_2_2) => ((fun (q16_3 : Int × (Int × Int)) => (bif decide ((k5_2.length : Int) < 60 + q16_3.1) then F_spec_l1Cur_requests_L2 code n mf2 ((k5_2 ++ ([(k5_2.length : Int) % (F_spec_l1Most 1 (F_spec_l1Least n 8))])), ((q16_3.2).1), ((q16_3.2).2)) else (.next (k5_2, ((q16_3.2).1), ((q16_3.2).2))))) (F_spec_l1Cur_pick code zP_1_2 zP_2_2 2))
theorem F_spec_l1Cur_requests_L2_s (code : List Int) (n : Int) (k5_2 : List Int) (zP_1_2 : Int) (zP_2_2 : Int) (mf2 : Nat) : F_spec_l1Cur_requests_L2 code n (mf2 + 1) (k5_2, zP_1_2, zP_2_2) = ((fun (q16_3 : Int × (Int × Int)) => (bif decide ((k5_2.length : Int) < 60 + q16_3.1) then F_spec_l1Cur_requests_L2 code n mf2 ((k5_2 ++ ([(k5_2.length : Int) % (F_spec_l1Most 1 (F_spec_l1Least n 8))])), ((q16_3.2).1), ((q16_3.2).2)) else (.next (k5_2, ((q16_3.2).1), ((q16_3.2).2))))) (F_spec_l1Cur_pick code zP_1_2 zP_2_2 2)) := rfl
def F_spec_l1Cur_requests (code : List Int) (at_ : Int) (seed : Int) (n : Int) : List Int × (Int × Int) := ((fun (q2_2 : Int × (Int × Int)) => ((fun (q3_1 : Int × (Int × Int)) => ((F_spec_l1Cur_requests_L1 code n q2_2 q3_1 (((q2_2.1).toNat - ([] : List Int).length) + 1) (([] : List Int), ((q3_1.2).1), ((q3_1.2).2))).elim (fun (k5_1, zP_1_1, zP_2_1) => ((fun (q12_1 : Int × (Int × Int)) => (bif decide (q12_1.1 = 0) then ((fun (q14_4 : Int × (Int × Int)) => ((k5_1 ++ ([q14_4.1])), ((q14_4.2).1, (q14_4.2).2))) (F_spec_l1Cur_among code ((q12_1.2).1) ((q12_1.2).2) ([-1, n, 8]))) else (bif decide (q12_1.1 = 1) then ((F_spec_l1Cur_requests_L2 code n ((62 - k5_1.length) + 1) (k5_1, ((q12_1.2).1), ((q12_1.2).2))).elim (fun (k5_2, zP_1_2, zP_2_2) => (k5_2, (zP_1_2, zP_2_2))) (fun r => r)) else (k5_1, ((q12_1.2).1, (q12_1.2).2))))) (F_spec_l1Cur_pick code zP_1_1 zP_2_1 48))) (fun r => r))) (F_spec_l1Cur_pick code ((q2_2.2).1) ((q2_2.2).2) 3))) (F_spec_l1Cur_among code at_ seed ([6, 9, 12, 4, 16, 2, 24, 1, 0])))

def F_spec_DrawIsRequests (code : List Int) : Int × List Int := ((fun q2_1 => ((fun q3_3 => (q2_1.1, q3_3.1)) (F_spec_l1Cur_requests code ((q2_1.2).1) ((q2_1.2).2) q2_1.1))) (F_spec_l1Cur_items code 0 0))

def F_spec_DrawRunsOf (code : List Int) : Int × List Int := ((F_spec_DrawIsRequests code).1, (F_spec_DrawIsRequests code).2)

def F_spec_DrawFromRuns_L1 (code : List Int) (q2_1 : Int × (Int × Int)) : Nat → List (Int × Int) × Int × Int × Int → Ctl (List (Int × Int) × Int × Int × Int) (Int × List (Int × Int))
  | 0, s => .next s
  | mf1 + 1, (out1, k1, zg1_2_1_1, zg1_2_2_1) => (bif decide (0 < k1) then ((fun (q7_5 : Int × (Int × Int)) => ((fun (q7_8 : Int × (Int × Int)) => F_spec_DrawFromRuns_L1 code q2_1 mf1 ((out1 ++ ([(q7_5.1, q7_8.1)])), (k1 - 1), ((q7_8.2).1), ((q7_8.2).2))) (F_spec_l1Cur_among code ((q7_5.2).1) ((q7_5.2).2) ([1, 2, 3, 1, 5, 20])))) (F_spec_l1Cur_pick code zg1_2_1_1 zg1_2_2_1 (F_spec_l1Most 1 (F_spec_l1Least q2_1.1 8)))) else (.next (out1, k1, zg1_2_1_1, zg1_2_2_1)))
theorem F_spec_DrawFromRuns_L1_s (code : List Int) (q2_1 : Int × (Int × Int)) (out1 : List (Int × Int)) (k1 : Int) (zg1_2_1_1 : Int) (zg1_2_2_1 : Int) (mf1 : Nat) : F_spec_DrawFromRuns_L1 code q2_1 (mf1 + 1) (out1, k1, zg1_2_1_1, zg1_2_2_1) = (bif decide (0 < k1) then ((fun (q7_5 : Int × (Int × Int)) => ((fun (q7_8 : Int × (Int × Int)) => F_spec_DrawFromRuns_L1 code q2_1 mf1 ((out1 ++ ([(q7_5.1, q7_8.1)])), (k1 - 1), ((q7_8.2).1), ((q7_8.2).2))) (F_spec_l1Cur_among code ((q7_5.2).1) ((q7_5.2).2) ([1, 2, 3, 1, 5, 20])))) (F_spec_l1Cur_pick code zg1_2_1_1 zg1_2_2_1 (F_spec_l1Most 1 (F_spec_l1Least q2_1.1 8)))) else (.next (out1, k1, zg1_2_1_1, zg1_2_2_1))) := rfl
def F_spec_DrawFromRuns (code : List Int) : Int × List (Int × Int) := ((fun (q2_1 : Int × (Int × Int)) => ((fun (q4_1 : Int × (Int × Int)) => ((F_spec_DrawFromRuns_L1 code q2_1 ((q4_1.1.toNat) + 1) (([] : List (Int × Int)), q4_1.1, ((q4_1.2).1), ((q4_1.2).2))).elim (fun (out1, _, zg1_2_1_1, zg1_2_2_1) => ((fun (q8_1 : Bool × (Int × Int)) => (bif q8_1.1 then ((fun (q9_3 : Int × (Int × Int)) => ((fun (q9_6 : Int × (Int × Int)) => (q2_1.1, (out1 ++ ([(q9_3.1, q9_6.1)])))) (F_spec_l1Cur_among code ((q9_3.2).1) ((q9_3.2).2) ([0, 1, -1, 60, -9223372036854775808])))) (F_spec_l1Cur_among code ((q8_1.2).1) ((q8_1.2).2) ([0, -1, 8]))) else (q2_1.1, out1))) (F_spec_l1Cur_one code zg1_2_1_1 zg1_2_2_1 12))) (fun r => r))) (F_spec_l1Cur_pick code ((q2_1.2).1) ((q2_1.2).2) 7))) (F_spec_l1Cur_items code 0 0))

def F_impl_RunsOf_L1 (reqs : List Int) : Nat → List (Int × Int) × Nat → Ctl (List (Int × Int) × Nat) (List (Int × Int) × Bool)
  | 0, s => .next s
  | mf1 + 1, (out1, k16_1) => (bif decide ((k16_1 : Int) < (reqs.length : Int)) then (bif ((decide ((k16_1 : Int) = 0)) || (!decide ((reqs.getD (((k16_1 : Int) - 1).toNat) 0) = (reqs.getD k16_1 0)))) then F_impl_RunsOf_L1 reqs mf1 (((out1 ++ ([((reqs.getD k16_1 0), 0)])).set ((((out1 ++ ([((reqs.getD k16_1 0), 0)])).length : Int) - 1).toNat) (((out1 ++ ([((reqs.getD k16_1 0), 0)])).getD ((((out1 ++ ([((reqs.getD k16_1 0), 0)])).length : Int) - 1).toNat) (0, 0)).1, (((out1 ++ ([((reqs.getD k16_1 0), 0)])).getD ((((out1 ++ ([((reqs.getD k16_1 0), 0)])).length : Int) - 1).toNat) (0, 0)).2) + 1)), (k16_1 + 1)) else F_impl_RunsOf_L1 reqs mf1 ((out1.set (((out1.length : Int) - 1).toNat) ((out1.getD (((out1.length : Int) - 1).toNat) (0, 0)).1, ((out1.getD (((out1.length : Int) - 1).toNat) (0, 0)).2) + 1)), (k16_1 + 1))) else (.next (out1, k16_1)))
theorem F_impl_RunsOf_L1_s (reqs : List Int) (out1 : List (Int × Int)) (k16_1 : Nat) (mf1 : Nat) : F_impl_RunsOf_L1 reqs (mf1 + 1) (out1, k16_1) = (bif decide ((k16_1 : Int) < (reqs.length : Int)) then (bif ((decide ((k16_1 : Int) = 0)) || (!decide ((reqs.getD (((k16_1 : Int) - 1).toNat) 0) = (reqs.getD k16_1 0)))) then F_impl_RunsOf_L1 reqs mf1 (((out1 ++ ([((reqs.getD k16_1 0), 0)])).set ((((out1 ++ ([((reqs.getD k16_1 0), 0)])).length : Int) - 1).toNat) (((out1 ++ ([((reqs.getD k16_1 0), 0)])).getD ((((out1 ++ ([((reqs.getD k16_1 0), 0)])).length : Int) - 1).toNat) (0, 0)).1, (((out1 ++ ([((reqs.getD k16_1 0), 0)])).getD ((((out1 ++ ([((reqs.getD k16_1 0), 0)])).length : Int) - 1).toNat) (0, 0)).2) + 1)), (k16_1 + 1)) else F_impl_RunsOf_L1 reqs mf1 ((out1.set (((out1.length : Int) - 1).toNat) ((out1.getD (((out1.length : Int) - 1).toNat) (0, 0)).1, ((out1.getD (((out1.length : Int) - 1).toNat) (0, 0)).2) + 1)), (k16_1 + 1))) else (.next (out1, k16_1))) := rfl
def F_impl_RunsOf (n : Int) (reqs : List Int) : List (Int × Int) × Bool := (bif !(F_impl_IsRequests n reqs) then ([], false) else ((F_impl_RunsOf_L1 reqs ((reqs.length - 0) + 1) (([] : List (Int × Int)), 0)).elim (fun (out1, _) => (out1, true)) (fun r => r)))

def F_spec_RunsOf_L1 (reqs : List Int) : Nat → List (Int × Int) × Nat → Ctl (List (Int × Int) × Nat) (List (Int × Int) × Bool)
  | 0, s => .next s
  | mf1 + 1, (out1, i1) => (bif decide ((i1 : Int) < (reqs.length : Int)) then (bif ((decide (0 < (i1 : Int))) && (decide ((reqs.getD i1 0) = (reqs.getD (((i1 : Int) - 1).toNat) 0)))) then F_spec_RunsOf_L1 reqs mf1 ((out1.set (((out1.length : Int) - 1).toNat) ((out1.getD (((out1.length : Int) - 1).toNat) (0, 0)).1, ((out1.getD (((out1.length : Int) - 1).toNat) (0, 0)).2) + 1)), (i1 + 1)) else F_spec_RunsOf_L1 reqs mf1 ((out1 ++ ([((reqs.getD i1 0), 1)])), (i1 + 1))) else (.next (out1, i1)))
theorem F_spec_RunsOf_L1_s (reqs : List Int) (out1 : List (Int × Int)) (i1 : Nat) (mf1 : Nat) : F_spec_RunsOf_L1 reqs (mf1 + 1) (out1, i1) = (bif decide ((i1 : Int) < (reqs.length : Int)) then (bif ((decide (0 < (i1 : Int))) && (decide ((reqs.getD i1 0) = (reqs.getD (((i1 : Int) - 1).toNat) 0)))) then F_spec_RunsOf_L1 reqs mf1 ((out1.set (((out1.length : Int) - 1).toNat) ((out1.getD (((out1.length : Int) - 1).toNat) (0, 0)).1, ((out1.getD (((out1.length : Int) - 1).toNat) (0, 0)).2) + 1)), (i1 + 1)) else F_spec_RunsOf_L1 reqs mf1 ((out1 ++ ([((reqs.getD i1 0), 1)])), (i1 + 1))) else (.next (out1, i1))) := rfl
def F_spec_RunsOf (n : Int) (reqs : List Int) : List (Int × Int) × Bool := (bif !(F_spec_l3Good n reqs) then (([] : List (Int × Int)), false) else ((F_spec_RunsOf_L1 reqs ((reqs.length - 0) + 1) (([] : List (Int × Int)), 0)).elim (fun (out1, _) => (out1, true)) (fun r => r)))

def F_impl_FromRuns_L1 (n : Int) (runs : List (Int × Int)) : Nat → List Int × Nat → Ctl (List Int × Nat) (List Int × Bool)
  | 0, s => .next s
  | mf1 + 1, (out1, k20_1) => (bif decide ((k20_1 : Int) < (runs.length : Int)) then (bif ((!((decide (0 ≤ ((runs.getD k20_1 (0, 0)).1))) && (decide (((runs.getD k20_1 (0, 0)).1) ≤ (n - 1))))) || (!((decide (1 ≤ ((runs.getD k20_1 (0, 0)).2))) && (decide (((runs.getD k20_1 (0, 0)).2) ≤ (60 - (out1.length : Int))))))) then (.ret ([], false)) else F_impl_FromRuns_L1 n runs mf1 ((out1 ++ (F_slices_Repeat_Sint_int ([(runs.getD k20_1 (0, 0)).1]) ((runs.getD k20_1 (0, 0)).2))), (k20_1 + 1))) else (.next (out1, k20_1)))
theorem F_impl_FromRuns_L1_s (n : Int) (runs : List (Int × Int)) (out1 : List Int) (k20_1 : Nat) (mf1 : Nat) : F_impl_FromRuns_L1 n runs (mf1 + 1) (out1, k20_1) = (bif decide ((k20_1 : Int) < (runs.length : Int)) then (bif ((!((decide (0 ≤ ((runs.getD k20_1 (0, 0)).1))) && (decide (((runs.getD k20_1 (0, 0)).1) ≤ (n - 1))))) || (!((decide (1 ≤ ((runs.getD k20_1 (0, 0)).2))) && (decide (((runs.getD k20_1 (0, 0)).2) ≤ (60 - (out1.length : Int))))))) then (.ret ([], false)) else F_impl_FromRuns_L1 n runs mf1 ((out1 ++ (F_slices_Repeat_Sint_int ([(runs.getD k20_1 (0, 0)).1]) ((runs.getD k20_1 (0, 0)).2))), (k20_1 + 1))) else (.next (out1, k20_1))) := rfl
def F_impl_FromRuns (n : Int) (runs : List (Int × Int)) : List Int × Bool := (bif ((!((decide (1 ≤ n)) && (decide (n ≤ 8)))) || (decide (60 < (runs.length : Int)))) then ([], false) else ((F_impl_FromRuns_L1 n runs ((runs.length - 0) + 1) (([] : List Int), 0)).elim (fun (out1, _) => (out1, true)) (fun r => r)))

def F_spec_FromRuns_L2 (runs : List (Int × Int)) (k7_1 : Nat) : Nat → List Int × Nat → Ctl (List Int × Nat) (List Int × Bool)
  | 0, s => .next s
  | mf2 + 1, (k6_2, k8_2) => (bif decide ((k8_2 : Int) < (runs.getD k7_1 (0, 0)).2) then F_spec_FromRuns_L2 runs k7_1 mf2 ((k6_2 ++ ([(runs.getD k7_1 (0, 0)).1])), (k8_2 + 1)) else (.next (k6_2, k8_2)))
theorem F_spec_FromRuns_L2_s (runs : List (Int × Int)) (k7_1 : Nat) (k6_2 : List Int) (k8_2 : Nat) (mf2 : Nat) : F_spec_FromRuns_L2 runs k7_1 (mf2 + 1) (k6_2, k8_2) = (bif decide ((k8_2 : Int) < (runs.getD k7_1 (0, 0)).2) then F_spec_FromRuns_L2 runs k7_1 mf2 ((k6_2 ++ ([(runs.getD k7_1 (0, 0)).1])), (k8_2 + 1)) else (.next (k6_2, k8_2))) := rfl
def F_spec_FromRuns_L1 (n : Int) (runs : List (Int × Int)) : Nat → List Int × Nat → Ctl (List Int × Nat) (List Int × Bool)
  | 0, s => .next s
  | mf1 + 1, (k6_1, k7_1) => (bif decide ((k7_1 : Int) < (runs.length : Int)) then (bif ((!((decide (0 ≤ ((runs.getD k7_1 (0, 0)).1))) && (decide (((runs.getD k7_1 (0, 0)).1) ≤ (n - 1))))) || (!((decide (1 ≤ ((runs.getD k7_1 (0, 0)).2))) && (decide (((runs.getD k7_1 (0, 0)).2) ≤ (60 - (k6_1.length : Int))))))) then (.ret (([] : List Int), false)) else ((F_spec_FromRuns_L2 runs k7_1 (((((runs.getD k7_1 (0, 0)).2).toNat) - 0) + 1) (k6_1, 0)).elim (fun (k6_2, _) => F_spec_FromRuns_L1 n runs mf1 (k6_2, (k7_1 + 1))) (fun r => .ret r))) else (.next (k6_1, k7_1)))
theorem F_spec_FromRuns_L1_s (n : Int) (runs : List (Int × Int)) (k6_1 : List Int) (k7_1 : Nat) (mf1 : Nat) : F_spec_FromRuns_L1 n runs (mf1 + 1) (k6_1, k7_1) = (bif decide ((k7_1 : Int) < (runs.length : Int)) then (bif ((!((decide (0 ≤ ((runs.getD k7_1 (0, 0)).1))) && (decide (((runs.getD k7_1 (0, 0)).1) ≤ (n - 1))))) || (!((decide (1 ≤ ((runs.getD k7_1 (0, 0)).2))) && (decide (((runs.getD k7_1 (0, 0)).2) ≤ (60 - (k6_1.length : Int))))))) then (.ret (([] : List Int), false)) else ((F_spec_FromRuns_L2 runs k7_1 (((((runs.getD k7_1 (0, 0)).2).toNat) - 0) + 1) (k6_1, 0)).elim (fun (k6_2, _) => F_spec_FromRuns_L1 n runs mf1 (k6_2, (k7_1 + 1))) (fun r => .ret r))) else (.next (k6_1, k7_1))) := rfl
def F_spec_FromRuns (n : Int) (runs : List (Int × Int)) : List Int × Bool := (bif ((!((decide (1 ≤ n)) && (decide (n ≤ 8)))) || (decide (60 < (runs.length : Int)))) then (([] : List Int), false) else ((F_spec_FromRuns_L1 n runs ((runs.length - 0) + 1) (([] : List Int), 0)).elim (fun (k6_1, _) => (k6_1, true)) (fun r => r)))

def F_impl_CountsOf_L1 (reqs : List Int) : Nat → Nat × List Int → Ctl (Nat × List Int) (List Int × Bool)
  | 0, s => .next s
  | mf1 + 1, (k17_1, out1) => (bif decide ((k17_1 : Int) < (reqs.length : Int)) then F_impl_CountsOf_L1 reqs mf1 ((k17_1 + 1), (out1.set (((reqs.getD k17_1 0)).toNat) ((out1.getD (((reqs.getD k17_1 0)).toNat) 0) + 1))) else (.next (k17_1, out1)))
theorem F_impl_CountsOf_L1_s (reqs : List Int) (k17_1 : Nat) (out1 : List Int) (mf1 : Nat) : F_impl_CountsOf_L1 reqs (mf1 + 1) (k17_1, out1) = (bif decide ((k17_1 : Int) < (reqs.length : Int)) then F_impl_CountsOf_L1 reqs mf1 ((k17_1 + 1), (out1.set (((reqs.getD k17_1 0)).toNat) ((out1.getD (((reqs.getD k17_1 0)).toNat) 0) + 1))) else (.next (k17_1, out1))) := rfl
def F_impl_CountsOf (n : Int) (reqs : List Int) : List Int × Bool := (bif !(F_impl_IsRequests n reqs) then ([], false) else ((F_impl_CountsOf_L1 reqs ((reqs.length - 0) + 1) (0, (List.replicate ((n).toNat) (0 : Int)))).elim (fun (_, out1) => (out1, true)) (fun r => r)))

def F_spec_l3Counts_L1 (reqs : List Int) : Nat → Nat × List Int → Ctl (Nat × List Int) (List Int)
  | 0, s => .next s
  | mf1 + 1, (i1, out1) => (bif decide ((i1 : Int) < (reqs.length : Int)) then F_spec_l3Counts_L1 reqs mf1 ((i1 + 1), (out1.set (((reqs.getD i1 0)).toNat) ((out1.getD (((reqs.getD i1 0)).toNat) 0) + 1))) else (.next (i1, out1)))
theorem F_spec_l3Counts_L1_s (reqs : List Int) (i1 : Nat) (out1 : List Int) (mf1 : Nat) : F_spec_l3Counts_L1 reqs (mf1 + 1) (i1, out1) = (bif decide ((i1 : Int) < (reqs.length : Int)) then F_spec_l3Counts_L1 reqs mf1 ((i1 + 1), (out1.set (((reqs.getD i1 0)).toNat) ((out1.getD (((reqs.getD i1 0)).toNat) 0) + 1))) else (.next (i1, out1))) := rfl
def F_spec_l3Counts (n : Int) (reqs : List Int) : List Int := ((F_spec_l3Counts_L1 reqs ((reqs.length - 0) + 1) (0, (List.replicate ((n).toNat) (0 : Int)))).elim (fun (_, out1) => out1) (fun r => r))

def F_spec_CountsOf (n : Int) (reqs : List Int) : List Int × Bool := (bif !(F_spec_l3Good n reqs) then (([] : List Int), false) else ((F_spec_l3Counts n reqs), true))

def F_impl_lastUses_L2 (reqs : List Int) (k10_1 : Nat) : Nat → Int → Ctl (Int) (List Int)
  | 0, s => .next s
  | mf2 + 1, at2 => (bif ((decide (0 ≤ at2)) && (!decide ((reqs.getD ((at2).toNat) 0) = (reqs.getD k10_1 0)))) then F_impl_lastUses_L2 reqs k10_1 mf2 (at2 - 1) else (.next at2))
theorem F_impl_lastUses_L2_s (reqs : List Int) (k10_1 : Nat) (at2 : Int) (mf2 : Nat) : F_impl_lastUses_L2 reqs k10_1 (mf2 + 1) at2 = (bif ((decide (0 ≤ at2)) && (!decide ((reqs.getD ((at2).toNat) 0) = (reqs.getD k10_1 0)))) then F_impl_lastUses_L2 reqs k10_1 mf2 (at2 - 1) else (.next at2)) := rfl
def F_impl_lastUses_L1 (reqs : List Int) : Nat → List Int × Nat → Ctl (List Int × Nat) (List Int)
  | 0, s => .next s
  | mf1 + 1, (out1, k10_1) => (bif decide ((k10_1 : Int) < (reqs.length : Int)) then ((F_impl_lastUses_L2 reqs k10_1 (((((k10_1 : Int) - 1) + 1).toNat) + 1) ((k10_1 : Int) - 1)).elim (fun at2 => F_impl_lastUses_L1 reqs mf1 ((out1 ++ ([at2])), (k10_1 + 1))) (fun r => .ret r)) else (.next (out1, k10_1)))
theorem F_impl_lastUses_L1_s (reqs : List Int) (out1 : List Int) (k10_1 : Nat) (mf1 : Nat) : F_impl_lastUses_L1 reqs (mf1 + 1) (out1, k10_1) = (bif decide ((k10_1 : Int) < (reqs.length : Int)) then ((F_impl_lastUses_L2 reqs k10_1 (((((k10_1 : Int) - 1) + 1).toNat) + 1) ((k10_1 : Int) - 1)).elim (fun at2 => F_impl_lastUses_L1 reqs mf1 ((out1 ++ ([at2])), (k10_1 + 1))) (fun r => .ret r)) else (.next (out1, k10_1))) := rfl
def F_impl_lastUses (reqs : List Int) : List Int := ((F_impl_lastUses_L1 reqs ((reqs.length - 0) + 1) (([] : List Int), 0)).elim (fun (out1, _) => out1) (fun r => r))

def F_impl_nextUses_L1 (reqs : List Int) : Nat → Nat × List Int → Ctl (Nat × List Int) (List Int)
  | 0, s => .next s
  | mf1 + 1, (k13_1, out1) => (bif decide ((k13_1 : Int) < ((F_impl_lastUses reqs).length : Int)) then (bif decide (0 ≤ ((F_impl_lastUses reqs).getD k13_1 0)) then F_impl_nextUses_L1 reqs mf1 ((k13_1 + 1), (out1.set ((((F_impl_lastUses reqs).getD k13_1 0)).toNat) (k13_1 : Int))) else F_impl_nextUses_L1 reqs mf1 ((k13_1 + 1), out1)) else (.next (k13_1, out1)))
theorem F_impl_nextUses_L1_s (reqs : List Int) (k13_1 : Nat) (out1 : List Int) (mf1 : Nat) : F_impl_nextUses_L1 reqs (mf1 + 1) (k13_1, out1) = (bif decide ((k13_1 : Int) < ((F_impl_lastUses reqs).length : Int)) then (bif decide (0 ≤ ((F_impl_lastUses reqs).getD k13_1 0)) then F_impl_nextUses_L1 reqs mf1 ((k13_1 + 1), (out1.set ((((F_impl_lastUses reqs).getD k13_1 0)).toNat) (k13_1 : Int))) else F_impl_nextUses_L1 reqs mf1 ((k13_1 + 1), out1)) else (.next (k13_1, out1))) := rfl
def F_impl_nextUses (reqs : List Int) : List Int := ((F_impl_nextUses_L1 reqs ((((F_impl_lastUses reqs).length) - 0) + 1) (0, (F_slices_Repeat_Sint_int ([-1]) (reqs.length : Int)))).elim (fun (_, out1) => out1) (fun r => r))

def F_spec_l3Last_L2 (reqs : List Int) (i1 : Nat) : Nat → Int → Ctl (Int) (List Int)
  | 0, s => .next s
  | mf2 + 1, k2 => (bif ((decide (0 ≤ k2)) && (!decide ((reqs.getD ((k2).toNat) 0) = (reqs.getD i1 0)))) then F_spec_l3Last_L2 reqs i1 mf2 (k2 - 1) else (.next k2))
theorem F_spec_l3Last_L2_s (reqs : List Int) (i1 : Nat) (k2 : Int) (mf2 : Nat) : F_spec_l3Last_L2 reqs i1 (mf2 + 1) k2 = (bif ((decide (0 ≤ k2)) && (!decide ((reqs.getD ((k2).toNat) 0) = (reqs.getD i1 0)))) then F_spec_l3Last_L2 reqs i1 mf2 (k2 - 1) else (.next k2)) := rfl
def F_spec_l3Last_L1 (reqs : List Int) : Nat → List Int × Nat → Ctl (List Int × Nat) (List Int)
  | 0, s => .next s
  | mf1 + 1, (out1, i1) => (bif decide ((i1 : Int) < (reqs.length : Int)) then ((F_spec_l3Last_L2 reqs i1 (((((i1 : Int) - 1) + 1).toNat) + 1) ((i1 : Int) - 1)).elim (fun k2 => F_spec_l3Last_L1 reqs mf1 ((out1 ++ ([k2])), (i1 + 1))) (fun r => .ret r)) else (.next (out1, i1)))
theorem F_spec_l3Last_L1_s (reqs : List Int) (out1 : List Int) (i1 : Nat) (mf1 : Nat) : F_spec_l3Last_L1 reqs (mf1 + 1) (out1, i1) = (bif decide ((i1 : Int) < (reqs.length : Int)) then ((F_spec_l3Last_L2 reqs i1 (((((i1 : Int) - 1) + 1).toNat) + 1) ((i1 : Int) - 1)).elim (fun k2 => F_spec_l3Last_L1 reqs mf1 ((out1 ++ ([k2])), (i1 + 1))) (fun r => .ret r)) else (.next (out1, i1))) := rfl
def F_spec_l3Last (reqs : List Int) : List Int := ((F_spec_l3Last_L1 reqs ((reqs.length - 0) + 1) (([] : List Int), 0)).elim (fun (out1, _) => out1) (fun r => r))

def F_spec_l3Later_L2 (reqs : List Int) (i1 : Nat) : Nat → Nat → Ctl (Nat) (List Int)
  | 0, s => .next s
  | mf2 + 1, k2 => (bif ((decide ((k2 : Int) < (reqs.length : Int))) && (!decide ((reqs.getD k2 0) = (reqs.getD i1 0)))) then F_spec_l3Later_L2 reqs i1 mf2 (k2 + 1) else (.next k2))
theorem F_spec_l3Later_L2_s (reqs : List Int) (i1 : Nat) (k2 : Nat) (mf2 : Nat) : F_spec_l3Later_L2 reqs i1 (mf2 + 1) k2 = (bif ((decide ((k2 : Int) < (reqs.length : Int))) && (!decide ((reqs.getD k2 0) = (reqs.getD i1 0)))) then F_spec_l3Later_L2 reqs i1 mf2 (k2 + 1) else (.next k2)) := rfl
def F_spec_l3Later_L1 (reqs : List Int) : Nat → List Int × Nat → Ctl (List Int × Nat) (List Int)
  | 0, s => .next s
  | mf1 + 1, (out1, i1) => (bif decide ((i1 : Int) < (reqs.length : Int)) then ((F_spec_l3Later_L2 reqs i1 ((reqs.length - (i1 + 1)) + 1) (i1 + 1)).elim (fun k2 => (bif decide ((k2 : Int) = (reqs.length : Int)) then F_spec_l3Later_L1 reqs mf1 ((out1 ++ ([-1])), (i1 + 1)) else F_spec_l3Later_L1 reqs mf1 ((out1 ++ ([(k2 : Int)])), (i1 + 1)))) (fun r => .ret r)) else (.next (out1, i1)))
theorem F_spec_l3Later_L1_s (reqs : List Int) (out1 : List Int) (i1 : Nat) (mf1 : Nat) : F_spec_l3Later_L1 reqs (mf1 + 1) (out1, i1) = (bif decide ((i1 : Int) < (reqs.length : Int)) then ((F_spec_l3Later_L2 reqs i1 ((reqs.length - (i1 + 1)) + 1) (i1 + 1)).elim (fun k2 => (bif decide ((k2 : Int) = (reqs.length : Int)) then F_spec_l3Later_L1 reqs mf1 ((out1 ++ ([-1])), (i1 + 1)) else F_spec_l3Later_L1 reqs mf1 ((out1 ++ ([(k2 : Int)])), (i1 + 1)))) (fun r => .ret r)) else (.next (out1, i1))) := rfl
def F_spec_l3Later (reqs : List Int) : List Int := ((F_spec_l3Later_L1 reqs ((reqs.length - 0) + 1) (([] : List Int), 0)).elim (fun (out1, _) => out1) (fun r => r))

def F_impl_LastUses (n : Int) (reqs : List Int) : List Int × Bool := (bif !(F_impl_IsRequests n reqs) then ([], false) else ((F_impl_lastUses reqs), true))

def F_impl_NextUses (n : Int) (reqs : List Int) : List Int × Bool := (bif !(F_impl_IsRequests n reqs) then ([], false) else ((F_impl_nextUses reqs), true))

def F_spec_LastUses (n : Int) (reqs : List Int) : List Int × Bool := (bif !(F_spec_l3Good n reqs) then (([] : List Int), false) else ((F_spec_l3Last reqs), true))

def F_spec_NextUses (n : Int) (reqs : List Int) : List Int × Bool := (bif !(F_spec_l3Good n reqs) then (([] : List Int), false) else ((F_spec_l3Later reqs), true))

def F_laws_vInts_L1 (a : List Int) (b : List Int) : Nat → Nat → Ctl (Nat) (Bool)
  | 0, s => .next s
  | mf1 + 1, i1 => (bif decide ((i1 : Int) < (a.length : Int)) then (bif !decide ((a.getD i1 0) = (b.getD i1 0)) then (.ret false) else F_laws_vInts_L1 a b mf1 (i1 + 1)) else (.next i1))
theorem F_laws_vInts_L1_s (a : List Int) (b : List Int) (i1 : Nat) (mf1 : Nat) : F_laws_vInts_L1 a b (mf1 + 1) i1 = (bif decide ((i1 : Int) < (a.length : Int)) then (bif !decide ((a.getD i1 0) = (b.getD i1 0)) then (.ret false) else F_laws_vInts_L1 a b mf1 (i1 + 1)) else (.next i1)) := rfl
def F_laws_vInts (a : List Int) (b : List Int) : Bool := (bif !decide ((a.length : Int) = (b.length : Int)) then false else ((F_laws_vInts_L1 a b ((a.length - 0) + 1) 0).elim (fun _ => true) (fun r => r)))

def F_laws_vPairs_L1 (a : List (Int × Int)) (b : List (Int × Int)) : Nat → Nat → Ctl (Nat) (Bool)
  | 0, s => .next s
  | mf1 + 1, i1 => (bif decide ((i1 : Int) < (a.length : Int)) then (bif !(((a.getD i1 (0, 0)).1) == ((b.getD i1 (0, 0)).1) && ((a.getD i1 (0, 0)).2) == ((b.getD i1 (0, 0)).2)) then (.ret false) else F_laws_vPairs_L1 a b mf1 (i1 + 1)) else (.next i1))
theorem F_laws_vPairs_L1_s (a : List (Int × Int)) (b : List (Int × Int)) (i1 : Nat) (mf1 : Nat) : F_laws_vPairs_L1 a b (mf1 + 1) i1 = (bif decide ((i1 : Int) < (a.length : Int)) then (bif !(((a.getD i1 (0, 0)).1) == ((b.getD i1 (0, 0)).1) && ((a.getD i1 (0, 0)).2) == ((b.getD i1 (0, 0)).2)) then (.ret false) else F_laws_vPairs_L1 a b mf1 (i1 + 1)) else (.next i1)) := rfl
def F_laws_vPairs (a : List (Int × Int)) (b : List (Int × Int)) : Bool := (bif !decide ((a.length : Int) = (b.length : Int)) then false else ((F_laws_vPairs_L1 a b ((a.length - 0) + 1) 0).elim (fun _ => true) (fun r => r)))

def F_laws_vSum_L1 (a : List Int) : Nat → Int × Nat → Ctl (Int × Nat) (Int)
  | 0, s => .next s
  | mf1 + 1, (n1, i1) => (bif decide ((i1 : Int) < (a.length : Int)) then F_laws_vSum_L1 a mf1 ((n1 + (a.getD i1 0)), (i1 + 1)) else (.next (n1, i1)))
theorem F_laws_vSum_L1_s (a : List Int) (n1 : Int) (i1 : Nat) (mf1 : Nat) : F_laws_vSum_L1 a (mf1 + 1) (n1, i1) = (bif decide ((i1 : Int) < (a.length : Int)) then F_laws_vSum_L1 a mf1 ((n1 + (a.getD i1 0)), (i1 + 1)) else (.next (n1, i1))) := rfl
def F_laws_vSum (a : List Int) : Int := ((F_laws_vSum_L1 a ((a.length - 0) + 1) (0, 0)).elim (fun (n1, _) => n1) (fun r => r))

def F_laws_vCut (code : List Int) (k : Int) : List Int := (bif decide ((code.length : Int) < k) then ((([] : List Int) ++ ((code.take code.length).drop code.length)) ++ ([(code.length : Int)])) else ((([] : List Int) ++ ((code.take code.length).drop ((k).toNat))) ++ ([k])))

def F_laws_FnRunsAndUses_L1 (code : List Int) : Nat → Nat → Ctl (Nat) (Bool)
  | 0, s => .next s
  | mf1 + 1, k29_1 => (bif decide ((k29_1 : Int) < ((F_spec_DrawRunsOf code).2.length : Int)) then (bif (((decide (0 ≤ ((F_impl_LastUses ((F_spec_DrawRunsOf code).1) ((F_spec_DrawRunsOf code).2)).1.getD k29_1 0))) && (!decide (((F_impl_NextUses ((F_spec_DrawRunsOf code).1) ((F_spec_DrawRunsOf code).2)).1.getD ((((F_impl_LastUses ((F_spec_DrawRunsOf code).1) ((F_spec_DrawRunsOf code).2)).1.getD k29_1 0)).toNat) 0) = (k29_1 : Int)))) || ((decide (0 ≤ ((F_impl_NextUses ((F_spec_DrawRunsOf code).1) ((F_spec_DrawRunsOf code).2)).1.getD k29_1 0))) && (!decide (((F_impl_LastUses ((F_spec_DrawRunsOf code).1) ((F_spec_DrawRunsOf code).2)).1.getD ((((F_impl_NextUses ((F_spec_DrawRunsOf code).1) ((F_spec_DrawRunsOf code).2)).1.getD k29_1 0)).toNat) 0) = (k29_1 : Int))))) then (.ret false) else F_laws_FnRunsAndUses_L1 code mf1 (k29_1 + 1)) else (.next k29_1))
theorem F_laws_FnRunsAndUses_L1_s (code : List Int) (k29_1 : Nat) (mf1 : Nat) : F_laws_FnRunsAndUses_L1 code (mf1 + 1) k29_1 = (bif decide ((k29_1 : Int) < ((F_spec_DrawRunsOf code).2.length : Int)) then (bif (((decide (0 ≤ ((F_impl_LastUses ((F_spec_DrawRunsOf code).1) ((F_spec_DrawRunsOf code).2)).1.getD k29_1 0))) && (!decide (((F_impl_NextUses ((F_spec_DrawRunsOf code).1) ((F_spec_DrawRunsOf code).2)).1.getD ((((F_impl_LastUses ((F_spec_DrawRunsOf code).1) ((F_spec_DrawRunsOf code).2)).1.getD k29_1 0)).toNat) 0) = (k29_1 : Int)))) || ((decide (0 ≤ ((F_impl_NextUses ((F_spec_DrawRunsOf code).1) ((F_spec_DrawRunsOf code).2)).1.getD k29_1 0))) && (!decide (((F_impl_LastUses ((F_spec_DrawRunsOf code).1) ((F_spec_DrawRunsOf code).2)).1.getD ((((F_impl_NextUses ((F_spec_DrawRunsOf code).1) ((F_spec_DrawRunsOf code).2)).1.getD k29_1 0)).toNat) 0) = (k29_1 : Int))))) then (.ret false) else F_laws_FnRunsAndUses_L1 code mf1 (k29_1 + 1)) else (.next k29_1)) := rfl
def F_laws_FnRunsAndUses (code : List Int) : Bool := (bif (F_laws_vBig code) then true else (bif ((((((((F_impl_RunsOf ((F_spec_DrawRunsOf code).1) ((F_spec_DrawRunsOf code).2)).2) != ((F_spec_RunsOf ((F_spec_DrawRunsOf code).1) ((F_spec_DrawRunsOf code).2)).2)) || (((F_impl_FromRuns ((F_spec_DrawFromRuns (F_laws_vCut code 1)).1) ((F_spec_DrawFromRuns (F_laws_vCut code 1)).2)).2) != ((F_spec_FromRuns ((F_spec_DrawFromRuns (F_laws_vCut code 1)).1) ((F_spec_DrawFromRuns (F_laws_vCut code 1)).2)).2))) || (((F_impl_CountsOf ((F_spec_DrawRunsOf code).1) ((F_spec_DrawRunsOf code).2)).2) != ((F_spec_CountsOf ((F_spec_DrawRunsOf code).1) ((F_spec_DrawRunsOf code).2)).2))) || (!(F_laws_vPairs ((F_impl_RunsOf ((F_spec_DrawRunsOf code).1) ((F_spec_DrawRunsOf code).2)).1) ((F_spec_RunsOf ((F_spec_DrawRunsOf code).1) ((F_spec_DrawRunsOf code).2)).1)))) || (!(F_laws_vInts ((F_impl_FromRuns ((F_spec_DrawFromRuns (F_laws_vCut code 1)).1) ((F_spec_DrawFromRuns (F_laws_vCut code 1)).2)).1) ((F_spec_FromRuns ((F_spec_DrawFromRuns (F_laws_vCut code 1)).1) ((F_spec_DrawFromRuns (F_laws_vCut code 1)).2)).1)))) || (!(F_laws_vInts ((F_impl_CountsOf ((F_spec_DrawRunsOf code).1) ((F_spec_DrawRunsOf code).2)).1) ((F_spec_CountsOf ((F_spec_DrawRunsOf code).1) ((F_spec_DrawRunsOf code).2)).1)))) then false else (bif ((((((F_impl_LastUses ((F_spec_DrawRunsOf code).1) ((F_spec_DrawRunsOf code).2)).2) != ((F_spec_LastUses ((F_spec_DrawRunsOf code).1) ((F_spec_DrawRunsOf code).2)).2)) || (((F_impl_NextUses ((F_spec_DrawRunsOf code).1) ((F_spec_DrawRunsOf code).2)).2) != ((F_spec_NextUses ((F_spec_DrawRunsOf code).1) ((F_spec_DrawRunsOf code).2)).2))) || (!(F_laws_vInts ((F_impl_LastUses ((F_spec_DrawRunsOf code).1) ((F_spec_DrawRunsOf code).2)).1) ((F_spec_LastUses ((F_spec_DrawRunsOf code).1) ((F_spec_DrawRunsOf code).2)).1)))) || (!(F_laws_vInts ((F_impl_NextUses ((F_spec_DrawRunsOf code).1) ((F_spec_DrawRunsOf code).2)).1) ((F_spec_NextUses ((F_spec_DrawRunsOf code).1) ((F_spec_DrawRunsOf code).2)).1)))) then false else (bif !((F_impl_RunsOf ((F_spec_DrawRunsOf code).1) ((F_spec_DrawRunsOf code).2)).2) then true else (bif (((!((F_impl_FromRuns ((F_spec_DrawRunsOf code).1) ((F_impl_RunsOf ((F_spec_DrawRunsOf code).1) ((F_spec_DrawRunsOf code).2)).1)).2)) || (!(F_laws_vInts ((F_impl_FromRuns ((F_spec_DrawRunsOf code).1) ((F_impl_RunsOf ((F_spec_DrawRunsOf code).1) ((F_spec_DrawRunsOf code).2)).1)).1) ((F_spec_DrawRunsOf code).2)))) || (!decide ((F_laws_vSum ((F_impl_CountsOf ((F_spec_DrawRunsOf code).1) ((F_spec_DrawRunsOf code).2)).1)) = ((F_spec_DrawRunsOf code).2.length : Int)))) then false else ((F_laws_FnRunsAndUses_L1 code ((((F_spec_DrawRunsOf code).2.length) - 0) + 1) 0).elim (fun _ => true) (fun r => r)))))))


end Go.Proofs.Ytcmhgkcifejgcaa
namespace Go.Proofs.Ytcmhgkcifejgcaa
set_option linter.unusedVariables false
set_option linter.unusedSimpArgs false
open Go Go.RowKit

/-- Numbers in ascending order. -/
abbrev sortI (xs : List Int) : List Int := xs.mergeSort fun x y => decide (x ≤ y)
/-! sorting -/
def Up (l : List Int) : Prop := l.Pairwise (· ≤ ·)
theorem sortI_perm (l : List Int) : (sortI l).Perm l := List.mergeSort_perm l _
theorem sortI_up (l : List Int) : Up (sortI l) := by
  have := List.pairwise_mergeSort (le := fun (x y : Int) => decide (x ≤ y)) (fun a b c h1 h2 => by simp at *; omega) (fun a b => by simp; omega) l
  exact this.imp (fun h => by simpa using h)
theorem up_unique {a b : List Int} (ha : Up a) (hb : Up b) (h : a.Perm b) : a = b := List.Perm.eq_of_pairwise (fun x y _ _ h1 h2 => by omega) ha hb h
theorem sortI_of {l s : List Int} (hs : Up s) (h : s.Perm l) : sortI l = s := up_unique (sortI_up l) hs ((sortI_perm l).trans h.symm)
theorem sortI_congr {a b : List Int} (h : a.Perm b) : sortI a = sortI b := up_unique (sortI_up a) (sortI_up b) ((sortI_perm a).trans (h.trans (sortI_perm b).symm))
theorem sortI_length (l : List Int) : (sortI l).length = l.length := (sortI_perm l).length_eq
theorem up_getD {l : List Int} : Up l ↔ ∀ i, i + 1 < l.length → l.getD i 0 ≤ l.getD (i + 1) 0 := by
  constructor
  · intro h i hi
    have := List.pairwise_iff_getElem.1 h i (i + 1) (by omega) hi (by omega)
    rw [getD_lt l i 0 (by omega), getD_lt l (i + 1) 0 hi]; exact this
  · intro h
    refine List.pairwise_iff_getElem.2 fun i j hi hj hij => ?_
    have := sorted_le h (j - i) i (by omega)
    rw [show i + (j - i) = j by omega, getD_lt l i 0 hi, getD_lt l j 0 hj] at this
    exact this
theorem mem_getD {l : List Int} {v : Int} : v ∈ l ↔ ∃ i, i < l.length ∧ l.getD i 0 = v := by
  constructor
  · intro h
    obtain ⟨i, hi, rfl⟩ := List.getElem_of_mem h
    exact ⟨i, hi, getD_lt l i 0 hi⟩
  · rintro ⟨i, hi, rfl⟩; exact getD_mem l i 0 hi
theorem sort_L2 (list out : List Int) (i : Nat) (hu : Up out) : ∀ fuel k, out.length - k < fuel → k ≤ out.length → (∀ j, j < k → out.getD j 0 ≤ list.getD i 0) →
    ∃ k', F_spec_l6Sort_L2 list out i fuel k = .next k' ∧ k' ≤ out.length ∧ (∀ j, j < k' → out.getD j 0 ≤ list.getD i 0) ∧ (∀ j, k' ≤ j → j < out.length → list.getD i 0 ≤ out.getD j 0) := by
  intro fuel
  induction fuel with
  | zero => intro k h; omega
  | succ mf ih =>
    intro k h hk hl
    rw [F_spec_l6Sort_L2_s]
    by_cases hc : k < out.length ∧ out.getD k 0 ≤ list.getD i 0
    · rw [decide_eq_true (show (k : Int) < (out.length : Int) by omega), decide_eq_true hc.2, Bool.and_self, cond_true]
      exact ih (k + 1) (by omega) hc.1 (upto_succ hl hc.2)
    · have : ((decide ((k : Int) < (out.length : Int))) && (decide ((out.getD k 0) ≤ (list.getD i 0)))) = false := by
        rw [Bool.eq_false_iff]; intro hh
        simp only [Bool.and_eq_true, decide_eq_true_eq] at hh
        exact hc ⟨by omega, hh.2⟩
      rw [this, cond_false]
      refine ⟨k, rfl, hk, hl, fun j h1 h2 => ?_⟩
      have h3 : ¬ out.getD k 0 ≤ list.getD i 0 := fun hh => hc ⟨by omega, hh⟩
      have h4 := sorted_le (up_getD.1 hu) (j - k) k (by omega)
      rw [show k + (j - k) = j by omega] at h4
      omega
theorem insert_up {out : List Int} {x : Int} {k : Nat} (hu : Up out) (hk : k ≤ out.length) (h1 : ∀ j, j < k → out.getD j 0 ≤ x) (h2 : ∀ j, k ≤ j → j < out.length → x ≤ out.getD j 0) : Up ((out.take k ++ [x]) ++ out.drop k) := by
  have ht : ∀ v ∈ out.take k, v ≤ x := fun v hv => by
    obtain ⟨i, hi, rfl⟩ := List.getElem_of_mem hv
    have hi' : i < k := by simp at hi; omega
    have := h1 i hi'
    rw [getD_lt out i 0 (by omega)] at this
    simpa using this
  have hd : ∀ v ∈ out.drop k, x ≤ v := fun v hv => by
    obtain ⟨i, hi, rfl⟩ := List.getElem_of_mem hv
    have hi' : k + i < out.length := by simp at hi; omega
    have := h2 (k + i) (by omega) hi'
    rw [getD_lt out (k + i) 0 hi'] at this
    simpa using this
  unfold Up
  rw [List.pairwise_append, List.pairwise_append]
  refine ⟨⟨List.Pairwise.sublist (List.take_sublist _ _) hu, by simp, fun a ha b hb => ?_⟩, List.Pairwise.sublist (List.drop_sublist _ _) hu, fun a ha b hb => ?_⟩
  · rw [List.mem_singleton.1 hb]; exact ht a ha
  · rcases List.mem_append.1 ha with ha | ha
    · have := ht a ha; have := hd b hb; omega
    · rw [List.mem_singleton.1 ha]; exact hd b hb
theorem sort_L1 (list : List Int) : ∀ fuel i out, list.length - i < fuel → i ≤ list.length → Up out → out.Perm (list.take i) → ∃ s, F_spec_l6Sort_L1 list fuel (out, i) = .next s ∧ Up s.1 ∧ s.1.Perm list := by
  intro fuel
  induction fuel with
  | zero => intro i out h; omega
  | succ mf ih =>
    intro i out h hi hu hp
    rw [F_spec_l6Sort_L1_s]
    by_cases hlt : (i : Int) < (list.length : Int)
    · obtain ⟨k, h1, h2, h3, h4⟩ := sort_L2 list out i hu (out.length - 0 + 1) 0 (by omega) (by omega) (fun j hj => by omega)
      rw [decide_eq_true hlt, cond_true, h1]
      simp only [elim_next, List.drop_zero, List.nil_append, List.take_length]
      refine ih (i + 1) _ (by omega) (by omega) (insert_up hu h2 h3 h4) ?_
      rw [List.take_succ_eq_append_getElem (by omega), ← getD_lt list i 0 (by omega)]
      have e1 : (out.take k ++ [list.getD i 0] ++ out.drop k).Perm (list.getD i 0 :: out) := by
        rw [List.append_assoc]
        refine (List.perm_middle).trans ?_
        show (list.getD i 0 :: (out.take k ++ out.drop k)).Perm _
        rw [List.take_append_drop]
      exact e1.trans ((List.Perm.cons _ hp).trans (List.perm_append_singleton _ _).symm)
    · rw [decide_eq_false hlt, cond_false]
      refine ⟨_, rfl, hu, ?_⟩
      rwa [List.take_of_length_le (by omega)] at hp
theorem l6Sort_eq (l : List Int) : F_spec_l6Sort l = sortI l := by
  unfold F_spec_l6Sort
  obtain ⟨⟨s, k⟩, h1, h2, h3⟩ := sort_L1 l (l.length - 0 + 1) 0 [] (by omega) (by omega) (by unfold Up; simp) (by simp)
  rw [h1]
  exact (sortI_of h2 h3).symm
/-- A list of numbers of which one has been put for another. -/
theorem set_perm {a : List Int} {i j : Nat} (hi : i < a.length) (hj : j < a.length) (h : a.getD i 0 = a.getD j 0) (r : Int) : (a.set i r).Perm (a.set j r) := by
  rw [List.perm_iff_count]
  intro v
  have h1 := List.count_set (a := r) (b := v) (l := a) (i := i) hi
  have h2 := List.count_set (a := r) (b := v) (l := a) (i := j) hj
  rw [getD_lt a i 0 hi, getD_lt a j 0 hj] at h
  rw [h1, h2, h]

theorem cf_moved {n : Nat} {a : List Int} (h : Cf n a) {k : Nat} {r : Int} (h0 : 0 ≤ r) (hr : r < n) : Cf n (sortI (a.set k r)) ∧ (sortI (a.set k r)).length = a.length := by
  have hl : (sortI (a.set k r)).length = a.length := by rw [sortI_length, List.length_set]
  have h1 := h.n1; have h3 := h.n3
  refine ⟨⟨by omega, by omega, fun i hi => ?_, up_getD.1 (sortI_up _)⟩, hl⟩
  have hm := (sortI_perm (a.set k r)).mem_iff.1 (getD_mem (sortI (a.set k r)) i 0 hi)
  rcases List.mem_or_eq_of_mem_set hm with hm | hm
  · obtain ⟨j, hj, he⟩ := mem_getD.1 hm
    rw [← he]; exact h.el j hj
  · rw [hm]; exact ⟨h0, hr⟩
theorem cf_l6Sort {n : Nat} {a : List Int} (h : Cf n a) {k : Nat} {r : Int} (h0 : 0 ≤ r) (hr : r < n) : Cf n (F_spec_l6Sort (a.set k r)) := by
  rw [l6Sort_eq]; exact (cf_moved h h0 hr).1
/-! Repeat -/
theorem repeat_L1 (a : Int) : ∀ fuel n1 s, s.length - n1 < fuel → n1 ≤ s.length → (0 < n1 ∨ s.length = 0) → s.take n1 = List.replicate n1 a →
    ∃ k, F_slices_Repeat_Sint_int_L1 fuel (n1, s) = .next (k, List.replicate s.length a) := by
  intro fuel
  induction fuel with
  | zero => intro n1 s h; omega
  | succ f ih =>
    intro n1 s h h1 h2 h3
    rw [F_slices_Repeat_Sint_int_L1_s]
    by_cases hlt : n1 < s.length
    · rw [bif_pos (decide_eq_true (by omega))]
      have hd1 : ((s.take n1).drop 0).length = n1 := by simp; omega
      have hl : (s.take n1 ++ ((s.take n1).drop 0).take (s.length - n1) ++ s.drop (n1 + (min ((s.take n1).drop 0).length (s.length - n1)))).length = s.length := by simp; omega
      have := ih (n1 + (min ((s.take n1).drop 0).length (s.length - n1))) (s.take n1 ++ ((s.take n1).drop 0).take (s.length - n1) ++ s.drop (n1 + (min ((s.take n1).drop 0).length (s.length - n1)))) (by rw [hl, hd1]; omega) (by rw [hl, hd1]; omega) (by left; omega) (by
        rw [hd1, List.drop_zero, h3, List.take_replicate, List.replicate_append_replicate]
        rw [List.take_left' (by simp; omega)]
        congr 1; omega)
      rw [hl] at this
      exact this
    · rw [bif_neg (decide_eq_false (by omega))]
      have : n1 = s.length := by omega
      subst this
      rw [List.take_length] at h3
      exact ⟨_, by rw [← h3]⟩
theorem repeat_eq (a : Int) (c : Int) (h0 : 0 ≤ c) (h1 : c ≤ 1000000) : F_slices_Repeat_Sint_int [a] c = List.replicate c.toNat a := by
  have hmu := mulU_one (n := ([a] : List Int).length) (c := c) rfl h0 h1
  unfold F_slices_Repeat_Sint_int
  rw [bif_neg (decide_eq_false (by omega)), elim_next]
  rw [bif_neg (by rw [Bool.or_eq_false_iff, decide_eq_false_iff_not, decide_eq_false_iff_not]; omega), elim_next, hmu.2]
  have hlr : (List.replicate c.toNat (0 : Int)).length = c.toNat := List.length_replicate
  have hl : (([a] : List Int).take (List.replicate c.toNat (0 : Int)).length ++ (List.replicate c.toNat (0 : Int)).drop (min ([a] : List Int).length (List.replicate c.toNat (0 : Int)).length)).length = c.toNat := by simp; omega
  obtain ⟨k, hk⟩ := repeat_L1 a _ (min ([a] : List Int).length (List.replicate c.toNat (0 : Int)).length) (([a] : List Int).take (List.replicate c.toNat (0 : Int)).length ++ (List.replicate c.toNat (0 : Int)).drop (min ([a] : List Int).length (List.replicate c.toNat (0 : Int)).length)) (Nat.lt_add_one _) (by rw [hl, hlr]; exact Nat.min_le_right _ _) (by
      rw [hl, hlr]
      have : ([a] : List Int).length = 1 := rfl
      omega) (by
      rw [hlr]
      cases hc : c.toNat with
      | zero => simp
      | succ n => simp)
  rw [hk, elim_next]
  change List.replicate _ a = _
  rw [hl]
end Go.Proofs.Ytcmhgkcifejgcaa
namespace Go.Proofs.Ytcmhgkcifejgcaa
set_option linter.unusedVariables false
set_option linter.unusedSimpArgs false
open Go Go.RowKit
set_option linter.unusedVariables false
set_option linter.unusedSimpArgs false

theorem among_rng {c : List Int} (hc : ∀ i, 0 ≤ c.getD i 0 ∧ c.getD i 0 ≤ 255) (code : List Int) (at_ seed : Int) (list : List Int) (lo hi : Int) (hl : 1 ≤ list.length) (hr : ∀ x ∈ list, lo ≤ x ∧ x ≤ hi) (hs : 0 ≤ seed ∧ seed < 18446744073709551616) (he : c = code := by rfl) :
    lo ≤ (F_spec_l1Cur_among code at_ seed list).1 ∧ (F_spec_l1Cur_among code at_ seed list).1 ≤ hi := by
  have p := pick_post hc code at_ seed list.length hs he
  unfold F_spec_l1Cur_among
  dsimp only
  have hi : (F_spec_l1Cur_pick code at_ seed list.length).1.toNat < list.length := by omega
  refine hr _ ?_
  rw [List.getD_eq_getElem?_getD, List.getElem?_eq_getElem hi]
  exact List.getElem_mem _
theorem most_bd (n : Int) : 1 ≤ F_spec_l1Most 1 (F_spec_l1Least n 8) ∧ F_spec_l1Most 1 (F_spec_l1Least n 8) ≤ 8 := by
  unfold F_spec_l1Most F_spec_l1Least
  simp only [cond_eq_ite, decide_eq_true_eq]
  split <;> split <;> omega
theorem emod_bd (a : Int) {m : Int} (h : 1 ≤ m ∧ m ≤ 8) : 0 ≤ a % m ∧ a % m ≤ 8 := by
  have h1 := Int.emod_nonneg a (show m ≠ 0 by omega)
  have h2 := Int.emod_lt_of_pos a (show 0 < m by omega)
  omega
theorem ru_getD_app {α : Type} (xs : List α) (x d : α) (i : Nat) : (xs ++ [x]).getD i d = xs.getD i d ∨ (xs ++ [x]).getD i d = x := by
  simp only [List.getD_eq_getElem?_getD]
  rcases Nat.lt_trichotomy i xs.length with h | h | h
  · left; rw [List.getElem?_append_left h]
  · right; subst h; simp
  · left; rw [List.getElem?_eq_none (by simp; omega), List.getElem?_eq_none (by omega)]
theorem ru_getD_set {α : Type} (xs : List α) (x d : α) (k i : Nat) : (xs.set k x).getD i d = xs.getD i d ∨ (xs.set k x).getD i d = x := by
  simp only [List.getD_eq_getElem?_getD, List.getElem?_set]
  by_cases h : k = i
  · rw [if_pos h]
    by_cases h2 : k < xs.length
    · rw [if_pos h2]; right; rfl
    · rw [if_neg h2]; left; rw [List.getElem?_eq_none (by omega)]
  · rw [if_neg h]; left; rfl
theorem bd_app {xs : List Int} {b x : Int} (h : ∀ i : Nat, 0 ≤ xs.getD i 0 ∧ xs.getD i 0 ≤ b) (hx : 0 ≤ x ∧ x ≤ b) : ∀ i : Nat, 0 ≤ (xs ++ [x]).getD i 0 ∧ (xs ++ [x]).getD i 0 ≤ b := fun i => by
  rcases ru_getD_app xs x 0 i with e | e <;> rw [e]
  · exact h i
  · exact hx
theorem bd_set {xs : List Int} {b x : Int} {k : Nat} (h : ∀ i : Nat, 0 ≤ xs.getD i 0 ∧ xs.getD i 0 ≤ b) (hx : 0 ≤ x ∧ x ≤ b) : ∀ i : Nat, 0 ≤ (xs.set k x).getD i 0 ∧ (xs.set k x).getD i 0 ≤ b := fun i => by
  rcases ru_getD_set xs x 0 k i with e | e <;> rw [e]
  · exact h i
  · exact hx
theorem bd_set1 {xs : List Int} {c k : Nat} (h : ∀ i : Nat, 0 ≤ xs.getD i 0 ∧ xs.getD i 0 ≤ (c : Int)) : ∀ i : Nat, 0 ≤ (xs.set k (xs.getD k 0 + 1)).getD i 0 ∧ (xs.set k (xs.getD k 0 + 1)).getD i 0 ≤ ((c + 1 : Nat) : Int) := fun i => by
  have h1 := h k
  have h2 := h i
  rcases ru_getD_set xs (xs.getD k 0 + 1) 0 k i with e | e <;> rw [e] <;> omega
theorem bd_zero (n : Nat) : ∀ i : Nat, 0 ≤ (List.replicate n (0 : Int)).getD i 0 ∧ (List.replicate n (0 : Int)).getD i 0 ≤ ((0 : Nat) : Int) := fun i => by
  have : (List.replicate n (0 : Int)).getD i 0 = 0 := by
    rw [List.getD_eq_getElem?_getD, List.getElem?_replicate]
    split <;> rfl
  rw [this]; simp
theorem bp_app {xs : List (Int × Int)} {c : Nat} {a b : Int} (h : ∀ i : Nat, 0 ≤ (xs.getD i (0, 0)).2 ∧ (xs.getD i (0, 0)).2 ≤ (c : Int)) (hb : 0 ≤ b ∧ b ≤ c) : ∀ i : Nat, 0 ≤ ((xs ++ [(a, b)]).getD i (0, 0)).2 ∧ ((xs ++ [(a, b)]).getD i (0, 0)).2 ≤ (c : Int) := fun i => by
  rcases ru_getD_app xs (a, b) (0, 0) i with e | e <;> rw [e]
  · exact h i
  · exact hb
theorem bp_app1 {xs : List (Int × Int)} {c : Nat} {a b : Int} (h : ∀ i : Nat, 0 ≤ (xs.getD i (0, 0)).2 ∧ (xs.getD i (0, 0)).2 ≤ (c : Int)) (hb : 0 ≤ b ∧ b ≤ (c : Int) + 1) : ∀ i : Nat, 0 ≤ ((xs ++ [(a, b)]).getD i (0, 0)).2 ∧ ((xs ++ [(a, b)]).getD i (0, 0)).2 ≤ ((c + 1 : Nat) : Int) := fun i => by
  have h1 := h i
  rcases ru_getD_app xs (a, b) (0, 0) i with e | e <;> rw [e]
  · omega
  · show 0 ≤ b ∧ b ≤ _
    omega
theorem bp_set1 {xs : List (Int × Int)} {c k : Nat} {a b : Int} (h : ∀ i : Nat, 0 ≤ (xs.getD i (0, 0)).2 ∧ (xs.getD i (0, 0)).2 ≤ (c : Int)) (hb : 0 ≤ b ∧ b ≤ (c : Int) + 1) : ∀ i : Nat, 0 ≤ ((xs.set k (a, b)).getD i (0, 0)).2 ∧ ((xs.set k (a, b)).getD i (0, 0)).2 ≤ ((c + 1 : Nat) : Int) := fun i => by
  have h1 := h i
  rcases ru_getD_set xs (a, b) (0, 0) k i with e | e <;> rw [e]
  · omega
  · show 0 ≤ b ∧ b ≤ _
    omega
theorem repeat_len (a c : Int) (h0 : 0 ≤ c) (h1 : c ≤ 1000000) : (F_slices_Repeat_Sint_int [a] c).length = c.toNat := by
  rw [repeat_eq a c h0 h1, List.length_replicate]
theorem vBig_f {code : List Int} (h : F_laws_vBig code = false) : code.length ≤ 65536 := by
  unfold F_laws_vBig at h
  have := of_decide_eq_false h
  omega
theorem cut_bd {code : List Int} (h : ∀ i : Nat, 0 ≤ code.getD i 0 ∧ code.getD i 0 ≤ 255) : ∀ i : Nat, 0 ≤ (F_laws_vCut code 1).getD i 0 ∧ (F_laws_vCut code 1).getD i 0 ≤ 255 := by
  have hd : ∀ (k i : Nat), 0 ≤ (code.drop k).getD i 0 ∧ (code.drop k).getD i 0 ≤ 255 := fun k i => by
    have := h (k + i)
    rw [List.getD_eq_getElem?_getD] at *
    rwa [List.getElem?_drop]
  have hall : ∀ k x, 0 ≤ x ∧ x ≤ 255 → ∀ i : Nat, 0 ≤ ((([] : List Int) ++ (code.take code.length).drop k) ++ [x]).getD i 0 ∧ ((([] : List Int) ++ (code.take code.length).drop k) ++ [x]).getD i 0 ≤ 255 := fun k x hx => by
    rw [List.nil_append, List.take_length]
    exact bd_app (hd k) hx
  intro i
  unfold F_laws_vCut
  cases hc : decide ((code.length : Int) < 1)
  · exact hall _ 1 (by omega) i
  · exact hall _ (code.length : Int) (by have := of_decide_eq_true hc; omega) i

/-! what is asked of requests -/
theorem l3List_iff (n : Int) (l : List Int) : F_spec_l3List n l = true ↔ ∀ i, i < l.length → 0 ≤ l.getD i 0 ∧ l.getD i 0 < n := by
  unfold F_spec_l3List
  rcases scan (F_spec_l3List_L1 n l) l.length (fun i => !((decide (0 ≤ (l.getD i 0))) && (decide ((l.getD i 0) ≤ (n - 1))))) (fun _ => false) (fun m i => F_spec_l3List_L1_s n l i m) (l.length - 0 + 1) 0 (by omega) with ⟨h1, h2⟩ | ⟨j, _, h2, h3, h4, _⟩
  · rw [h1]
    refine ⟨fun _ i hi => ?_, fun _ => rfl⟩
    have := h2 i (by omega) hi
    simp only [Bool.not_eq_false', Bool.and_eq_true, decide_eq_true_eq] at this
    omega
  · rw [h3]
    refine ⟨fun h => (by simp [elim_ret] at h), fun h => ?_⟩
    have h5 := h j h2
    rw [decide_eq_true h5.1, decide_eq_true (by omega)] at h4
    cases h4
theorem requests_eq (n : Int) (reqs : List Int) : F_impl_IsRequests n reqs = F_spec_l3Good n reqs := by
  unfold F_impl_IsRequests F_spec_l3Good
  congr 1
  rw [Bool.eq_iff_iff, areBelow_iff, l3List_iff]
theorem l3Good_t {n : Int} {reqs : List Int} (h : F_spec_l3Good n reqs = true) : (1 ≤ n ∧ n ≤ 8) ∧ reqs.length ≤ 60 ∧ ∀ i, i < reqs.length → 0 ≤ reqs.getD i 0 ∧ reqs.getD i 0 < n := by
  unfold F_spec_l3Good at h
  simp only [Bool.and_eq_true, decide_eq_true_eq] at h
  exact ⟨h.1.1, by omega, (l3List_iff n reqs).1 h.2⟩
theorem isRequests_t {n : Int} {reqs : List Int} (h : F_impl_IsRequests n reqs = true) : (1 ≤ n ∧ n ≤ 8) ∧ reqs.length ≤ 60 ∧ ∀ i, i < reqs.length → 0 ≤ reqs.getD i 0 ∧ reqs.getD i 0 < n := l3Good_t (by rw [← requests_eq]; exact h)

/-! the uses -/
/-- The last earlier place with the same item, or -1. -/
def LastAt (l : List Int) (i : Nat) (r : Int) : Prop := -1 ≤ r ∧ r < i ∧ (0 ≤ r → l.getD r.toNat 0 = l.getD i 0) ∧ ∀ k : Nat, r < k → k < i → l.getD k 0 ≠ l.getD i 0
theorem last_L2 (l : List Int) (i : Nat) : ∀ (fuel : Nat) (r : Int), (r + 1).toNat < fuel → -1 ≤ r → r < i → (∀ k : Nat, r < k → k < i → l.getD k 0 ≠ l.getD i 0) → ∃ r', F_impl_lastUses_L2 l i fuel r = .next r' ∧ LastAt l i r' := by
  intro fuel
  induction fuel with
  | zero => intro r h; omega
  | succ m ih =>
    intro r h h1 h2 h3
    rw [F_impl_lastUses_L2_s]
    cases hc : (decide (0 ≤ r) && !decide (l.getD r.toNat 0 = l.getD i 0))
    · refine ⟨r, rfl, h1, h2, fun h0 => ?_, h3⟩
      simpa [h0] using hc
    · simp only [Bool.and_eq_true, decide_eq_true_eq, Bool.not_eq_true', decide_eq_false_iff_not] at hc
      refine ih (r - 1) (by omega) (by omega) (by omega) fun k hk hki => ?_
      by_cases e : (k : Int) = r
      · have : k = r.toNat := by omega
        rw [this]; exact hc.2
      · exact h3 k (by omega) hki
theorem last_L1 (l : List Int) : ∀ (fuel i : Nat) (out : List Int), l.length - i < fuel → i ≤ l.length → out.length = i → (∀ j, j < i → LastAt l j (out.getD j 0)) →
    ∃ out' k, F_impl_lastUses_L1 l fuel (out, i) = .next (out', k) ∧ out'.length = l.length ∧ ∀ j, j < l.length → LastAt l j (out'.getD j 0) := by
  intro fuel
  induction fuel with
  | zero => intro i out h; omega
  | succ m ih =>
    intro i out h hi hl hd
    rw [F_impl_lastUses_L1_s]
    by_cases hlt : i < l.length
    · rw [bif_pos (decide_eq_true (by omega))]
      obtain ⟨r, h1, h2⟩ := last_L2 l i (((i : Int) - 1 + 1).toNat + 1) ((i : Int) - 1) (by omega) (by omega) (by omega) (fun k h1 h2 => by omega)
      rw [h1, elim_next]
      refine ih (i + 1) (out ++ [r]) (by omega) (by omega) (by simp [hl]) fun j hj => ?_
      by_cases e : j = i
      · subst e; subst hl; simpa using h2
      · have hjl : j < out.length := by omega
        have : (out ++ [r]).getD j 0 = out.getD j 0 := by simp only [List.getD_eq_getElem?_getD]; rw [List.getElem?_append_left hjl]
        rw [this]; exact hd j (by omega)
    · rw [bif_neg (decide_eq_false (by omega))]
      exact ⟨out, i, rfl, by omega, fun j hj => hd j (by omega)⟩
theorem last_at (l : List Int) : (F_impl_lastUses l).length = l.length ∧ ∀ j, j < l.length → LastAt l j ((F_impl_lastUses l).getD j 0) := by
  unfold F_impl_lastUses
  obtain ⟨out, k, h1, h2, h3⟩ := last_L1 l (l.length - 0 + 1) 0 [] (by omega) (by omega) rfl (fun j h => by omega)
  rw [h1, elim_next]
  exact ⟨h2, h3⟩
theorem lastUses_bd (l : List Int) : (F_impl_lastUses l).length = l.length ∧ ∀ j, j < l.length → -1 ≤ (F_impl_lastUses l).getD j 0 ∧ (F_impl_lastUses l).getD j 0 < j := by
  refine ⟨(last_at l).1, fun j hj => ?_⟩
  have := (last_at l).2 j hj
  exact ⟨this.1, this.2.1⟩
end Go.Proofs.Ytcmhgkcifejgcaa
namespace Go.Proofs.Ytcmhgkcifejgcaa
set_option linter.unusedVariables false
set_option linter.unusedSimpArgs false
open Go Go.RowKit
set_option linter.unusedVariables false

def F_slices_Concat_Sint_int_L1 (s : List (List Int)) : Nat → Nat × Nat → Ctl (Nat × Nat) (List Int)
  | 0, s => .next s
  | mf1 + 1, (size1, k11_1) => (bif decide ((k11_1 : Int) < (s.length : Int)) then (bif decide ((size1 : Int) + ((s.getD k11_1 []).length : Int) < 0) then default else F_slices_Concat_Sint_int_L1 s mf1 ((size1 + (s.getD k11_1 []).length), (k11_1 + 1))) else (.next (size1, k11_1)))
theorem F_slices_Concat_Sint_int_L1_s (s : List (List Int)) (size1 : Nat) (k11_1 : Nat) (mf1 : Nat) : F_slices_Concat_Sint_int_L1 s (mf1 + 1) (size1, k11_1) = (bif decide ((k11_1 : Int) < (s.length : Int)) then (bif decide ((size1 : Int) + ((s.getD k11_1 []).length : Int) < 0) then default else F_slices_Concat_Sint_int_L1 s mf1 ((size1 + (s.getD k11_1 []).length), (k11_1 + 1))) else (.next (size1, k11_1))) := rfl
def F_slices_Concat_Sint_int_L2 (s : List (List Int)) : Nat → List Int × Nat → Ctl (List Int × Nat) (List Int)
  | 0, s => .next s
  | mf2 + 1, (newslice2, k27_2) => (bif decide ((k27_2 : Int) < (s.length : Int)) then F_slices_Concat_Sint_int_L2 s mf2 ((newslice2 ++ (s.getD k27_2 [])), (k27_2 + 1)) else (.next (newslice2, k27_2)))
theorem F_slices_Concat_Sint_int_L2_s (s : List (List Int)) (newslice2 : List Int) (k27_2 : Nat) (mf2 : Nat) : F_slices_Concat_Sint_int_L2 s (mf2 + 1) (newslice2, k27_2) = (bif decide ((k27_2 : Int) < (s.length : Int)) then F_slices_Concat_Sint_int_L2 s mf2 ((newslice2 ++ (s.getD k27_2 [])), (k27_2 + 1)) else (.next (newslice2, k27_2))) := rfl
def F_slices_Concat_Sint_int (s : List (List Int)) : List Int := ((F_slices_Concat_Sint_int_L1 s ((s.length - 0) + 1) (0, 0)).elim (fun (_, _) => ((F_slices_Concat_Sint_int_L2 s ((s.length - 0) + 1) (([] : List Int), 0)).elim (fun (newslice2, _) => newslice2) (fun r => r))) (fun r => r))

def F_impl_flowOf_L2 (m : List (List Int)) (a : List Int) (reqs : List Int) (k24_1 : Nat) : Nat → Nat × List Int → Ctl (Nat × List Int) (Int × List (List Int))
  | 0, s => .next s
  | mf2 + 1, (k40_2, m0_2) => (bif decide ((k40_2 : Int) < ((((F_slices_Concat_Sint_int ([a, reqs])).take (a.length + k24_1)).drop 0).length : Int)) then F_impl_flowOf_L2 m a reqs k24_1 mf2 ((k40_2 + 1), (m0_2.set k40_2 ((m.getD ((((((F_slices_Concat_Sint_int ([a, reqs])).take (a.length + k24_1)).drop 0).getD k40_2 0)).toNat) []).getD (((reqs.getD k24_1 0)).toNat) 0))) else (.next (k40_2, m0_2)))
theorem F_impl_flowOf_L2_s (m : List (List Int)) (a : List Int) (reqs : List Int) (k24_1 : Nat) (k40_2 : Nat) (m0_2 : List Int) (mf2 : Nat) : F_impl_flowOf_L2 m a reqs k24_1 (mf2 + 1) (k40_2, m0_2) = (bif decide ((k40_2 : Int) < ((((F_slices_Concat_Sint_int ([a, reqs])).take (a.length + k24_1)).drop 0).length : Int)) then F_impl_flowOf_L2 m a reqs k24_1 mf2 ((k40_2 + 1), (m0_2.set k40_2 ((m.getD ((((((F_slices_Concat_Sint_int ([a, reqs])).take (a.length + k24_1)).drop 0).getD k40_2 0)).toNat) []).getD (((reqs.getD k24_1 0)).toNat) 0))) else (.next (k40_2, m0_2))) := rfl
def F_impl_flowOf_L1 (m : List (List Int)) (a : List Int) (reqs : List Int) : Nat → Nat × List (List Int) → Ctl (Nat × List (List Int)) (Int × List (List Int))
  | 0, s => .next s
  | mf1 + 1, (k24_1, zg1_3_1_1) => (bif decide ((k24_1 : Int) < (reqs.length : Int)) then ((F_impl_flowOf_L2 m a reqs k24_1 ((((((F_slices_Concat_Sint_int ([a, reqs])).take (a.length + k24_1)).drop 0).length) - 0) + 1) (0, (F_slices_Repeat_Sint_int ([1073741824]) ((F_slices_Concat_Sint_int ([a, reqs])).length : Int)))).elim (fun (_, m0_2) => F_impl_flowOf_L1 m a reqs mf1 ((k24_1 + 1), (zg1_3_1_1 ++ [m0_2]))) (fun r => .ret r)) else (.next (k24_1, zg1_3_1_1)))
theorem F_impl_flowOf_L1_s (m : List (List Int)) (a : List Int) (reqs : List Int) (k24_1 : Nat) (zg1_3_1_1 : List (List Int)) (mf1 : Nat) : F_impl_flowOf_L1 m a reqs (mf1 + 1) (k24_1, zg1_3_1_1) = (bif decide ((k24_1 : Int) < (reqs.length : Int)) then ((F_impl_flowOf_L2 m a reqs k24_1 ((((((F_slices_Concat_Sint_int ([a, reqs])).take (a.length + k24_1)).drop 0).length) - 0) + 1) (0, (F_slices_Repeat_Sint_int ([1073741824]) ((F_slices_Concat_Sint_int ([a, reqs])).length : Int)))).elim (fun (_, m0_2) => F_impl_flowOf_L1 m a reqs mf1 ((k24_1 + 1), (zg1_3_1_1 ++ [m0_2]))) (fun r => .ret r)) else (.next (k24_1, zg1_3_1_1))) := rfl
def F_impl_flowOf (m : List (List Int)) (a : List Int) (reqs : List Int) : Int × List (List Int) := ((F_impl_flowOf_L1 m a reqs ((reqs.length - 0) + 1) (0, ([]))).elim (fun (_, zg1_3_1_1) => ((a.length : Int), zg1_3_1_1)) (fun r => r))

def F_spec_l7Point (a : List Int) (reqs : List Int) (l : Int) : Int := (bif decide (l < (a.length : Int)) then (a.getD ((l).toNat) 0) else (reqs.getD ((l - (a.length : Int)).toNat) 0))

def F_spec_l7Gap (m : List (List Int)) (a : List Int) (reqs : List Int) (l : Int) (i : Int) : Int := ((m.getD (((F_spec_l7Point a reqs l)).toNat) []).getD (((reqs.getD ((i).toNat) 0)).toNat) 0)


end Go.Proofs.Ytcmhgkcifejgcaa
namespace Go.Proofs.Ytcmhgkcifejgcaa
set_option linter.unusedVariables false
set_option linter.unusedSimpArgs false
open Go Go.RowKit
set_option linter.unusedVariables false

def F_spec_l7Holders_L1 (many : Int) : Nat → Nat × List Int → Ctl (Nat × List Int) (List Int)
  | 0, s => .next s
  | mf1 + 1, (l1, out1) => (bif decide ((l1 : Int) < many) then F_spec_l7Holders_L1 many mf1 ((l1 + 1), (out1.set l1 (-1))) else (.next (l1, out1)))
theorem F_spec_l7Holders_L1_s (many : Int) (l1 : Nat) (out1 : List Int) (mf1 : Nat) : F_spec_l7Holders_L1 many (mf1 + 1) (l1, out1) = (bif decide ((l1 : Int) < many) then F_spec_l7Holders_L1 many mf1 ((l1 + 1), (out1.set l1 (-1))) else (.next (l1, out1))) := rfl
def F_spec_l7Holders_L2 (before : List Int) : Nat → Nat × List Int → Ctl (Nat × List Int) (List Int)
  | 0, s => .next s
  | mf2 + 1, (i2, out2) => (bif decide ((i2 : Int) < (before.length : Int)) then F_spec_l7Holders_L2 before mf2 ((i2 + 1), (out2.set (((before.getD i2 0)).toNat) (i2 : Int))) else (.next (i2, out2)))
theorem F_spec_l7Holders_L2_s (before : List Int) (i2 : Nat) (out2 : List Int) (mf2 : Nat) : F_spec_l7Holders_L2 before (mf2 + 1) (i2, out2) = (bif decide ((i2 : Int) < (before.length : Int)) then F_spec_l7Holders_L2 before mf2 ((i2 + 1), (out2.set (((before.getD i2 0)).toNat) (i2 : Int))) else (.next (i2, out2))) := rfl
def F_spec_l7Holders (many : Int) (before : List Int) : List Int := ((F_spec_l7Holders_L1 many ((((many).toNat) - 0) + 1) (0, (List.replicate ((many).toNat) (0 : Int)))).elim (fun (_, out1) => ((F_spec_l7Holders_L2 before ((before.length - 0) + 1) (0, out1)).elim (fun (_, out2) => out2) (fun r => r))) (fun r => r))

def F_spec_l7Reach_L1 (before : List Int) : Nat → Nat × List Int → Ctl (Nat × List Int) (List Int × List Int)
  | 0, s => .next s
  | mf1 + 1, (k15_1, m0_1) => (bif decide ((k15_1 : Int) < (before.length : Int)) then F_spec_l7Reach_L1 before mf1 ((k15_1 + 1), (m0_1.set k15_1 1099511627776)) else (.next (k15_1, m0_1)))
theorem F_spec_l7Reach_L1_s (before : List Int) (k15_1 : Nat) (m0_1 : List Int) (mf1 : Nat) : F_spec_l7Reach_L1 before (mf1 + 1) (k15_1, m0_1) = (bif decide ((k15_1 : Int) < (before.length : Int)) then F_spec_l7Reach_L1 before mf1 ((k15_1 + 1), (m0_1.set k15_1 1099511627776)) else (.next (k15_1, m0_1))) := rfl
def F_spec_l7Reach_L4 (m : List (List Int)) (a : List Int) (reqs : List Int) (holders : List Int) (k17_3 : Nat) : Nat → Bool × Nat × List Int × List Int → Ctl (Bool × Nat × List Int × List Int) (List Int × List Int)
  | 0, s => .next s
  | mf4 + 1, (k16_4, k18_4, m0_4, m1_4) => (bif ((decide ((k18_4 : Int) < (a.length : Int) + (k17_3 : Int))) && (decide ((m1_4.getD k17_3 0) < 1099511627776))) then (bif ((decide (0 ≤ (holders.getD k18_4 0))) && (decide (((m1_4.getD k17_3 0) + (F_spec_l7Gap m a reqs (k18_4 : Int) (k17_3 : Int))) - (F_spec_l7Gap m a reqs (k18_4 : Int) (holders.getD k18_4 0)) < (m1_4.getD (((holders.getD k18_4 0)).toNat) 0)))) then F_spec_l7Reach_L4 m a reqs holders k17_3 mf4 (true, (k18_4 + 1), (m0_4.set (((holders.getD k18_4 0)).toNat) (k17_3 : Int)), (m1_4.set (((holders.getD k18_4 0)).toNat) (((m1_4.getD k17_3 0) + (F_spec_l7Gap m a reqs (k18_4 : Int) (k17_3 : Int))) - (F_spec_l7Gap m a reqs (k18_4 : Int) (holders.getD k18_4 0))))) else F_spec_l7Reach_L4 m a reqs holders k17_3 mf4 (k16_4, (k18_4 + 1), m0_4, m1_4)) else (.next (k16_4, k18_4, m0_4, m1_4)))
theorem F_spec_l7Reach_L4_s (m : List (List Int)) (a : List Int) (reqs : List Int) (holders : List Int) (k17_3 : Nat) (k16_4 : Bool) (k18_4 : Nat) (m0_4 : List Int) (m1_4 : List Int) (mf4 : Nat) : F_spec_l7Reach_L4 m a reqs holders k17_3 (mf4 + 1) (k16_4, k18_4, m0_4, m1_4) = (bif ((decide ((k18_4 : Int) < (a.length : Int) + (k17_3 : Int))) && (decide ((m1_4.getD k17_3 0) < 1099511627776))) then (bif ((decide (0 ≤ (holders.getD k18_4 0))) && (decide (((m1_4.getD k17_3 0) + (F_spec_l7Gap m a reqs (k18_4 : Int) (k17_3 : Int))) - (F_spec_l7Gap m a reqs (k18_4 : Int) (holders.getD k18_4 0)) < (m1_4.getD (((holders.getD k18_4 0)).toNat) 0)))) then F_spec_l7Reach_L4 m a reqs holders k17_3 mf4 (true, (k18_4 + 1), (m0_4.set (((holders.getD k18_4 0)).toNat) (k17_3 : Int)), (m1_4.set (((holders.getD k18_4 0)).toNat) (((m1_4.getD k17_3 0) + (F_spec_l7Gap m a reqs (k18_4 : Int) (k17_3 : Int))) - (F_spec_l7Gap m a reqs (k18_4 : Int) (holders.getD k18_4 0))))) else F_spec_l7Reach_L4 m a reqs holders k17_3 mf4 (k16_4, (k18_4 + 1), m0_4, m1_4)) else (.next (k16_4, k18_4, m0_4, m1_4))) := rfl
def F_spec_l7Reach_L3 (m : List (List Int)) (a : List Int) (reqs : List Int) (before : List Int) (holders : List Int) : Nat → Bool × Nat × List Int × List Int → Ctl (Bool × Nat × List Int × List Int) (List Int × List Int)
  | 0, s => .next s
  | mf3 + 1, (k16_3, k17_3, m0_3, m1_3) => (bif decide ((k17_3 : Int) ≤ (before.length : Int)) then ((F_spec_l7Reach_L4 m a reqs holders k17_3 ((a.length + k17_3 - 0) + 1) (k16_3, 0, m0_3, m1_3)).elim (fun (k16_4, _, m0_4, m1_4) => F_spec_l7Reach_L3 m a reqs before holders mf3 (k16_4, (k17_3 + 1), m0_4, m1_4)) (fun r => .ret r)) else (.next (k16_3, k17_3, m0_3, m1_3)))
theorem F_spec_l7Reach_L3_s (m : List (List Int)) (a : List Int) (reqs : List Int) (before : List Int) (holders : List Int) (k16_3 : Bool) (k17_3 : Nat) (m0_3 : List Int) (m1_3 : List Int) (mf3 : Nat) : F_spec_l7Reach_L3 m a reqs before holders (mf3 + 1) (k16_3, k17_3, m0_3, m1_3) = (bif decide ((k17_3 : Int) ≤ (before.length : Int)) then ((F_spec_l7Reach_L4 m a reqs holders k17_3 ((a.length + k17_3 - 0) + 1) (k16_3, 0, m0_3, m1_3)).elim (fun (k16_4, _, m0_4, m1_4) => F_spec_l7Reach_L3 m a reqs before holders mf3 (k16_4, (k17_3 + 1), m0_4, m1_4)) (fun r => .ret r)) else (.next (k16_3, k17_3, m0_3, m1_3))) := rfl
def F_spec_l7Reach_L2 (m : List (List Int)) (a : List Int) (reqs : List Int) (before : List Int) (holders : List Int) : Nat → Bool × List Int × List Int → Ctl (Bool × List Int × List Int) (List Int × List Int)
  | 0, s => .next s
  | mf2 + 1, (k16_2, m0_2, m1_2) => (bif k16_2 then ((F_spec_l7Reach_L3 m a reqs before holders ((before.length + 1 - 0) + 1) (false, 0, m0_2, m1_2)).elim (fun (k16_3, _, m0_3, m1_3) => F_spec_l7Reach_L2 m a reqs before holders mf2 (k16_3, m0_3, m1_3)) (fun r => .ret r)) else (.next (k16_2, m0_2, m1_2)))
theorem F_spec_l7Reach_L2_s (m : List (List Int)) (a : List Int) (reqs : List Int) (before : List Int) (holders : List Int) (k16_2 : Bool) (m0_2 : List Int) (m1_2 : List Int) (mf2 : Nat) : F_spec_l7Reach_L2 m a reqs before holders (mf2 + 1) (k16_2, m0_2, m1_2) = (bif k16_2 then ((F_spec_l7Reach_L3 m a reqs before holders ((before.length + 1 - 0) + 1) (false, 0, m0_2, m1_2)).elim (fun (k16_3, _, m0_3, m1_3) => F_spec_l7Reach_L2 m a reqs before holders mf2 (k16_3, m0_3, m1_3)) (fun r => .ret r)) else (.next (k16_2, m0_2, m1_2))) := rfl
def F_spec_l7Reach (m : List (List Int)) (a : List Int) (reqs : List Int) (before : List Int) (holders : List Int) : List Int × List Int := ((F_spec_l7Reach_L1 before ((before.length - 0) + 1) (0, (List.replicate (before.length + 1) (0 : Int)))).elim (fun (_, m0_1) => ((F_spec_l7Reach_L2 m a reqs before holders ((2 * (Th.lsum m0_1 + 1000000).toNat + (bif true then 1 else 0)) + 1) (true, (List.replicate (before.length + 1) (0 : Int)), m0_1)).elim (fun (_, m0_2, m1_2) => (m1_2, m0_2)) (fun r => r))) (fun r => r))

def F_spec_l7Add_L2 (m : List (List Int)) (a : List Int) (reqs : List Int) (before : List Int) (k16_1 : Nat) : Nat → Int × Nat × Nat × Nat → Ctl (Int × Nat × Nat × Nat) (List Int)
  | 0, s => .next s
  | mf2 + 1, (k13_2, k14_2, k15_2, k17_2) => (bif decide ((k17_2 : Int) < (a.length : Int) + (k16_1 : Int)) then (bif ((decide (((F_spec_l7Holders ((a.length : Int) + (before.length : Int)) before).getD k17_2 0) < 0)) && (decide (((F_spec_l7Reach m a reqs before (F_spec_l7Holders ((a.length : Int) + (before.length : Int)) before)).1.getD k16_1 0) + (F_spec_l7Gap m a reqs (k17_2 : Int) (k16_1 : Int)) < k13_2))) then F_spec_l7Add_L2 m a reqs before k16_1 mf2 ((((F_spec_l7Reach m a reqs before (F_spec_l7Holders ((a.length : Int) + (before.length : Int)) before)).1.getD k16_1 0) + (F_spec_l7Gap m a reqs (k17_2 : Int) (k16_1 : Int))), k16_1, k17_2, (k17_2 + 1)) else F_spec_l7Add_L2 m a reqs before k16_1 mf2 (k13_2, k14_2, k15_2, (k17_2 + 1))) else (.next (k13_2, k14_2, k15_2, k17_2)))
theorem F_spec_l7Add_L2_s (m : List (List Int)) (a : List Int) (reqs : List Int) (before : List Int) (k16_1 : Nat) (k13_2 : Int) (k14_2 : Nat) (k15_2 : Nat) (k17_2 : Nat) (mf2 : Nat) : F_spec_l7Add_L2 m a reqs before k16_1 (mf2 + 1) (k13_2, k14_2, k15_2, k17_2) = (bif decide ((k17_2 : Int) < (a.length : Int) + (k16_1 : Int)) then (bif ((decide (((F_spec_l7Holders ((a.length : Int) + (before.length : Int)) before).getD k17_2 0) < 0)) && (decide (((F_spec_l7Reach m a reqs before (F_spec_l7Holders ((a.length : Int) + (before.length : Int)) before)).1.getD k16_1 0) + (F_spec_l7Gap m a reqs (k17_2 : Int) (k16_1 : Int)) < k13_2))) then F_spec_l7Add_L2 m a reqs before k16_1 mf2 ((((F_spec_l7Reach m a reqs before (F_spec_l7Holders ((a.length : Int) + (before.length : Int)) before)).1.getD k16_1 0) + (F_spec_l7Gap m a reqs (k17_2 : Int) (k16_1 : Int))), k16_1, k17_2, (k17_2 + 1)) else F_spec_l7Add_L2 m a reqs before k16_1 mf2 (k13_2, k14_2, k15_2, (k17_2 + 1))) else (.next (k13_2, k14_2, k15_2, k17_2))) := rfl
def F_spec_l7Add_L1 (m : List (List Int)) (a : List Int) (reqs : List Int) (before : List Int) : Nat → Int × Nat × Nat × Nat → Ctl (Int × Nat × Nat × Nat) (List Int)
  | 0, s => .next s
  | mf1 + 1, (k13_1, k14_1, k15_1, k16_1) => (bif decide ((k16_1 : Int) ≤ (before.length : Int)) then ((F_spec_l7Add_L2 m a reqs before k16_1 (((((a.length : Int) + (k16_1 : Int)).toNat) - 0) + 1) (k13_1, k14_1, k15_1, 0)).elim (fun (k13_2, k14_2, k15_2, _) => F_spec_l7Add_L1 m a reqs before mf1 (k13_2, k14_2, k15_2, (k16_1 + 1))) (fun r => .ret r)) else (.next (k13_1, k14_1, k15_1, k16_1)))
theorem F_spec_l7Add_L1_s (m : List (List Int)) (a : List Int) (reqs : List Int) (before : List Int) (k13_1 : Int) (k14_1 : Nat) (k15_1 : Nat) (k16_1 : Nat) (mf1 : Nat) : F_spec_l7Add_L1 m a reqs before (mf1 + 1) (k13_1, k14_1, k15_1, k16_1) = (bif decide ((k16_1 : Int) ≤ (before.length : Int)) then ((F_spec_l7Add_L2 m a reqs before k16_1 (((((a.length : Int) + (k16_1 : Int)).toNat) - 0) + 1) (k13_1, k14_1, k15_1, 0)).elim (fun (k13_2, k14_2, k15_2, _) => F_spec_l7Add_L1 m a reqs before mf1 (k13_2, k14_2, k15_2, (k16_1 + 1))) (fun r => .ret r)) else (.next (k13_1, k14_1, k15_1, k16_1))) := rfl
def F_spec_l7Add_L3 (m : List (List Int)) (a : List Int) (reqs : List Int) (before : List Int) : Nat → Int × Int × List Int → Ctl (Int × Int × List Int) (List Int)
  | 0, s => .next s
  | mf3 + 1, (k14_3, k15_3, m0_3) => (bif !decide (k14_3 = (before.length : Int)) then F_spec_l7Add_L3 m a reqs before mf3 (((F_spec_l7Reach m a reqs before (F_spec_l7Holders ((a.length : Int) + (before.length : Int)) before)).2.getD ((k14_3).toNat) 0), (m0_3.getD ((k14_3).toNat) 0), (m0_3.set ((k14_3).toNat) k15_3)) else (.next (k14_3, k15_3, m0_3)))
theorem F_spec_l7Add_L3_s (m : List (List Int)) (a : List Int) (reqs : List Int) (before : List Int) (k14_3 : Int) (k15_3 : Int) (m0_3 : List Int) (mf3 : Nat) : F_spec_l7Add_L3 m a reqs before (mf3 + 1) (k14_3, k15_3, m0_3) = (bif !decide (k14_3 = (before.length : Int)) then F_spec_l7Add_L3 m a reqs before mf3 (((F_spec_l7Reach m a reqs before (F_spec_l7Holders ((a.length : Int) + (before.length : Int)) before)).2.getD ((k14_3).toNat) 0), (m0_3.getD ((k14_3).toNat) 0), (m0_3.set ((k14_3).toNat) k15_3)) else (.next (k14_3, k15_3, m0_3))) := rfl
def F_spec_l7Add (m : List (List Int)) (a : List Int) (reqs : List Int) (before : List Int) : List Int := ((F_spec_l7Add_L1 m a reqs before ((before.length + 1 - 0) + 1) (1099511627776, 0, 0, 0)).elim (fun (_, k14_1, k15_1, _) => ((F_spec_l7Add_L3 m a reqs before ((Th.dep before.length (F_spec_l7Reach m a reqs before (F_spec_l7Holders ((a.length : Int) + (before.length : Int)) before)).2 (before.length + 1) (k14_1 : Int).toNat) + 1) ((k14_1 : Int), (k15_1 : Int), (before ++ ([0])))).elim (fun (_, k15_3, m0_3) => (m0_3.set before.length k15_3)) (fun r => r))) (fun r => r))

def F_spec_l7Flow_L1 (m : List (List Int)) (a : List Int) (reqs : List Int) : Nat → List Int → Ctl (List Int) (List Int)
  | 0, s => .next s
  | mf1 + 1, out1 => (bif decide ((out1.length : Int) < (reqs.length : Int)) then F_spec_l7Flow_L1 m a reqs mf1 (F_spec_l7Add m a reqs out1) else (.next out1))
theorem F_spec_l7Flow_L1_s (m : List (List Int)) (a : List Int) (reqs : List Int) (out1 : List Int) (mf1 : Nat) : F_spec_l7Flow_L1 m a reqs (mf1 + 1) out1 = (bif decide ((out1.length : Int) < (reqs.length : Int)) then F_spec_l7Flow_L1 m a reqs mf1 (F_spec_l7Add m a reqs out1) else (.next out1)) := rfl
def F_spec_l7Flow (m : List (List Int)) (a : List Int) (reqs : List Int) : List Int := ((F_spec_l7Flow_L1 m a reqs ((reqs.length - ([] : List Int).length) + 1) ([] : List Int)).elim (fun out1 => out1) (fun r => r))

def F_spec_l7Cost_L1 (m : List (List Int)) (a : List Int) (reqs : List Int) (before : List Int) : Nat → Int × Nat → Ctl (Int × Nat) (Int)
  | 0, s => .next s
  | mf1 + 1, (sum1, i1) => (bif decide ((i1 : Int) < (before.length : Int)) then F_spec_l7Cost_L1 m a reqs before mf1 ((sum1 + (F_spec_l7Gap m a reqs (before.getD i1 0) (i1 : Int))), (i1 + 1)) else (.next (sum1, i1)))
theorem F_spec_l7Cost_L1_s (m : List (List Int)) (a : List Int) (reqs : List Int) (before : List Int) (sum1 : Int) (i1 : Nat) (mf1 : Nat) : F_spec_l7Cost_L1 m a reqs before (mf1 + 1) (sum1, i1) = (bif decide ((i1 : Int) < (before.length : Int)) then F_spec_l7Cost_L1 m a reqs before mf1 ((sum1 + (F_spec_l7Gap m a reqs (before.getD i1 0) (i1 : Int))), (i1 + 1)) else (.next (sum1, i1))) := rfl
def F_spec_l7Cost (m : List (List Int)) (a : List Int) (reqs : List Int) (before : List Int) : Int := ((F_spec_l7Cost_L1 m a reqs before ((before.length - 0) + 1) (0, 0)).elim (fun (sum1, _) => sum1) (fun r => r))

def F_spec_FlowCost (m : List (List Int)) (a : List Int) (reqs : List Int) : Int × Bool := (bif ((!(F_spec_l6Good m)) || (!(F_spec_l6Start m a reqs))) then (0, false) else ((F_spec_l7Cost m a reqs (F_spec_l7Flow m a reqs)), true))


end Go.Proofs.Ytcmhgkcifejgcaa
namespace Go.Proofs.Ytcmhgkcifejgcaa
set_option linter.unusedVariables false
set_option linter.unusedSimpArgs false
open Go Go.RowKit
set_option linter.unusedVariables false

def F_impl_assigned_L3 (costs : List (List Int)) (k9_1 : Nat) (m0_1 : List Int) (k10_2 : Nat) (m0_2 : List Bool) (m3_2 : List Int) (m4_2 : List Int) : Nat → Int × Nat × Nat × List Int × List Int → Ctl (Int × Nat × Nat × List Int × List Int) (List Int × Int)
  | 0, s => .next s
  | mf3 + 1, (k15_3, k16_3, k17_3, m0_3, m1_3) => (bif decide ((k17_3 : Int) ≤ ((costs.getD 0 []).length : Int)) then (bif ((m0_2.set k10_2 true).getD k17_3 false) then F_impl_assigned_L3 costs k9_1 m0_1 k10_2 m0_2 m3_2 m4_2 mf3 (k15_3, k16_3, (k17_3 + 1), m0_3, m1_3) else (bif decide ((((costs.getD ((((m0_1.set 0 (k9_1 : Int)).getD k10_2 0) - 1).toNat) []).getD (((k17_3 : Int) - 1).toNat) 0) - (m4_2.getD ((((m0_1.set 0 (k9_1 : Int)).getD k10_2 0)).toNat) 0)) - (m3_2.getD k17_3 0) < (m0_3.getD k17_3 0)) then (bif decide (((m0_3.set k17_3 ((((costs.getD ((((m0_1.set 0 (k9_1 : Int)).getD k10_2 0) - 1).toNat) []).getD (((k17_3 : Int) - 1).toNat) 0) - (m4_2.getD ((((m0_1.set 0 (k9_1 : Int)).getD k10_2 0)).toNat) 0)) - (m3_2.getD k17_3 0))).getD k17_3 0) < k15_3) then F_impl_assigned_L3 costs k9_1 m0_1 k10_2 m0_2 m3_2 m4_2 mf3 (((m0_3.set k17_3 ((((costs.getD ((((m0_1.set 0 (k9_1 : Int)).getD k10_2 0) - 1).toNat) []).getD (((k17_3 : Int) - 1).toNat) 0) - (m4_2.getD ((((m0_1.set 0 (k9_1 : Int)).getD k10_2 0)).toNat) 0)) - (m3_2.getD k17_3 0))).getD k17_3 0), k17_3, (k17_3 + 1), (m0_3.set k17_3 ((((costs.getD ((((m0_1.set 0 (k9_1 : Int)).getD k10_2 0) - 1).toNat) []).getD (((k17_3 : Int) - 1).toNat) 0) - (m4_2.getD ((((m0_1.set 0 (k9_1 : Int)).getD k10_2 0)).toNat) 0)) - (m3_2.getD k17_3 0))), (m1_3.set k17_3 (k10_2 : Int))) else F_impl_assigned_L3 costs k9_1 m0_1 k10_2 m0_2 m3_2 m4_2 mf3 (k15_3, k16_3, (k17_3 + 1), (m0_3.set k17_3 ((((costs.getD ((((m0_1.set 0 (k9_1 : Int)).getD k10_2 0) - 1).toNat) []).getD (((k17_3 : Int) - 1).toNat) 0) - (m4_2.getD ((((m0_1.set 0 (k9_1 : Int)).getD k10_2 0)).toNat) 0)) - (m3_2.getD k17_3 0))), (m1_3.set k17_3 (k10_2 : Int)))) else (bif decide ((m0_3.getD k17_3 0) < k15_3) then F_impl_assigned_L3 costs k9_1 m0_1 k10_2 m0_2 m3_2 m4_2 mf3 ((m0_3.getD k17_3 0), k17_3, (k17_3 + 1), m0_3, m1_3) else F_impl_assigned_L3 costs k9_1 m0_1 k10_2 m0_2 m3_2 m4_2 mf3 (k15_3, k16_3, (k17_3 + 1), m0_3, m1_3)))) else (.next (k15_3, k16_3, k17_3, m0_3, m1_3)))
theorem F_impl_assigned_L3_s (costs : List (List Int)) (k9_1 : Nat) (m0_1 : List Int) (k10_2 : Nat) (m0_2 : List Bool) (m3_2 : List Int) (m4_2 : List Int) (k15_3 : Int) (k16_3 : Nat) (k17_3 : Nat) (m0_3 : List Int) (m1_3 : List Int) (mf3 : Nat) : F_impl_assigned_L3 costs k9_1 m0_1 k10_2 m0_2 m3_2 m4_2 (mf3 + 1) (k15_3, k16_3, k17_3, m0_3, m1_3) = (bif decide ((k17_3 : Int) ≤ ((costs.getD 0 []).length : Int)) then (bif ((m0_2.set k10_2 true).getD k17_3 false) then F_impl_assigned_L3 costs k9_1 m0_1 k10_2 m0_2 m3_2 m4_2 mf3 (k15_3, k16_3, (k17_3 + 1), m0_3, m1_3) else (bif decide ((((costs.getD ((((m0_1.set 0 (k9_1 : Int)).getD k10_2 0) - 1).toNat) []).getD (((k17_3 : Int) - 1).toNat) 0) - (m4_2.getD ((((m0_1.set 0 (k9_1 : Int)).getD k10_2 0)).toNat) 0)) - (m3_2.getD k17_3 0) < (m0_3.getD k17_3 0)) then (bif decide (((m0_3.set k17_3 ((((costs.getD ((((m0_1.set 0 (k9_1 : Int)).getD k10_2 0) - 1).toNat) []).getD (((k17_3 : Int) - 1).toNat) 0) - (m4_2.getD ((((m0_1.set 0 (k9_1 : Int)).getD k10_2 0)).toNat) 0)) - (m3_2.getD k17_3 0))).getD k17_3 0) < k15_3) then F_impl_assigned_L3 costs k9_1 m0_1 k10_2 m0_2 m3_2 m4_2 mf3 (((m0_3.set k17_3 ((((costs.getD ((((m0_1.set 0 (k9_1 : Int)).getD k10_2 0) - 1).toNat) []).getD (((k17_3 : Int) - 1).toNat) 0) - (m4_2.getD ((((m0_1.set 0 (k9_1 : Int)).getD k10_2 0)).toNat) 0)) - (m3_2.getD k17_3 0))).getD k17_3 0), k17_3, (k17_3 + 1), (m0_3.set k17_3 ((((costs.getD ((((m0_1.set 0 (k9_1 : Int)).getD k10_2 0) - 1).toNat) []).getD (((k17_3 : Int) - 1).toNat) 0) - (m4_2.getD ((((m0_1.set 0 (k9_1 : Int)).getD k10_2 0)).toNat) 0)) - (m3_2.getD k17_3 0))), (m1_3.set k17_3 (k10_2 : Int))) else F_impl_assigned_L3 costs k9_1 m0_1 k10_2 m0_2 m3_2 m4_2 mf3 (k15_3, k16_3, (k17_3 + 1), (m0_3.set k17_3 ((((costs.getD ((((m0_1.set 0 (k9_1 : Int)).getD k10_2 0) - 1).toNat) []).getD (((k17_3 : Int) - 1).toNat) 0) - (m4_2.getD ((((m0_1.set 0 (k9_1 : Int)).getD k10_2 0)).toNat) 0)) - (m3_2.getD k17_3 0))), (m1_3.set k17_3 (k10_2 : Int)))) else (bif decide ((m0_3.getD k17_3 0) < k15_3) then F_impl_assigned_L3 costs k9_1 m0_1 k10_2 m0_2 m3_2 m4_2 mf3 ((m0_3.getD k17_3 0), k17_3, (k17_3 + 1), m0_3, m1_3) else F_impl_assigned_L3 costs k9_1 m0_1 k10_2 m0_2 m3_2 m4_2 mf3 (k15_3, k16_3, (k17_3 + 1), m0_3, m1_3)))) else (.next (k15_3, k16_3, k17_3, m0_3, m1_3))) := rfl
def F_impl_assigned_L4 (k9_1 : Nat) (m0_1 : List Int) (k10_2 : Nat) (m0_2 : List Bool) (k15_3 : Int) : Nat → Nat × List Int × List Int × List Int → Ctl (Nat × List Int × List Int × List Int) (List Int × Int)
  | 0, s => .next s
  | mf4 + 1, (k121_4, m0_4, m1_4, m2_4) => (bif decide ((k121_4 : Int) < ((m0_2.set k10_2 true).length : Int)) then (bif ((m0_2.set k10_2 true).getD k121_4 false) then F_impl_assigned_L4 k9_1 m0_1 k10_2 m0_2 k15_3 mf4 ((k121_4 + 1), (m0_4.set k121_4 ((m0_4.getD k121_4 0) - k15_3)), (m1_4.set ((((m0_1.set 0 (k9_1 : Int)).getD k121_4 0)).toNat) ((m1_4.getD ((((m0_1.set 0 (k9_1 : Int)).getD k121_4 0)).toNat) 0) + k15_3)), m2_4) else F_impl_assigned_L4 k9_1 m0_1 k10_2 m0_2 k15_3 mf4 ((k121_4 + 1), m0_4, m1_4, (m2_4.set k121_4 ((m2_4.getD k121_4 0) - k15_3)))) else (.next (k121_4, m0_4, m1_4, m2_4)))
theorem F_impl_assigned_L4_s (k9_1 : Nat) (m0_1 : List Int) (k10_2 : Nat) (m0_2 : List Bool) (k15_3 : Int) (k121_4 : Nat) (m0_4 : List Int) (m1_4 : List Int) (m2_4 : List Int) (mf4 : Nat) : F_impl_assigned_L4 k9_1 m0_1 k10_2 m0_2 k15_3 (mf4 + 1) (k121_4, m0_4, m1_4, m2_4) = (bif decide ((k121_4 : Int) < ((m0_2.set k10_2 true).length : Int)) then (bif ((m0_2.set k10_2 true).getD k121_4 false) then F_impl_assigned_L4 k9_1 m0_1 k10_2 m0_2 k15_3 mf4 ((k121_4 + 1), (m0_4.set k121_4 ((m0_4.getD k121_4 0) - k15_3)), (m1_4.set ((((m0_1.set 0 (k9_1 : Int)).getD k121_4 0)).toNat) ((m1_4.getD ((((m0_1.set 0 (k9_1 : Int)).getD k121_4 0)).toNat) 0) + k15_3)), m2_4) else F_impl_assigned_L4 k9_1 m0_1 k10_2 m0_2 k15_3 mf4 ((k121_4 + 1), m0_4, m1_4, (m2_4.set k121_4 ((m2_4.getD k121_4 0) - k15_3)))) else (.next (k121_4, m0_4, m1_4, m2_4))) := rfl
def F_impl_assigned_L2 (costs : List (List Int)) (k9_1 : Nat) (m0_1 : List Int) : Nat → Nat × List Bool × List Int × List Int × List Int × List Int → Ctl (Nat × List Bool × List Int × List Int × List Int × List Int) (List Int × Int)
  | 0, s => .next s
  | mf2 + 1, (k10_2, m0_2, m1_2, m2_2, m3_2, m4_2) => ((F_impl_assigned_L3 costs k9_1 m0_1 k10_2 m0_2 m3_2 m4_2 (((costs.getD 0 []).length + 1 - 1) + 1) (1152921504606846976, 0, 1, m1_2, m2_2)).elim (fun (k15_3, k16_3, _, m0_3, m1_3) => ((F_impl_assigned_L4 k9_1 m0_1 k10_2 m0_2 k15_3 ((((m0_2.set k10_2 true).length) - 0) + 1) (0, m3_2, m4_2, m0_3)).elim (fun (_, m0_4, m1_4, m2_4) => (bif decide (((m0_1.set 0 (k9_1 : Int)).getD k16_3 0) = 0) then (.next (k16_3, (m0_2.set k10_2 true), m2_4, m1_3, m0_4, m1_4)) else F_impl_assigned_L2 costs k9_1 m0_1 mf2 (k16_3, (m0_2.set k10_2 true), m2_4, m1_3, m0_4, m1_4))) (fun r => .ret r))) (fun r => .ret r))
theorem F_impl_assigned_L2_s (costs : List (List Int)) (k9_1 : Nat) (m0_1 : List Int) (k10_2 : Nat) (m0_2 : List Bool) (m1_2 : List Int) (m2_2 : List Int) (m3_2 : List Int) (m4_2 : List Int) (mf2 : Nat) : F_impl_assigned_L2 costs k9_1 m0_1 (mf2 + 1) (k10_2, m0_2, m1_2, m2_2, m3_2, m4_2) = ((F_impl_assigned_L3 costs k9_1 m0_1 k10_2 m0_2 m3_2 m4_2 (((costs.getD 0 []).length + 1 - 1) + 1) (1152921504606846976, 0, 1, m1_2, m2_2)).elim (fun (k15_3, k16_3, _, m0_3, m1_3) => ((F_impl_assigned_L4 k9_1 m0_1 k10_2 m0_2 k15_3 ((((m0_2.set k10_2 true).length) - 0) + 1) (0, m3_2, m4_2, m0_3)).elim (fun (_, m0_4, m1_4, m2_4) => (bif decide (((m0_1.set 0 (k9_1 : Int)).getD k16_3 0) = 0) then (.next (k16_3, (m0_2.set k10_2 true), m2_4, m1_3, m0_4, m1_4)) else F_impl_assigned_L2 costs k9_1 m0_1 mf2 (k16_3, (m0_2.set k10_2 true), m2_4, m1_3, m0_4, m1_4))) (fun r => .ret r))) (fun r => .ret r)) := rfl
def F_impl_assigned_L5 (m2_2 : List Int) : Nat → Int × List Int → Ctl (Int × List Int) (List Int × Int)
  | 0, s => .next s
  | mf5 + 1, (k10_5, m0_5) => (bif !decide (k10_5 = 0) then F_impl_assigned_L5 m2_2 mf5 ((m2_2.getD ((k10_5).toNat) 0), (m0_5.set ((k10_5).toNat) (m0_5.getD (((m2_2.getD ((k10_5).toNat) 0)).toNat) 0))) else (.next (k10_5, m0_5)))
theorem F_impl_assigned_L5_s (m2_2 : List Int) (k10_5 : Int) (m0_5 : List Int) (mf5 : Nat) : F_impl_assigned_L5 m2_2 (mf5 + 1) (k10_5, m0_5) = (bif !decide (k10_5 = 0) then F_impl_assigned_L5 m2_2 mf5 ((m2_2.getD ((k10_5).toNat) 0), (m0_5.set ((k10_5).toNat) (m0_5.getD (((m2_2.getD ((k10_5).toNat) 0)).toNat) 0))) else (.next (k10_5, m0_5))) := rfl
def F_impl_assigned_L1 (costs : List (List Int)) : Nat → Nat × List Int × List Int × List Int → Ctl (Nat × List Int × List Int × List Int) (List Int × Int)
  | 0, s => .next s
  | mf1 + 1, (k9_1, m0_1, m1_1, m2_1) => (bif decide ((k9_1 : Int) ≤ (costs.length : Int)) then ((F_impl_assigned_L2 costs k9_1 m0_1 (((costs.getD 0 []).length + 1 - (List.replicate ((costs.getD 0 []).length + 1) false).countP id) + 1) (0, (List.replicate ((costs.getD 0 []).length + 1) false), (F_slices_Repeat_Sint_int ([1152921504606846976]) (((costs.getD 0 []).length : Int) + 1)), (List.replicate ((costs.getD 0 []).length + 1) (0 : Int)), m1_1, m2_1)).elim (fun (k10_2, _, _, m2_2, m3_2, m4_2) => ((F_impl_assigned_L5 m2_2 ((Th.dep 0 m2_2 ((costs.getD 0 []).length + 1) (k10_2 : Int).toNat) + 1) ((k10_2 : Int), (m0_1.set 0 (k9_1 : Int)))).elim (fun (_, m0_5) => F_impl_assigned_L1 costs mf1 ((k9_1 + 1), m0_5, m3_2, m4_2)) (fun r => .ret r))) (fun r => .ret r)) else (.next (k9_1, m0_1, m1_1, m2_1)))
theorem F_impl_assigned_L1_s (costs : List (List Int)) (k9_1 : Nat) (m0_1 : List Int) (m1_1 : List Int) (m2_1 : List Int) (mf1 : Nat) : F_impl_assigned_L1 costs (mf1 + 1) (k9_1, m0_1, m1_1, m2_1) = (bif decide ((k9_1 : Int) ≤ (costs.length : Int)) then ((F_impl_assigned_L2 costs k9_1 m0_1 (((costs.getD 0 []).length + 1 - (List.replicate ((costs.getD 0 []).length + 1) false).countP id) + 1) (0, (List.replicate ((costs.getD 0 []).length + 1) false), (F_slices_Repeat_Sint_int ([1152921504606846976]) (((costs.getD 0 []).length : Int) + 1)), (List.replicate ((costs.getD 0 []).length + 1) (0 : Int)), m1_1, m2_1)).elim (fun (k10_2, _, _, m2_2, m3_2, m4_2) => ((F_impl_assigned_L5 m2_2 ((Th.dep 0 m2_2 ((costs.getD 0 []).length + 1) (k10_2 : Int).toNat) + 1) ((k10_2 : Int), (m0_1.set 0 (k9_1 : Int)))).elim (fun (_, m0_5) => F_impl_assigned_L1 costs mf1 ((k9_1 + 1), m0_5, m3_2, m4_2)) (fun r => .ret r))) (fun r => .ret r)) else (.next (k9_1, m0_1, m1_1, m2_1))) := rfl
def F_impl_assigned_L6 (costs : List (List Int)) (m0_1 : List Int) : Nat → Int × Nat × List Int → Ctl (Int × Nat × List Int) (List Int × Int)
  | 0, s => .next s
  | mf6 + 1, (k21_6, k22_6, m0_6) => (bif decide ((k22_6 : Int) ≤ ((costs.getD 0 []).length : Int)) then (bif decide (0 < (m0_1.getD k22_6 0)) then F_impl_assigned_L6 costs m0_1 mf6 ((k21_6 + ((costs.getD (((m0_1.getD k22_6 0) - 1).toNat) []).getD (((k22_6 : Int) - 1).toNat) 0)), (k22_6 + 1), (m0_6.set (((m0_1.getD k22_6 0) - 1).toNat) ((k22_6 : Int) - 1))) else F_impl_assigned_L6 costs m0_1 mf6 (k21_6, (k22_6 + 1), m0_6)) else (.next (k21_6, k22_6, m0_6)))
theorem F_impl_assigned_L6_s (costs : List (List Int)) (m0_1 : List Int) (k21_6 : Int) (k22_6 : Nat) (m0_6 : List Int) (mf6 : Nat) : F_impl_assigned_L6 costs m0_1 (mf6 + 1) (k21_6, k22_6, m0_6) = (bif decide ((k22_6 : Int) ≤ ((costs.getD 0 []).length : Int)) then (bif decide (0 < (m0_1.getD k22_6 0)) then F_impl_assigned_L6 costs m0_1 mf6 ((k21_6 + ((costs.getD (((m0_1.getD k22_6 0) - 1).toNat) []).getD (((k22_6 : Int) - 1).toNat) 0)), (k22_6 + 1), (m0_6.set (((m0_1.getD k22_6 0) - 1).toNat) ((k22_6 : Int) - 1))) else F_impl_assigned_L6 costs m0_1 mf6 (k21_6, (k22_6 + 1), m0_6)) else (.next (k21_6, k22_6, m0_6))) := rfl
def F_impl_assigned (costs : List (List Int)) : List Int × Int := (bif decide ((costs.length : Int) = 0) then ([], 0) else ((F_impl_assigned_L1 costs ((costs.length + 1 - 1) + 1) (1, (List.replicate ((costs.getD 0 []).length + 1) (0 : Int)), (List.replicate ((costs.getD 0 []).length + 1) (0 : Int)), (List.replicate (costs.length + 1) (0 : Int)))).elim (fun (_, m0_1, _, _) => ((F_impl_assigned_L6 costs m0_1 (((costs.getD 0 []).length + 1 - 1) + 1) (0, 1, (List.replicate costs.length (0 : Int)))).elim (fun (k21_6, _, m0_6) => (m0_6, k21_6)) (fun r => r))) (fun r => r)))


end Go.Proofs.Ytcmhgkcifejgcaa
namespace Go.Proofs.Ytcmhgkcifejgcaa
set_option linter.unusedVariables false
set_option linter.unusedSimpArgs false

/-! where a configuration stands -/
theorem Ks.n {m : List (List Int)} {k : Int} (h : Ks m k) : 1 ≤ m.length ∧ m.length ≤ 6 := ⟨h.tab.n1, h.tab.n6⟩
/-! the next work list, as the program finds it -/
structure Nx (cs ks : List (List Int)) (w : List Int) (r : Int) (out : List Int) : Prop where
  len : out.length = w.length
  far : ∀ i, i < w.length → out.getD i 0 ≤ 1073741824
  low : ∀ i, i < w.length → ∀ q, q < cs.length → F_slices_Contains_Sint_int (cs.getD q []) r = true → out.getD i 0 ≤ w.getD q 0 + (ks.getD q []).getD i 0
  hit : ∀ i, i < w.length → out.getD i 0 = 1073741824 ∨ ∃ q, q < cs.length ∧ F_slices_Contains_Sint_int (cs.getD q []) r = true ∧ out.getD i 0 = w.getD q 0 + (ks.getD q []).getD i 0
/-! the next work list, as the reference finds it -/
theorem getD_app_lt {a : List Int} {v : Int} {i : Nat} (h : i < a.length) : (a ++ [v]).getD i 0 = a.getD i 0 := by
  rw [List.getD_eq_getElem?_getD, List.getD_eq_getElem?_getD, List.getElem?_append_left h]
theorem getD_app_eq {a : List Int} {v : Int} {i : Nat} (h : i = a.length) : (a ++ [v]).getD i 0 = v := by
  subst h; simp
/-! they are the same -/
end Go.Proofs.Ytcmhgkcifejgcaa
namespace Go.Proofs.Ytcmhgkcifejgcaa
set_option linter.unusedVariables false
set_option linter.unusedSimpArgs false

/-! the first work list -/
/-! a step -/
/-! growth -/
theorem growth_fold (g : Nat → Int) : ∀ n i s, foldFrom (fun i s => F_spec_l1Most s (g i)) i n s = foldFrom (fun i s => max s (g i)) i n s
  | 0, _, _ => rfl
  | n + 1, i, s => by rw [foldFrom, foldFrom, l1Most_eq, growth_fold g n]
/-! a value -/
/-! the lists -/
def Rws (cs out : List (List Int)) : Prop := ∀ j, j < out.length → (out.getD j []).length = cs.length ∧ ∀ i, 0 ≤ (out.getD j []).getD i 0 ∧ (out.getD j []).getD i 0 ≤ 1073741824
theorem getDD_app_lt {a : List (List Int)} {v : List Int} {i : Nat} (h : i < a.length) : (a ++ [v]).getD i [] = a.getD i [] := by
  rw [List.getD_eq_getElem?_getD, List.getD_eq_getElem?_getD, List.getElem?_append_left h]
theorem getDD_app_eq {a : List (List Int)} {v : List Int} {i : Nat} (h : i = a.length) : (a ++ [v]).getD i [] = v := by
  subst h; simp
theorem Rws.one {cs : List (List Int)} {x : List Int} (h : x.length = cs.length) (hb : ∀ i, 0 ≤ x.getD i 0 ∧ x.getD i 0 ≤ 1073741824) : Rws cs [x] := fun j hj => by
  have : j = 0 := by simpa using hj
  subst this; exact ⟨h, hb⟩
theorem Rws.push {cs out : List (List Int)} (h : Rws cs out) {x : List Int} (hx : x.length = cs.length ∧ ∀ i, 0 ≤ x.getD i 0 ∧ x.getD i 0 ≤ 1073741824) : Rws cs (out ++ [x]) := fun j hj => by
  simp only [List.length_append, List.length_cons, List.length_nil] at hj
  by_cases e : j < out.length
  · rw [getDD_app_lt e]; exact h j e
  · rw [getDD_app_eq (by omega)]; exact hx
theorem Wd.row0 {cs ks : List (List Int)} (h : Wd cs ks) {i : Int} (h0 : 0 ≤ i ∧ i < cs.length) : Rws cs [ks.getD i.toNat []] :=
  Rws.one (h.row _ (by rw [h.len]; omega)) (fun j => by have := h.el i.toNat j; omega)
theorem served_tri {m : List (List Int)} {a reqs : List Int} (h : F_impl_isServed m a reqs = true) : ∀ x y z, x < m.length → y < m.length → z < m.length → el m x z ≤ el m x y + el m y z :=
  ((isMetric_iff m).1 (by rw [isMetric_eq]; exact ((isServed_iff m a reqs).1 h).1)).2
theorem served_or (m : List (List Int)) (a reqs : List Int) : ((!(F_spec_l6Good m)) || (!(F_spec_l6Start m a reqs))) = !(F_impl_isServed m a reqs) := by
  rw [← served_eq]
  cases h : F_impl_isServed m a reqs with
  | false => simp
  | true => rw [((isServed_iff m a reqs).1 h).1]; rfl
/-! the least value -/
end Go.Proofs.Ytcmhgkcifejgcaa
namespace Go.Proofs.Ytcmhgkcifejgcaa
set_option linter.unusedVariables false
set_option linter.unusedSimpArgs false
open Go Go.RowKit

theorem rep_bd {n : Nat} (h : n ≤ 1000000) : ∀ i, 0 ≤ (F_slices_Repeat_Sint_int [1073741824] (n : Int)).getD i 0 ∧ (F_slices_Repeat_Sint_int [1073741824] (n : Int)).getD i 0 ≤ 1073741824 := fun i => by
  rw [repeat_eq _ _ (by omega) (by omega), Int.toNat_natCast]
  by_cases hi : i < n
  · rw [getD_rep _ _ _ _ hi]; omega
  · rw [getD_ge _ _ _ (by rw [List.length_replicate]; omega)]; omega
theorem set_bd {o : List Int} {B v : Int} {k : Nat} (h : ∀ i, 0 ≤ o.getD i 0 ∧ o.getD i 0 ≤ B) (hv : 0 ≤ v ∧ v ≤ B) : ∀ i, 0 ≤ (o.set k v).getD i 0 ∧ (o.set k v).getD i 0 ≤ B := fun i => by
  by_cases e : k = i
  · subst e
    by_cases hk : k < o.length
    · rw [getD_set_eq _ _ _ _ hk]; exact hv
    · rw [getD_ge _ _ _ (by rw [List.length_set]; omega)]; omega
  · rw [getD_set_ne _ _ _ _ _ e]; exact h i
theorem good_ks {m : List (List Int)} {a : List Int} (h : ((!(F_spec_l6Good m)) || (!(F_spec_l6Config (m.length : Int) a))) = false) : Ks m (a.length : Int) ∧ Cf m.length a := by
  simp only [Bool.or_eq_false_iff, Bool.not_eq_false'] at h
  have hc := (l6Config_iff _ _).1 h.2
  exact ⟨⟨((l6Good_iff m).1 h.1).1, l6Good_t h.1, by have := hc.n1; omega, by have := hc.n3; omega⟩, hc⟩
/-! the sum of the distances to a point -/
theorem fold_sub (g : Nat → Int) : ∀ n i (v c : Int), foldFrom (fun s acc => acc - g s) i n (v - c) = v - foldFrom (fun s acc => acc + g s) i n c
  | 0, _, _, _ => rfl
  | n + 1, i, v, c => by
    rw [foldFrom, foldFrom, show v - c - g i = v - (c + g i) by omega, fold_sub g n]
end Go.Proofs.Ytcmhgkcifejgcaa
namespace Go.Proofs.Ytcmhgkcifejgcaa
set_option linter.unusedVariables false
set_option linter.unusedSimpArgs false

theorem concat_eq (a b : List Int) : F_slices_Concat_Sint_int [a, b] = a ++ b := by
  unfold F_slices_Concat_Sint_int
  have h1 : ∃ s, F_slices_Concat_Sint_int_L1 [a, b] (([a, b] : List (List Int)).length - 0 + 1) (0, 0) = .next s := by
    show ∃ s, F_slices_Concat_Sint_int_L1 [a, b] (2 + 1) (0, 0) = .next s
    rw [F_slices_Concat_Sint_int_L1_s, decide_eq_true (by simp), cond_true, decide_eq_false (by omega), cond_false, F_slices_Concat_Sint_int_L1_s, decide_eq_true (by simp), cond_true, decide_eq_false (by omega), cond_false, F_slices_Concat_Sint_int_L1_s, decide_eq_false (by simp), cond_false]
    exact ⟨_, rfl⟩
  obtain ⟨s, h1⟩ := h1
  rw [h1]
  simp only [elim_next]
  show ((F_slices_Concat_Sint_int_L2 [a, b] (2 + 1) ([], 0)).elim _ _) = _
  rw [F_slices_Concat_Sint_int_L2_s, decide_eq_true (by simp), cond_true, F_slices_Concat_Sint_int_L2_s, decide_eq_true (by simp), cond_true, F_slices_Concat_Sint_int_L2_s, decide_eq_false (by simp), cond_false]
  rfl
theorem concat_len (a b : List Int) : (F_slices_Concat_Sint_int [a, b]).length = a.length + b.length := by rw [concat_eq, List.length_append]
theorem point_app (a b : List Int) (l : Nat) : F_spec_l7Point a b (l : Int) = (a ++ b).getD l 0 := by
  unfold F_spec_l7Point
  by_cases h : l < a.length
  · rw [decide_eq_true (by omega), cond_true, Int.toNat_natCast, List.getD_eq_getElem?_getD, List.getD_eq_getElem?_getD, List.getElem?_append_left h]
  · rw [decide_eq_false (by omega), cond_false, List.getD_eq_getElem?_getD, List.getD_eq_getElem?_getD, List.getElem?_append_right (by omega)]
    congr 2; omega
theorem app_el {n : Nat} {a b : List Int} (ha : ∀ i, i < a.length → 0 ≤ a.getD i 0 ∧ a.getD i 0 < n) (hb : ∀ i, i < b.length → 0 ≤ b.getD i 0 ∧ b.getD i 0 < n) (l : Nat) (h : l < a.length + b.length) : 0 ≤ (a ++ b).getD l 0 ∧ (a ++ b).getD l 0 < n := by
  rw [List.getD_eq_getElem?_getD, List.getElem?_append]
  by_cases hl : l < a.length
  · rw [if_pos hl, ← List.getD_eq_getElem?_getD]; exact ha l hl
  · rw [if_neg hl, ← List.getD_eq_getElem?_getD]; exact hb _ (by omega)
theorem concat_el {m : List (List Int)} {a reqs : List Int} (h : Sv m a reqs) (l : Nat) (hl : l < a.length + reqs.length) : 0 ≤ (F_slices_Concat_Sint_int [a, reqs]).getD l 0 ∧ (F_slices_Concat_Sint_int [a, reqs]).getD l 0 < m.length := by
  rw [concat_eq]; exact app_el h.cf.el h.el l hl
theorem take_getD {α : Type} (l : List α) (n i : Nat) (d : α) (h : i < n) : (l.take n).getD i d = l.getD i d := by
  rw [List.getD_eq_getElem?_getD, List.getD_eq_getElem?_getD, List.getElem?_take, if_pos h]

/-! the costs of a flow -/
def gap (m : List (List Int)) (a reqs : List Int) (k i : Nat) : Int := el m ((a ++ reqs).getD k 0).toNat (reqs.getD i 0).toNat
theorem gap_eq (m : List (List Int)) (a reqs : List Int) (l i : Nat) : F_spec_l7Gap m a reqs (l : Int) (i : Int) = gap m a reqs l i := by
  unfold F_spec_l7Gap gap
  rw [point_app, Int.toNat_natCast]
theorem flow_L2 (m : List (List Int)) (a reqs : List Int) (i : Nat) (hi : i < reqs.length) : ∀ fuel k out, a.length + i - k < fuel → out.length = a.length + reqs.length → ∃ k' out', F_impl_flowOf_L2 m a reqs i fuel (k, out) = .next (k', out') ∧ out'.length = a.length + reqs.length ∧
    ∀ q, q < a.length + reqs.length → out'.getD q 0 = if k ≤ q ∧ q < a.length + i then gap m a reqs q i else out.getD q 0 := by
  have hlen : (((F_slices_Concat_Sint_int [a, reqs]).take (a.length + i)).drop 0).length = a.length + i := by rw [List.drop_zero, List.length_take, concat_len]; omega
  intro fuel
  induction fuel with
  | zero => intro k out h; omega
  | succ mf ih =>
    intro k out h hl
    rw [F_impl_flowOf_L2_s, hlen]
    by_cases hk : (k : Int) < ((a.length + i : Nat) : Int)
    · rw [decide_eq_true hk, cond_true]
      obtain ⟨k', out', h1, h2, h3⟩ := ih (k + 1) (out.set k ((m.getD ((((F_slices_Concat_Sint_int [a, reqs]).take (a.length + i)).drop 0).getD k 0).toNat []).getD (reqs.getD i 0).toNat 0)) (by omega) (by rw [List.length_set]; exact hl)
      refine ⟨k', out', h1, h2, fun q hq => ?_⟩
      rw [h3 q hq]
      by_cases e : q = k
      · subst e
        rw [if_neg (by omega), if_pos ⟨Nat.le_refl _, by omega⟩, getD_set_eq _ _ _ _ (by omega), List.drop_zero, take_getD _ _ _ _ (by omega), concat_eq]
        rfl
      · rw [getD_set_ne _ _ _ _ _ (Ne.symm e)]
        by_cases e2 : k ≤ q ∧ q < a.length + i
        · rw [if_pos ⟨by omega, e2.2⟩, if_pos e2]
        · rw [if_neg (by omega), if_neg e2]
    · rw [decide_eq_false hk, cond_false]
      exact ⟨k, out, rfl, hl, fun q hq => by rw [if_neg (by omega)]⟩
/-- The costs of a flow: each row of a place. -/
structure Fw (m : List (List Int)) (a reqs : List Int) (n : Nat) (cs : List (List Int)) : Prop where
  len : cs.length = n
  row : ∀ i, i < n → (cs.getD i []).length = a.length + reqs.length
  el : ∀ i q, i < n → q < a.length + reqs.length → (cs.getD i []).getD q 0 = if q < a.length + i then gap m a reqs q i else 1073741824
theorem flow_L1 {m : List (List Int)} {a reqs : List Int} (hs : a.length ≤ 3 ∧ reqs.length ≤ 60) : ∀ fuel i out, reqs.length - i < fuel → i ≤ reqs.length → Fw m a reqs i out → ∃ i' out', F_impl_flowOf_L1 m a reqs fuel (i, out) = .next (i', out') ∧ Fw m a reqs reqs.length out' := by
  intro fuel
  induction fuel with
  | zero => intro i out h; omega
  | succ mf ih =>
    intro i out h hi hf
    rw [F_impl_flowOf_L1_s]
    by_cases hlt : (i : Int) < (reqs.length : Int)
    · have hlen : (((F_slices_Concat_Sint_int [a, reqs]).take (a.length + i)).drop 0).length = a.length + i := by rw [List.drop_zero, List.length_take, concat_len]; omega
      have hrl : (F_slices_Repeat_Sint_int [1073741824] ((F_slices_Concat_Sint_int [a, reqs]).length : Int)) = List.replicate (a.length + reqs.length) 1073741824 := by
        rw [repeat_eq _ _ (by omega) (by rw [concat_len]; omega), Int.toNat_natCast, concat_len]
      rw [decide_eq_true hlt, cond_true, hlen, hrl]
      obtain ⟨k', o1, h1, h2, h3⟩ := flow_L2 m a reqs i (by omega) (a.length + i - 0 + 1) 0 (List.replicate (a.length + reqs.length) 1073741824) (by omega) (by simp)
      rw [h1]
      simp only [elim_next]
      refine ih (i + 1) _ (by omega) (by omega) ⟨by simp [hf.len], fun j hj => ?_, fun j q hj hq => ?_⟩
      · by_cases e : j < i
        · rw [getDD_app_lt (by rw [hf.len]; exact e)]; exact hf.row j e
        · rw [getDD_app_eq (by rw [hf.len]; omega)]; exact h2
      · by_cases e : j < i
        · rw [getDD_app_lt (by rw [hf.len]; exact e)]; exact hf.el j q e hq
        · have e' : j = i := by omega
          subst e'
          rw [getDD_app_eq (by rw [hf.len]), h3 q hq, getD_rep _ _ _ _ hq]
          by_cases e2 : q < a.length + j
          · rw [if_pos ⟨Nat.zero_le _, e2⟩, if_pos e2]
          · rw [if_neg (fun h => e2 h.2), if_neg e2]
    · rw [decide_eq_false hlt, cond_false]
      have e : i = reqs.length := by omega
      exact ⟨i, out, rfl, e ▸ hf⟩
theorem flowOf_fw {m : List (List Int)} {a reqs : List Int} (hs : a.length ≤ 3 ∧ reqs.length ≤ 60) : Fw m a reqs reqs.length (F_impl_flowOf m a reqs).2 ∧ (F_impl_flowOf m a reqs).1 = (a.length : Int) := by
  obtain ⟨i', out', h1, h2⟩ := flow_L1 (m := m) hs (reqs.length - 0 + 1) 0 [] (by omega) (Nat.zero_le _) ⟨rfl, fun i h => by omega, fun i q h => by omega⟩
  unfold F_impl_flowOf
  rw [h1]
  exact ⟨h2, rfl⟩
theorem flow_bd {m : List (List Int)} {a reqs : List Int} (h : Sv m a reqs) : (F_impl_flowOf m a reqs).2.length = reqs.length ∧ (∀ i, i < reqs.length → ((F_impl_flowOf m a reqs).2.getD i []).length = a.length + reqs.length) ∧ ∀ i q, 0 ≤ ((F_impl_flowOf m a reqs).2.getD i []).getD q 0 ∧ ((F_impl_flowOf m a reqs).2.getD i []).getD q 0 ≤ 1073741824 := by
  obtain ⟨hf, _⟩ := flowOf_fw (m := m) (a := a) (reqs := reqs) ⟨h.cf.n3, h.r60⟩
  refine ⟨hf.len, hf.row, fun i q => ?_⟩
  by_cases hi : i < reqs.length
  · by_cases hq : q < a.length + reqs.length
    · rw [hf.el i q hi hq]
      split
      · have := el_bd h.tp ((a ++ reqs).getD q 0).toNat (reqs.getD i 0).toNat
        unfold gap; omega
      · omega
    · rw [getD_ge ((F_impl_flowOf m a reqs).2.getD i []) q 0 (by rw [hf.row i hi]; omega)]; omega
  · rw [getD_ge (F_impl_flowOf m a reqs).2 i [] (by rw [hf.len]; omega), getD_ge [] q 0 (Nat.zero_le _)]; omega

/-! prices -/
theorem getD_bd {l : List Int} {B : Int} (hB : 0 ≤ B) (h : ∀ i, i < l.length → 0 ≤ l.getD i 0 ∧ l.getD i 0 ≤ B) (i : Nat) : 0 ≤ l.getD i 0 ∧ l.getD i 0 ≤ B := by
  by_cases hi : i < l.length
  · exact h i hi
  · rw [getD_ge _ _ _ (by omega)]; omega
theorem small_bd {l : List Int} (h : ∀ i, i < l.length → 0 ≤ l.getD i 0 ∧ l.getD i 0 < 100000) (i : Nat) : 0 ≤ l.getD i 0 ∧ l.getD i 0 ≤ 99999 := getD_bd (by omega) (fun i hi => by have := h i hi; omega) i
def rentOf (m : List (List Int)) (a reqs prices : List Int) (k : Nat) : Int := foldFrom (fun i s => max s (bif decide (k < a.length + i) then prices.getD i 0 - gap m a reqs k i else s)) 0 reqs.length 0
end Go.Proofs.Ytcmhgkcifejgcaa
namespace Go.Proofs.Ytcmhgkcifejgcaa
set_option linter.unusedVariables false
set_option linter.unusedSimpArgs false

/-! the support -/
/-! work lists from a support -/
/-- What is known of a support. -/
structure Ls (m cs : List (List Int)) (vs : List Int) : Prop where
  ks : Ks m ((cs.getD 0 []).length : Int)
  n1 : 1 ≤ cs.length
  n56 : cs.length ≤ 56
  vl : vs.length = cs.length
  cf : ∀ i, i < cs.length → Cf m.length (cs.getD i []) ∧ (cs.getD i []).length = (cs.getD 0 []).length
  el : ∀ i, 0 ≤ vs.getD i 0 ∧ vs.getD i 0 ≤ 99999
theorem ls_of {m cs : List (List Int)} {vs : List Int} (h1 : F_spec_l6Good m = true) (h2 : 1 ≤ cs.length ∧ cs.length ≤ 56) (h3 : vs.length = cs.length)
    (h4 : ∀ i, i < cs.length → ((cs.getD i []).length = (cs.getD 0 []).length ∧ Cf m.length (cs.getD i [])) ∧ 0 ≤ vs.getD i 0 ∧ vs.getD i 0 < 100000) : Ls m cs vs := by
  have hc := (h4 0 (by omega)).1.2
  refine ⟨⟨((l6Good_iff m).1 h1).1, l6Good_t h1, by have := hc.n1; omega, by have := hc.n3; omega⟩, h2.1, h2.2, h3, fun i hi => ⟨(h4 i hi).1.2, (h4 i hi).1.1⟩, fun i => ?_⟩
  by_cases hi : i < vs.length
  · have := (h4 i (by omega)).2; omega
  · rw [getD_ge _ _ _ (by omega)]; omega
end Go.Proofs.Ytcmhgkcifejgcaa
namespace Go.Proofs.Ytcmhgkcifejgcaa
set_option linter.unusedVariables false
set_option linter.unusedSimpArgs false

/-! the tables of what is left -/
/-! the schedule -/
end Go.Proofs.Ytcmhgkcifejgcaa
namespace Go.Proofs.Ytcmhgkcifejgcaa
set_option linter.unusedVariables false
set_option linter.unusedSimpArgs false
open Go Go.RowKit

/-- Rows behind a place have a length, their values are small. -/
def Ltr (n : Nat) (k : Int) (L : Nat) (t : List (List Int)) : Prop := ∀ q : Nat, k < (q : Int) → q ≤ L → (t.getD q []).length = n ∧ ∀ p, 0 ≤ (t.getD q []).getD p 0 ∧ (t.getD q []).getD p 0 ≤ 1073741824
theorem rep0_bd (n p : Nat) : 0 ≤ (List.replicate n (0 : Int)).getD p 0 ∧ (List.replicate n (0 : Int)).getD p 0 ≤ 0 := by
  by_cases hp : p < n
  · rw [getD_rep _ _ _ _ hp]; omega
  · rw [getD_ge _ _ _ (by simp; omega)]; omega
theorem ltr_init (n L : Nat) : Ltr n ((L : Int) - 1) L ((List.replicate (L + 1) ([] : List Int)).set L (List.replicate n (0 : Int))) := fun q h1 h2 => by
  have e : q = L := by omega
  subst e
  rw [getD_set_eq _ _ _ _ (by simp)]
  exact ⟨by simp, fun p => by have := rep0_bd n p; omega⟩
theorem Ltr.set {n L : Nat} {k : Int} {t : List (List Int)} (h : Ltr n k L t) (hk : 0 ≤ k) (hl : k < t.length) {r : List Int} (hr : r.length = n ∧ ∀ p, 0 ≤ r.getD p 0 ∧ r.getD p 0 ≤ 1073741824) : Ltr n (k - 1) L (t.set k.toNat r) := fun q h1 h2 => by
  by_cases e : q = k.toNat
  · subst e; rw [getD_set_eq _ _ _ _ (by omega)]; exact hr
  · rw [getD_set_ne _ _ _ _ _ (Ne.symm e)]; exact h q (by omega) h2
theorem flow_pt {m : List (List Int)} {a reqs : List Int} (h : Sv m a reqs) {i : Nat} (hi : i ≤ reqs.length) (k : Nat) (hk : k < a.length + i) : 0 ≤ (((F_slices_Concat_Sint_int ([a, reqs])).take (a.length + i)).drop 0).getD k 0 ∧ (((F_slices_Concat_Sint_int ([a, reqs])).take (a.length + i)).drop 0).getD k 0 < m.length := by
  rw [List.drop_zero, take_getD _ _ _ _ hk]
  exact concat_el h k (by omega)
theorem flow_ln (a reqs : List Int) {i : Nat} (hi : i ≤ reqs.length) : (((F_slices_Concat_Sint_int ([a, reqs])).take (a.length + i)).drop 0).length = a.length + i := by
  rw [List.drop_zero, List.length_take, concat_len]; omega
theorem total_two (a b : List Int) : total [a, b] = a.length + b.length := by simp [total]
/-- What has been gathered of the support. -/
theorem gat_push {α : Type} (d : α) (f : Nat → α) {own : List Int} {i : Nat} {u : List α} (h : u = (own.take i).map (fun z => f z.toNat)) (hi : i < own.length) : u ++ [f (own.getD i 0).toNat] = (own.take (i + 1)).map (fun z => f z.toNat) := by
  rw [h, List.take_succ_eq_append_getElem hi, List.map_append, getD_lt own i 0 hi]; rfl
/-! the reference's table -/
def Zr (cs : List (List Int)) (n : Nat) (out : List (List Int)) : Prop := ∀ j, j < out.length → (out.getD j []).length = cs.length ∧ ∀ p, 0 ≤ (out.getD j []).getD p 0 ∧ (out.getD j []).getD p 0 ≤ 99 * ((n : Int) - j)
theorem Zr.nil (cs : List (List Int)) (n : Nat) : Zr cs n [] := fun j hj => absurd hj (by simp)
theorem Zr.push {cs : List (List Int)} {n : Nat} {out : List (List Int)} (h : Zr cs n out) (hn : out.length ≤ n) : Zr cs n (out ++ [List.replicate cs.length (0 : Int)]) := fun j hj => by
  simp only [List.length_append, List.length_cons, List.length_nil] at hj
  by_cases e : j < out.length
  · rw [getDD_app_lt e]; exact h j e
  · rw [getDD_app_eq (by omega)]
    exact ⟨by simp, fun p => by have := rep0_bd cs.length p; omega⟩
theorem Zr.set {cs : List (List Int)} {n : Nat} {out : List (List Int)} (h : Zr cs n out) {t p : Nat} (ht : t < out.length) {v : Int} (hv : 0 ≤ v ∧ v ≤ 99 * ((n : Int) - t)) : Zr cs n (out.set t ((out.getD t []).set p v)) := fun j hj => by
  rw [List.length_set] at hj
  by_cases e : j = t
  · subst e
    rw [getD_set_eq _ _ _ _ hj]
    exact ⟨by rw [List.length_set]; exact (h j hj).1, set_bd (h j hj).2 hv⟩
  · rw [getD_set_ne _ _ _ _ _ (Ne.symm e)]; exact h j hj
theorem gap_bd {m : List (List Int)} {a reqs : List Int} (h : Sv m a reqs) {l i : Int} (_hl : 0 ≤ l) (_hi : 0 ≤ i) : 0 ≤ F_spec_l7Gap m a reqs l i ∧ F_spec_l7Gap m a reqs l i ≤ 99 := el_bd h.tp _ _
theorem markIntSS_fst2 (a : List (List Int)) (k : Int) : (F_laws_markIntSS a k).1 = k + total a := by rw [markIntSS_eq]
end Go.Proofs.Ytcmhgkcifejgcaa
namespace Go.Proofs.Ytcmhgkcifejgcaa
set_option linter.unusedVariables false
set_option linter.unusedSimpArgs false
open Go Go.RowKit
set_option linter.unusedVariables false

theorem gap_any {m : List (List Int)} {a reqs : List Int} (h : Sv m a reqs) (l i : Int) : 0 ≤ F_spec_l7Gap m a reqs l i ∧ F_spec_l7Gap m a reqs l i ≤ 99 := by
  unfold F_spec_l7Gap
  exact el_bd h.tp _ _
theorem gap_all {m : List (List Int)} {a reqs : List Int} (h : Sv m a reqs) (l i : Nat) : 0 ≤ gap m a reqs l i ∧ gap m a reqs l i ≤ 99 := by
  have := gap_any h (l : Int) (i : Int)
  rwa [gap_eq] at this
structure Rq (m : List (List Int)) (a reqs before holders : List Int) (p r : Nat → Int) : Prop where
  sv : Sv m a reqs
  ir : before.length < reqs.length
  pre : Th.Pre before.length a.length (a.length + reqs.length) (fun l x => gap m a reqs l x) before holders p r
section
variable {m : List (List Int)} {a reqs before holders : List Int} {p r : Nat → Int} {far frm : List Int}
theorem hold_d (h : holders.length = a.length + before.length) {l : Nat} (hl : l < a.length + before.length) : holders.getD l 0 = holders.getD l (-1) := by
  rw [getD_lt _ _ _ (by omega), getD_lt _ _ _ (by omega)]
theorem Rq.hold (h : Rq m a reqs before holders p r) (l : Nat) : l < a.length + before.length → -1 ≤ holders.getD l 0 ∧ holders.getD l 0 < before.length := fun hl => by
  rw [hold_d h.pre.lh hl]
  have h1 := h.pre.h3 l
  refine ⟨h1, ?_⟩
  by_cases h2 : 0 ≤ holders.getD l (-1)
  · have := (h.pre.h2 l (holders.getD l (-1)).toNat (by omega)).1; omega
  · omega
theorem Rq.init (h : Rq m a reqs before holders p r) (hl : far.length = before.length + 1) (hf : ∀ x, x ≤ before.length → far.getD x 0 = if x < before.length then 1099511627776 else 0) :
    Th.Bf before.length a.length (fun l x => gap m a reqs l x) holders p far (List.replicate (before.length + 1) 0) := Th.Bf.init h.pre hl hf (by simp)
theorem Rq.step (h : Rq m a reqs before holders p r) (hB : Th.Bf before.length a.length (fun l x => gap m a reqs l x) holders p far frm) {x l : Nat} (hx : x ≤ before.length) (hl : l < a.length + x)
    (hz : far.getD x 0 < 1099511627776) (hh : 0 ≤ holders.getD l 0)
    (hd : (far.getD x 0 + F_spec_l7Gap m a reqs (l : Int) (x : Int)) - F_spec_l7Gap m a reqs (l : Int) (holders.getD l 0) < far.getD (holders.getD l 0).toNat 0) :
    Th.Bf before.length a.length (fun l x => gap m a reqs l x) holders p (far.set (holders.getD l 0).toNat ((far.getD x 0 + F_spec_l7Gap m a reqs (l : Int) (x : Int)) - F_spec_l7Gap m a reqs (l : Int) (holders.getD l 0))) (frm.set (holders.getD l 0).toNat (x : Int)) ∧
    Th.lsum (far.set (holders.getD l 0).toNat ((far.getD x 0 + F_spec_l7Gap m a reqs (l : Int) (x : Int)) - F_spec_l7Gap m a reqs (l : Int) (holders.getD l 0))) < Th.lsum far := by
  have hv := h.hold l (by omega)
  have e : holders.getD l 0 = (((holders.getD l 0).toNat : Nat) : Int) := by omega
  have e2 : holders.getD l (-1) = (((holders.getD l 0).toNat : Nat) : Int) := by rw [← hold_d h.pre.lh (by omega)]; exact e
  have e3 : F_spec_l7Gap m a reqs (l : Int) (holders.getD l 0) = gap m a reqs l (holders.getD l 0).toNat := by rw [← gap_eq, ← e]
  rw [e3, gap_eq] at hd ⊢
  refine ⟨hB.step h.pre.eb hx hl e2 hz hd, ?_⟩
  have hlf := hB.lf
  rw [Th.lsum_set _ _ _ (by omega)]; omega
theorem reach_fill {k : Nat} (hl : far.length = before.length + 1) (hf : ∀ x, x ≤ before.length → far.getD x 0 = if x < k then 1099511627776 else 0) :
    ∀ x, x ≤ before.length → (far.set k 1099511627776).getD x 0 = if x < k + 1 then 1099511627776 else 0 := fun x hx => by
  by_cases e : x = k
  · subst e; rw [getD_set_eq _ _ _ _ (by omega), if_pos (by omega)]
  · rw [getD_set_ne _ _ _ _ _ (Ne.symm e), hf x hx]
    by_cases h1 : x < k
    · rw [if_pos h1, if_pos (by omega)]
    · rw [if_neg h1, if_neg (by omega)]
/-- No nearer way by the first places, and by the first columns of the next. -/
def Dn (m : List (List Int)) (a reqs before holders far : List Int) (x0 l0 : Nat) : Prop :=
  ∀ x l v : Nat, x ≤ before.length → l < a.length + x → (x < x0 ∨ (x = x0 ∧ l < l0)) → far.getD x 0 < 1099511627776 → holders.getD l (-1) = (v : Int) → far.getD v 0 ≤ far.getD x 0 + gap m a reqs l x - gap m a reqs l v
theorem reach_L4 (h : Rq m a reqs before holders p r) {x : Nat} (hx : x ≤ before.length) {far0 frm0 : List Int} : ∀ (fuel l : Nat) (b : Bool) (far frm : List Int), a.length + x - l < fuel → l ≤ a.length + x →
    Th.Bf before.length a.length (fun l x => gap m a reqs l x) holders p far frm → Th.Rnd b far far0 → (b = false → frm = frm0 ∧ Dn m a reqs before holders far x l) →
    ∃ b' l' far' frm', F_spec_l7Reach_L4 m a reqs holders x fuel (b, l, frm, far) = .next (b', l', frm', far') ∧
      Th.Bf before.length a.length (fun l x => gap m a reqs l x) holders p far' frm' ∧ Th.Rnd b' far' far0 ∧ (b' = false → frm' = frm0 ∧ Dn m a reqs before holders far' (x + 1) 0) := by
  intro fuel
  induction fuel with
  | zero => intro l b far frm hf; omega
  | succ mf ih =>
    intro l b far frm hf hl hB hR hD
    rw [F_spec_l7Reach_L4_s]
    by_cases hc : ((l : Int) < (a.length : Int) + (x : Int)) ∧ far.getD x 0 < 1099511627776
    · rw [decide_eq_true hc.1, decide_eq_true hc.2, Bool.and_true, cond_true]
      by_cases hh : 0 ≤ holders.getD l 0
      · rw [decide_eq_true hh, Bool.true_and]
        by_cases hd : (far.getD x 0 + F_spec_l7Gap m a reqs (l : Int) (x : Int)) - F_spec_l7Gap m a reqs (l : Int) (holders.getD l 0) < far.getD (holders.getD l 0).toNat 0
        · rw [decide_eq_true hd, cond_true]
          have hst := h.step hB hx (by omega) hc.2 hh hd
          exact ih (l + 1) true _ _ (by omega) (by omega) hst.1 (hR.up hst.2) (fun hb => by cases hb)
        · rw [decide_eq_false hd, cond_false]
          refine ih (l + 1) b far frm (by omega) (by omega) hB hR fun hb => ⟨(hD hb).1, fun y l' v hy hl' hs hz hv => ?_⟩
          rcases hs with hs | ⟨hs, hs2⟩
          · exact (hD hb).2 y l' v hy hl' (.inl hs) hz hv
          · subst hs
            by_cases e : l' = l
            · subst e
              have e1 : holders.getD l' 0 = (v : Int) := by rw [hold_d h.pre.lh (by omega)]; exact hv
              rw [e1, gap_eq, gap_eq, Int.toNat_natCast] at hd
              omega
            · exact (hD hb).2 y l' v hy hl' (.inr ⟨rfl, by omega⟩) hz hv
      · rw [decide_eq_false hh, Bool.false_and, cond_false]
        refine ih (l + 1) b far frm (by omega) (by omega) hB hR fun hb => ⟨(hD hb).1, fun y l' v hy hl' hs hz hv => ?_⟩
        rcases hs with hs | ⟨hs, hs2⟩
        · exact (hD hb).2 y l' v hy hl' (.inl hs) hz hv
        · subst hs
          by_cases e : l' = l
          · subst e
            have e1 : holders.getD l' 0 = (v : Int) := by rw [hold_d h.pre.lh (by omega)]; exact hv
            omega
          · exact (hD hb).2 y l' v hy hl' (.inr ⟨rfl, by omega⟩) hz hv
    · have hcf : ((decide ((l : Int) < (a.length : Int) + (x : Int))) && (decide (far.getD x 0 < 1099511627776))) = false := by
        rw [Bool.eq_false_iff]; intro hh; rw [Bool.and_eq_true, decide_eq_true_eq, decide_eq_true_eq] at hh; exact hc hh
      rw [hcf, cond_false]
      refine ⟨b, l, far, frm, rfl, hB, hR, fun hb => ⟨(hD hb).1, fun y l' v hy hl' hs hz hv => ?_⟩⟩
      rcases hs with hs | ⟨hs, hs2⟩
      · by_cases e : y = x
        · subst e
          have : ¬ ((l : Int) < (a.length : Int) + (y : Int)) := fun h1 => hc ⟨h1, hz⟩
          exact (hD hb).2 y l' v hy hl' (.inr ⟨rfl, by omega⟩) hz hv
        · exact (hD hb).2 y l' v hy hl' (.inl (by omega)) hz hv
      · omega
theorem reach_L3 (h : Rq m a reqs before holders p r) {far0 frm0 : List Int} : ∀ (fuel x : Nat) (b : Bool) (far frm : List Int), before.length + 1 - x < fuel → x ≤ before.length + 1 →
    Th.Bf before.length a.length (fun l x => gap m a reqs l x) holders p far frm → Th.Rnd b far far0 → (b = false → frm = frm0 ∧ Dn m a reqs before holders far x 0) →
    ∃ b' x' far' frm', F_spec_l7Reach_L3 m a reqs before holders fuel (b, x, frm, far) = .next (b', x', frm', far') ∧
      Th.Bf before.length a.length (fun l x => gap m a reqs l x) holders p far' frm' ∧ Th.Rnd b' far' far0 ∧ (b' = false → frm' = frm0 ∧ Dn m a reqs before holders far' (before.length + 1) 0) := by
  intro fuel
  induction fuel with
  | zero => intro x b far frm hf; omega
  | succ mf ih =>
    intro x b far frm hf hx hB hR hD
    rw [F_spec_l7Reach_L3_s]
    by_cases hc : (x : Int) ≤ (before.length : Int)
    · rw [decide_eq_true hc, cond_true]
      obtain ⟨b', l', far', frm', h1, h2, h3, h4⟩ := reach_L4 h (x := x) (by omega) (far0 := far0) (frm0 := frm0) (a.length + x - 0 + 1) 0 b far frm (by omega) (by omega) hB hR hD
      rw [h1, elim_next]
      exact ih (x + 1) b' far' frm' (by omega) (by omega) h2 h3 h4
    · rw [decide_eq_false hc, cond_false]
      have e : x = before.length + 1 := by omega
      subst e
      exact ⟨b, _, far, frm, rfl, hB, hR, hD⟩
theorem reach_L2 (h : Rq m a reqs before holders p r) : ∀ (fuel : Nat) (b : Bool) (far frm : List Int), 2 * (Th.lsum far + 1000000).toNat + (bif b then 1 else 0) < fuel →
    Th.Bf before.length a.length (fun l x => gap m a reqs l x) holders p far frm → (b = false → Dn m a reqs before holders far (before.length + 1) 0) →
    ∃ b' far' frm', F_spec_l7Reach_L2 m a reqs before holders fuel (b, frm, far) = .next (b', frm', far') ∧ Th.Fin before.length a.length (fun l x => gap m a reqs l x) holders p far' frm' := by
  intro fuel
  induction fuel with
  | zero => intro b far frm hf; omega
  | succ mf ih =>
    intro b far frm hf hB hD
    rw [F_spec_l7Reach_L2_s]
    cases b with
    | true =>
      rw [cond_true] at hf ⊢
      obtain ⟨b', x', far', frm', h1, h2, h3, h4⟩ := reach_L3 h (far0 := far) (frm0 := frm) (before.length + 1 - 0 + 1) 0 false far frm (by omega) (by omega) hB (Th.Rnd.init _) (fun _ => ⟨rfl, fun x l v _ _ hs => by omega⟩)
      rw [h1, elim_next]
      dsimp only
      have hmu := h3.mu (h2.low h.pre).2
      exact ih b' far' frm' (by omega) h2 (fun hb => (h4 hb).2)
    | false =>
      rw [cond_false]
      exact ⟨false, far, frm, rfl, hB, fun x l v hx hl hz hv => hD rfl x l v hx hl (.inl (by omega)) hz hv⟩
theorem reach_L1 : ∀ (fuel k : Nat) (far : List Int), before.length - k < fuel → k ≤ before.length → far.length = before.length + 1 → (∀ x, x ≤ before.length → far.getD x 0 = if x < k then 1099511627776 else 0) →
    ∃ k' far', F_spec_l7Reach_L1 before fuel (k, far) = .next (k', far') ∧ far'.length = before.length + 1 ∧ ∀ x, x ≤ before.length → far'.getD x 0 = if x < before.length then 1099511627776 else 0 := by
  intro fuel
  induction fuel with
  | zero => intro k far hf; omega
  | succ mf ih =>
    intro k far hf hk hl hF
    rw [F_spec_l7Reach_L1_s]
    by_cases hc : (k : Int) < (before.length : Int)
    · rw [decide_eq_true hc, cond_true]
      exact ih (k + 1) _ (by omega) (by omega) (by rw [List.length_set]; exact hl) (reach_fill hl hF)
    · rw [decide_eq_false hc, cond_false]
      have e : k = before.length := by omega
      subst e
      exact ⟨_, far, rfl, hl, hF⟩
theorem reach_fin (h : Rq m a reqs before holders p r) : Th.Fin before.length a.length (fun l x => gap m a reqs l x) holders p (F_spec_l7Reach m a reqs before holders).1 (F_spec_l7Reach m a reqs before holders).2 := by
  unfold F_spec_l7Reach
  obtain ⟨k', far, h1, h2, h3⟩ := reach_L1 (before := before) (before.length - 0 + 1) 0 (List.replicate (before.length + 1) 0) (by omega) (Nat.zero_le _) (by simp) (fun x hx => by rw [getD_rep _ _ _ _ (by omega)]; rfl)
  rw [h1, elim_next]
  dsimp only
  obtain ⟨b', far', frm', h4, h5⟩ := reach_L2 h (2 * (Th.lsum far + 1000000).toNat + (bif true then 1 else 0) + 1) true far (List.replicate (before.length + 1) 0) (by omega) (h.init h2 h3) (fun hb => by cases hb)
  rw [h4, elim_next]
  exact h5
end
end Go.Proofs.Ytcmhgkcifejgcaa
namespace Go.Proofs.Ytcmhgkcifejgcaa
set_option linter.unusedVariables false
set_option linter.unusedSimpArgs false
open Go Go.RowKit
set_option linter.unusedVariables false

/-! who holds what -/
theorem holders_L1 (many : Nat) : ∀ (fuel l : Nat) (out : List Int), many - l < fuel → l ≤ many → out.length = many → (∀ x, x < l → out.getD x 0 = -1) →
    ∃ l' out', F_spec_l7Holders_L1 (many : Int) fuel (l, out) = .next (l', out') ∧ out'.length = many ∧ ∀ x, x < many → out'.getD x 0 = -1 := by
  intro fuel
  induction fuel with
  | zero => intro l out hf; omega
  | succ mf ih =>
    intro l out hf hl hlen h
    rw [F_spec_l7Holders_L1_s]
    by_cases hc : (l : Int) < (many : Int)
    · rw [decide_eq_true hc, cond_true]
      refine ih (l + 1) _ (by omega) (by omega) (by rw [List.length_set]; exact hlen) fun x hx => ?_
      by_cases e : x = l
      · subst e; rw [getD_set_eq _ _ _ _ (by omega)]
      · rw [getD_set_ne _ _ _ _ _ (Ne.symm e)]; exact h x (by omega)
    · rw [decide_eq_false hc, cond_false]
      have e : l = many := by omega
      subst e
      exact ⟨_, out, rfl, hlen, h⟩
/-- The first i are written down. -/
structure Hd (many : Nat) (before : List Int) (i : Nat) (out : List Int) : Prop where
  len : out.length = many
  h1 : ∀ x, x < i → out.getD (before.getD x 0).toNat 0 = (x : Int)
  h2 : ∀ l v : Nat, l < many → out.getD l 0 = (v : Int) → v < i ∧ (before.getD v 0).toNat = l
  h3 : ∀ l, l < many → -1 ≤ out.getD l 0
theorem holders_L2 (many : Nat) (before : List Int) (hb : ∀ i, i < before.length → 0 ≤ before.getD i 0 ∧ before.getD i 0 < many) (hi : ∀ x y, x < before.length → y < before.length → (before.getD x 0).toNat = (before.getD y 0).toNat → x = y) :
    ∀ (fuel i : Nat) (out : List Int), before.length - i < fuel → i ≤ before.length → Hd many before i out → ∃ i' out', F_spec_l7Holders_L2 before fuel (i, out) = .next (i', out') ∧ Hd many before before.length out' := by
  intro fuel
  induction fuel with
  | zero => intro i out hf; omega
  | succ mf ih =>
    intro i out hf hil h
    rw [F_spec_l7Holders_L2_s]
    by_cases hc : (i : Int) < (before.length : Int)
    · rw [decide_eq_true hc, cond_true]
      have hbi := hb i (by omega)
      have hlen := h.len
      refine ih (i + 1) _ (by omega) (by omega) ⟨by rw [List.length_set]; exact hlen, fun x hx => ?_, fun l v hl hv => ?_, fun l hl => ?_⟩
      · by_cases e : x = i
        · subst e; rw [getD_set_eq _ _ _ _ (by omega)]
        · rw [getD_set_ne _ _ _ _ _ (fun hh => e (hi x i (by omega) (by omega) hh.symm))]; exact h.h1 x (by omega)
      · by_cases e : (before.getD i 0).toNat = l
        · rw [e, getD_set_eq _ _ _ _ (by omega)] at hv
          have : v = i := by omega
          subst this; exact ⟨by omega, e⟩
        · rw [getD_set_ne _ _ _ _ _ e] at hv
          have := h.h2 l v hl hv
          exact ⟨by omega, this.2⟩
      · by_cases e : (before.getD i 0).toNat = l
        · rw [e, getD_set_eq _ _ _ _ (by omega)]; omega
        · rw [getD_set_ne _ _ _ _ _ e]; exact h.h3 l hl
    · rw [decide_eq_false hc, cond_false]
      have e : i = before.length := by omega
      subst e
      exact ⟨_, out, rfl, h⟩
theorem holders_hd (many : Nat) (before : List Int) (hb : ∀ i, i < before.length → 0 ≤ before.getD i 0 ∧ before.getD i 0 < many) (hi : ∀ x y, x < before.length → y < before.length → (before.getD x 0).toNat = (before.getD y 0).toNat → x = y) :
    Hd many before before.length (F_spec_l7Holders (many : Int) before) := by
  unfold F_spec_l7Holders
  rw [Int.toNat_natCast]
  obtain ⟨l', out, h1, h2, h3⟩ := holders_L1 many (many - 0 + 1) 0 (List.replicate many 0) (by omega) (Nat.zero_le _) (by simp) (fun x hx => by omega)
  rw [h1, elim_next]
  dsimp only
  obtain ⟨i', out', h4, h5⟩ := holders_L2 many before hb hi (before.length - 0 + 1) 0 out (by omega) (Nat.zero_le _) ⟨h2, fun x hx => by omega, fun l v hl hv => by rw [h3 l hl] at hv; omega, fun l hl => by rw [h3 l hl]; omega⟩
  rw [h4, elim_next]
  exact h5
/-- A best chain list of the first places, with prices that pay for it exactly. -/
structure Aq (m : List (List Int)) (a reqs before : List Int) (p r : Nat → Int) : Prop where
  sv : Sv m a reqs
  lr : before.length ≤ reqs.length
  nb : ∀ x, x < before.length → 0 ≤ before.getD x 0
  cert : Th.Cert before.length (a.length + reqs.length) (fun l x => gap m a reqs l x) (fun l x => l < a.length + x) (Th.colOf before) p r
  pb : ∀ x, x < before.length → 0 ≤ p x ∧ p x ≤ 99 * before.length
section
variable {m : List (List Int)} {a reqs before : List Int} {p r : Nat → Int}
theorem Aq.hb (h : Aq m a reqs before p r) : ∀ i, i < before.length → 0 ≤ before.getD i 0 ∧ before.getD i 0 < (a.length : Int) + (before.length : Int) := fun i hi => by
  have h1 := h.nb i hi
  have h2 := h.cert.mt.ok i hi
  unfold Th.colOf at h2
  omega
theorem Aq.rq (h : Aq m a reqs before p r) (hl : before.length < reqs.length) : Rq m a reqs before (F_spec_l7Holders ((a.length : Int) + (before.length : Int)) before) (fun x => if x = before.length then 0 else p x) r := by
  have hH := holders_hd (a.length + before.length) before (fun i hi => by have := h.hb i hi; omega) (fun x y hx hy he => h.cert.mt.inj x y hx hy he)
  rw [show ((a.length + before.length : Nat) : Int) = (a.length : Int) + (before.length : Int) by omega] at hH
  generalize F_spec_l7Holders ((a.length : Int) + (before.length : Int)) before = hold at hH ⊢
  have hlen := hH.len
  have hd : ∀ l, l < a.length + before.length → hold.getD l (-1) = hold.getD l 0 := fun l hl => by rw [getD_lt _ _ _ (by omega), getD_lt _ _ _ (by omega)]
  have hr60 := h.sv.r60
  have hk := h.sv.cf.n1
  have hk3 := h.sv.cf.n3
  have hg := h.sv
  refine ⟨h.sv, hl, ⟨by omega, ⟨h.cert.mt, fun i l hi hl hk => ?_, h.cert.nn, fun i hi => ?_, h.cert.free⟩, rfl, h.nb, hlen, fun x hx => ?_, fun l v hv => ?_, fun l => ?_, fun l x => gap_all hg l x, by omega, if_pos rfl, fun x hx => ?_, hk, hk3⟩⟩
  · rw [if_neg (by omega)]; exact h.cert.feas i l hi hl hk
  · rw [if_neg (by omega)]; exact h.cert.tight i hi
  · have := h.hb x hx
    rw [hd _ (by unfold Th.colOf; omega)]
    exact hH.h1 x hx
  · by_cases e : l < a.length + before.length
    · rw [hd l e] at hv; exact hH.h2 l v e hv
    · rw [getD_ge _ _ _ (by omega)] at hv; omega
  · by_cases e : l < a.length + before.length
    · rw [hd l e]; exact hH.h3 l e
    · rw [getD_ge _ _ _ (by omega)]; omega
  · by_cases e : x = before.length
    · rw [if_pos e]; omega
    · rw [if_neg e]; exact h.pb x (by omega)
variable {holders : List Int} {far frm : List Int} {D : Int}
theorem add_take (h : Rq m a reqs before holders p r) {x0 l0 at_ l : Nat} (hB : Th.Best before.length a.length (fun l x => gap m a reqs l x) holders far x0 l0 D at_ l) (hx : x0 ≤ before.length) (hl : l0 < a.length + x0)
    (ht : holders.getD l0 0 < 0 ∧ far.getD x0 0 + F_spec_l7Gap m a reqs (l0 : Int) (x0 : Int) < D) : Th.Best before.length a.length (fun l x => gap m a reqs l x) holders far x0 (l0 + 1) (far.getD x0 0 + F_spec_l7Gap m a reqs (l0 : Int) (x0 : Int)) x0 l0 := by
  rw [gap_eq] at ht ⊢
  exact hB.take hx hl (by rw [← hold_d h.pre.lh (by omega)]; exact ht.1) ht.2
theorem add_keep (h : Rq m a reqs before holders p r) {x0 l0 at_ l : Nat} (hB : Th.Best before.length a.length (fun l x => gap m a reqs l x) holders far x0 l0 D at_ l) (hl : l0 < a.length + before.length)
    (ht : ¬ holders.getD l0 0 < 0 ∨ ¬ far.getD x0 0 + F_spec_l7Gap m a reqs (l0 : Int) (x0 : Int) < D) : Th.Best before.length a.length (fun l x => gap m a reqs l x) holders far x0 (l0 + 1) D at_ l := by
  rw [gap_eq] at ht
  refine hB.keep fun hh => ?_
  rw [← hold_d h.pre.lh hl] at hh
  rcases ht with ht | ht
  · exact ht hh.1
  · exact ht hh.2
theorem add_step (h : Rq m a reqs before holders p r) (hf : Th.Fin before.length a.length (fun l x => gap m a reqs l x) holders p far frm) {out : List Int} {x l : Int} (hx : 0 ≤ x) (hl : 0 ≤ l)
    (hA : Th.Ag before.length a.length (a.length + reqs.length) (fun l x => gap m a reqs l x) before holders p r far frm D out x.toNat l.toNat) (hne : ¬ x = (before.length : Int)) :
    0 ≤ frm.getD x.toNat 0 ∧ 0 ≤ out.getD x.toNat 0 ∧ Th.Ag before.length a.length (a.length + reqs.length) (fun l x => gap m a reqs l x) before holders p r far frm D (out.set x.toNat l) (frm.getD x.toNat 0).toNat (out.getD x.toNat 0).toNat ∧
      Th.dep before.length frm (before.length + 1) (frm.getD x.toNat 0).toNat < Th.dep before.length frm (before.length + 1) x.toNat := by
  have hne' : x.toNat ≠ before.length := by omega
  have hs := hA.step h.pre hf hne'
  rw [Int.toNat_of_nonneg hl] at hs
  obtain ⟨_, y, hy, hfy, _, _, _, hdd⟩ := hA.back h.pre hf hne'
  have hai := hA.ai
  refine ⟨by rw [hfy]; omega, hA.nn _ (by omega), hs, ?_⟩
  obtain ⟨d, hd, _⟩ := hA.ch
  obtain ⟨d1, rfl, hd1⟩ := hdd d hd
  rw [hfy, Int.toNat_natCast]
  have hle := hd.le
  rw [hd1.dep _ (by omega), hd.dep _ (by omega)]
  omega
/-! the row that is added -/
theorem add_L2 (hq : Rq m a reqs before (F_spec_l7Holders ((a.length : Int) + (before.length : Int)) before) p r) {x : Nat} (hx : x ≤ before.length) : ∀ (fuel l0 : Nat) (D : Int) (at_ l : Nat), a.length + x - l0 < fuel → l0 ≤ a.length + x →
    Th.Best before.length a.length (fun l x => gap m a reqs l x) (F_spec_l7Holders ((a.length : Int) + (before.length : Int)) before) (F_spec_l7Reach m a reqs before (F_spec_l7Holders ((a.length : Int) + (before.length : Int)) before)).1 x l0 D at_ l →
    ∃ D' at' l' q, F_spec_l7Add_L2 m a reqs before x fuel (D, at_, l, l0) = .next (D', at', l', q) ∧ Th.Best before.length a.length (fun l x => gap m a reqs l x) (F_spec_l7Holders ((a.length : Int) + (before.length : Int)) before) (F_spec_l7Reach m a reqs before (F_spec_l7Holders ((a.length : Int) + (before.length : Int)) before)).1 (x + 1) 0 D' at' l' := by
  intro fuel
  induction fuel with
  | zero => intro l0 D at_ l hf; omega
  | succ mf ih =>
    intro l0 D at_ l hf hl hB
    rw [F_spec_l7Add_L2_s]
    by_cases hc : (l0 : Int) < (a.length : Int) + (x : Int)
    · rw [decide_eq_true hc, cond_true]
      cases ht : ((decide (((F_spec_l7Holders ((a.length : Int) + (before.length : Int)) before).getD l0 0) < 0)) && (decide (((F_spec_l7Reach m a reqs before (F_spec_l7Holders ((a.length : Int) + (before.length : Int)) before)).1.getD x 0) + (F_spec_l7Gap m a reqs (l0 : Int) (x : Int)) < D))) with
      | true =>
        rw [cond_true]
        rw [Bool.and_eq_true, decide_eq_true_eq, decide_eq_true_eq] at ht
        exact ih (l0 + 1) _ _ _ (by omega) (by omega) (add_take hq hB hx (by omega) ht)
      | false =>
        rw [cond_false]
        rw [Bool.and_eq_false_iff, decide_eq_false_iff_not, decide_eq_false_iff_not] at ht
        exact ih (l0 + 1) _ _ _ (by omega) (by omega) (add_keep hq hB (by omega) ht)
    · rw [decide_eq_false hc, cond_false]
      exact ⟨D, at_, l, l0, rfl, hB.row (by omega)⟩
theorem add_L1 (hq : Rq m a reqs before (F_spec_l7Holders ((a.length : Int) + (before.length : Int)) before) p r) : ∀ (fuel x : Nat) (D : Int) (at_ l : Nat), before.length + 1 - x < fuel → x ≤ before.length + 1 →
    Th.Best before.length a.length (fun l x => gap m a reqs l x) (F_spec_l7Holders ((a.length : Int) + (before.length : Int)) before) (F_spec_l7Reach m a reqs before (F_spec_l7Holders ((a.length : Int) + (before.length : Int)) before)).1 x 0 D at_ l →
    ∃ D' at' l' q, F_spec_l7Add_L1 m a reqs before fuel (D, at_, l, x) = .next (D', at', l', q) ∧ Th.Best before.length a.length (fun l x => gap m a reqs l x) (F_spec_l7Holders ((a.length : Int) + (before.length : Int)) before) (F_spec_l7Reach m a reqs before (F_spec_l7Holders ((a.length : Int) + (before.length : Int)) before)).1 (before.length + 1) 0 D' at' l' := by
  intro fuel
  induction fuel with
  | zero => intro x D at_ l hf; omega
  | succ mf ih =>
    intro x D at_ l hf hx hB
    rw [F_spec_l7Add_L1_s]
    by_cases hc : (x : Int) ≤ (before.length : Int)
    · rw [decide_eq_true hc, cond_true]
      obtain ⟨D', at', l', q, h1, h2⟩ := add_L2 hq (x := x) (by omega) ((((a.length : Int) + (x : Int)).toNat) - 0 + 1) 0 D at_ l (by omega) (by omega) hB
      rw [h1, elim_next]
      exact ih (x + 1) D' at' l' (by omega) (by omega) h2
    · rw [decide_eq_false hc, cond_false]
      have e : x = before.length + 1 := by omega
      subst e
      exact ⟨D, at_, l, _, rfl, hB⟩
theorem add_L3 (hq : Rq m a reqs before (F_spec_l7Holders ((a.length : Int) + (before.length : Int)) before) p r) : ∀ (fuel : Nat) (x l : Int) (out : List Int), 0 ≤ x → 0 ≤ l →
    Th.Ag before.length a.length (a.length + reqs.length) (fun l x => gap m a reqs l x) before (F_spec_l7Holders ((a.length : Int) + (before.length : Int)) before) p r (F_spec_l7Reach m a reqs before (F_spec_l7Holders ((a.length : Int) + (before.length : Int)) before)).1 (F_spec_l7Reach m a reqs before (F_spec_l7Holders ((a.length : Int) + (before.length : Int)) before)).2 D out x.toNat l.toNat →
    Th.dep before.length (F_spec_l7Reach m a reqs before (F_spec_l7Holders ((a.length : Int) + (before.length : Int)) before)).2 (before.length + 1) x.toNat < fuel →
    ∃ x' l' out', F_spec_l7Add_L3 m a reqs before fuel (x, l, out) = .next (x', l', out') ∧ 0 ≤ l' ∧
      Th.Ag before.length a.length (a.length + reqs.length) (fun l x => gap m a reqs l x) before (F_spec_l7Holders ((a.length : Int) + (before.length : Int)) before) p r (F_spec_l7Reach m a reqs before (F_spec_l7Holders ((a.length : Int) + (before.length : Int)) before)).1 (F_spec_l7Reach m a reqs before (F_spec_l7Holders ((a.length : Int) + (before.length : Int)) before)).2 D out' before.length l'.toNat := by
  intro fuel
  induction fuel with
  | zero => intro x l out _ _ _ hf; omega
  | succ mf ih =>
    intro x l out hx hl hA hf
    rw [F_spec_l7Add_L3_s]
    by_cases hc : x = (before.length : Int)
    · rw [decide_eq_true hc, Bool.not_true, cond_false]
      have e : x.toNat = before.length := by omega
      rw [e] at hA
      exact ⟨x, l, out, rfl, hl, hA⟩
    · rw [decide_eq_false hc, Bool.not_false, cond_true]
      obtain ⟨h1, h2, h3, h4⟩ := add_step hq (reach_fin hq) hx hl hA hc
      exact ih _ _ _ h1 h2 h3 (by omega)
theorem aq_add' (h : Aq m a reqs before p r) (hl : before.length < reqs.length) : (∃ p' r', Aq m a reqs (F_spec_l7Add m a reqs before) p' r') ∧ (F_spec_l7Add m a reqs before).length = before.length + 1 := by
  have hq := h.rq hl
  have hF := reach_fin hq
  unfold F_spec_l7Add
  obtain ⟨D, at_, l, q, h1, h2⟩ := add_L1 hq (before.length + 1 - 0 + 1) 0 1099511627776 0 0 (by omega) (by omega) Th.Best.init
  rw [h1, elim_next]
  dsimp only
  obtain ⟨hP, hD⟩ := h2.pick (by omega) hq.pre hF.bf.src
  have hA := Th.Ag.init hq.pre hF hP
  rw [show at_ = ((at_ : Int)).toNat by omega, show l = ((l : Int)).toNat by omega] at hA
  obtain ⟨x', l', out, h3, h4, h5⟩ := add_L3 (D := D) hq (Th.dep before.length (F_spec_l7Reach m a reqs before (F_spec_l7Holders ((a.length : Int) + (before.length : Int)) before)).2 (before.length + 1) ((at_ : Int)).toNat + 1) (at_ : Int) (l : Int) (before ++ [0]) (by omega) (by omega) hA (Nat.lt_succ_self _)
  rw [h3, elim_next]
  dsimp only
  have hlo := h5.lo
  have hdone := h5.done hq.pre hF hP
  rw [Int.toNat_of_nonneg h4] at hdone
  have hlen : (out.set before.length l').length = before.length + 1 := by rw [List.length_set]; exact hlo
  refine ⟨⟨_, _, ⟨h.sv, by omega, fun x hx => ?_, by rw [hlen]; exact hdone, fun x hx => ?_⟩⟩, hlen⟩
  · by_cases e : x = before.length
    · subst e; rw [getD_set_eq _ _ _ _ (by omega)]; exact h4
    · rw [getD_set_ne _ _ _ _ _ (Ne.symm e)]; exact h5.nn x (by omega)
  · rw [hlen] at hx ⊢
    have := Th.np_bd (D := D) hq.pre hF.bf hD (x := x) (by omega)
    have h6 := Th.np_ge (fun x => if x = before.length then 0 else p x) (F_spec_l7Reach m a reqs before (F_spec_l7Holders ((a.length : Int) + (before.length : Int)) before)).1 D x
    have h7 := hq.pre.pb x (by omega)
    exact ⟨by omega, by omega⟩
end
theorem aq_add {m : List (List Int)} {a reqs before : List Int} (h : ∃ p r, Aq m a reqs before p r) (hl : before.length < reqs.length) : (∃ p' r', Aq m a reqs (F_spec_l7Add m a reqs before) p' r') ∧ (F_spec_l7Add m a reqs before).length = before.length + 1 := by
  obtain ⟨p, r, h⟩ := h
  exact aq_add' h hl
theorem aq_nil {m : List (List Int)} {a reqs : List Int} (h : Sv m a reqs) : ∃ p r, Aq m a reqs [] p r :=
  ⟨fun _ => 0, fun _ => 0, h, Nat.zero_le _, fun x hx => absurd hx (by simp), ⟨⟨fun i hi => absurd hi (by simp), fun i hi => absurd hi (by simp), fun i j hi => absurd hi (by simp)⟩, fun i l hi => absurd hi (by simp), fun _ _ => Int.le_refl _, fun i hi => absurd hi (by simp), fun _ _ _ => rfl⟩, fun x hx => absurd hx (by simp)⟩
theorem flow_L {m : List (List Int)} {a reqs : List Int} : ∀ (fuel : Nat) (out : List Int), reqs.length - out.length < fuel → out.length ≤ reqs.length → (∃ p r, Aq m a reqs out p r) →
    ∃ out', F_spec_l7Flow_L1 m a reqs fuel out = .next out' ∧ out'.length = reqs.length ∧ ∃ p r, Aq m a reqs out' p r := by
  intro fuel
  induction fuel with
  | zero => intro out hf; omega
  | succ mf ih =>
    intro out hf hl hA
    rw [F_spec_l7Flow_L1_s]
    by_cases hc : (out.length : Int) < (reqs.length : Int)
    · rw [decide_eq_true hc, cond_true]
      obtain ⟨h1, h2⟩ := aq_add hA (by omega)
      exact ih _ (by omega) (by omega) h1
    · rw [decide_eq_false hc, cond_false]
      exact ⟨out, rfl, by omega, hA⟩
/-- The reference's chain list is a best one. -/
theorem flow_aq {m : List (List Int)} {a reqs : List Int} (h : Sv m a reqs) : (F_spec_l7Flow m a reqs).length = reqs.length ∧ ∃ p r, Aq m a reqs (F_spec_l7Flow m a reqs) p r := by
  unfold F_spec_l7Flow
  obtain ⟨out, h1, h2, h3⟩ := flow_L (m := m) (a := a) (reqs := reqs) (reqs.length - ([] : List Int).length + 1) [] (by omega) (Nat.zero_le _) (aq_nil h)
  rw [h1, elim_next]
  exact ⟨h2, h3⟩
theorem flow_ok {m : List (List Int)} {a reqs : List Int} (h : Sv m a reqs) : (F_spec_l7Flow m a reqs).length = reqs.length ∧ (∀ i, i < (F_spec_l7Flow m a reqs).length → 0 ≤ (F_spec_l7Flow m a reqs).getD i 0 ∧ (F_spec_l7Flow m a reqs).getD i 0 < a.length + reqs.length) ∧ ∃ p r, Aq m a reqs (F_spec_l7Flow m a reqs) p r := by
  obtain ⟨h1, p, r, h2⟩ := flow_aq h
  refine ⟨h1, fun i hi => ?_, p, r, h2⟩
  have := h2.hb i hi
  omega
theorem cost_L (m : List (List Int)) (a reqs before : List Int) (hb : ∀ i, i < before.length → 0 ≤ before.getD i 0) : ∀ (fuel i : Nat) (s : Int), before.length - i < fuel → i ≤ before.length → s = Th.cost (fun l x => gap m a reqs l x) (Th.colOf before) i →
    ∃ i', F_spec_l7Cost_L1 m a reqs before fuel (s, i) = .next (Th.cost (fun l x => gap m a reqs l x) (Th.colOf before) before.length, i') := by
  intro fuel
  induction fuel with
  | zero => intro i s hf; omega
  | succ mf ih =>
    intro i s hf hi hs
    rw [F_spec_l7Cost_L1_s]
    by_cases hc : (i : Int) < (before.length : Int)
    · rw [decide_eq_true hc, cond_true]
      refine ih (i + 1) _ (by omega) (by omega) ?_
      have e : before.getD i 0 = ((Th.colOf before i : Nat) : Int) := by have := hb i (by omega); unfold Th.colOf; omega
      rw [hs, e, gap_eq]
      rfl
    · rw [decide_eq_false hc, cond_false]
      have e : i = before.length := by omega
      subst e
      exact ⟨_, by rw [hs]⟩
theorem l7Cost_eq (m : List (List Int)) (a reqs before : List Int) (hb : ∀ i, i < before.length → 0 ≤ before.getD i 0) : F_spec_l7Cost m a reqs before = Th.cost (fun l x => gap m a reqs l x) (Th.colOf before) before.length := by
  unfold F_spec_l7Cost
  obtain ⟨i', h⟩ := cost_L m a reqs before hb (before.length - 0 + 1) 0 0 (by omega) (Nat.zero_le _) rfl
  rw [h]; rfl
end Go.Proofs.Ytcmhgkcifejgcaa
namespace Go.Proofs.Ytcmhgkcifejgcaa
set_option linter.unusedVariables false
set_option linter.unusedSimpArgs false
open Go Go.RowKit
set_option linter.unusedVariables false

/-- Costs that may be asked for. -/
structure Cs (costs : List (List Int)) : Prop where
  n60 : costs.length ≤ 60
  rows : ∀ i, i < costs.length → (costs.getD i []).length = (costs.getD 0 []).length
  nm : costs.length ≠ 0 → costs.length < (costs.getD 0 []).length ∧ (costs.getD 0 []).length ≤ 63
  el : ∀ i j, 0 ≤ (costs.getD i []).getD j 0 ∧ (costs.getD i []).getD j 0 ≤ 1073741824
/-- The cost of a row and a column, both counted from one. -/
def hC (costs : List (List Int)) (x j : Nat) : Int := (costs.getD (x - 1) []).getD (j - 1) 0
section
variable {costs : List (List Int)} {u v rowOf least way least0 way0 : List Int} {used : List Bool} {n m i at_ to j0 j1 : Nat} {delta : Int} {C : Nat → Nat → Int}
theorem hu_start (h : Cs costs) (hn : costs.length < (costs.getD 0 []).length ∧ (costs.getD 0 []).length ≤ 63) :
    Th.Hu costs.length (costs.getD 0 []).length (hC costs) (1 - 1) (List.replicate (costs.length + 1) 0) (List.replicate ((costs.getD 0 []).length + 1) 0) (List.replicate ((costs.getD 0 []).length + 1) 0) :=
  Th.Hu.start hn.1 h.n60 hn.2 fun x j => h.el _ _
theorem hu_next (h : Th.Ax n m C i u v way rowOf at_) (h0 : at_ = 0) : Th.Hu n m C (i + 1 - 1) u v rowOf := by subst h0; exact h.hu
theorem hu_end (h : Th.Hu n m C (i - 1) u v rowOf) (h0 : i = n + 1) : Th.Hu n m C n u v rowOf := by subst h0; exact h
theorem sr_init (h : Th.Hu costs.length (costs.getD 0 []).length C (i - 1) u v rowOf) (h1 : 1 ≤ i) (hi : i ≤ costs.length) {le : List Int} (hle : le = List.replicate ((((costs.getD 0 []).length : Int) + 1).toNat) 1152921504606846976) :
    Th.Sr costs.length (costs.getD 0 []).length C i (rowOf.set 0 (i : Int)) u v (List.replicate ((costs.getD 0 []).length + 1) false) le (List.replicate ((costs.getD 0 []).length + 1) 0) 0 := by
  have e : i - 1 + 1 = i := by omega
  have hI := h.inn (q := i - 1) (by omega)
  rw [e] at hI
  subst hle
  refine Th.Sr.init hI (by simp) (by simp) (by simp) (fun j hj => ?_) fun j h1 h2 => ?_
  · rw [getD_rep _ _ _ _ (by omega)]
  · rw [getD_rep _ _ _ _ (by omega)]
theorem sr_mu (h : Th.Sr n m C i rowOf u v used least way at_) : m + 1 - (used.set at_ true).countP id < m + 1 - used.countP id := by
  have h1 := h.lus
  have h2 := h.atm
  have h3 := Th.bset_count (l := used) (k := at_) (by omega) h.atu
  have h4 := List.countP_le_length (p := id) (l := used.set at_ true)
  rw [List.length_set] at h4
  omega
theorem sr_ur (h : Th.Sr n m C i rowOf u v used least way at_) : ∀ j, j ≤ m → (used.set at_ true).getD j false = true → rowOf.getD j 0 ≠ 0 := fun j hj hu => by
  obtain ⟨x, h1, h2, _⟩ := h.row hj hu; omega
theorem sr_next (h : Th.Sr n m C i rowOf u v used least0 way0 at_) (hS : Th.Sc n m C i rowOf u v used least0 way0 at_ least way j0 delta to) {u2 v2 le2 : List Int} (hR : Th.Risen n m C i rowOf u2 v2 (used.set at_ true) le2 way to) (hne : ¬ rowOf.getD to 0 = 0) :
    Th.Sr n m C i rowOf u2 v2 (used.set at_ true) le2 way to := hR.next (by rw [List.length_set]; exact h.lus) hS.lwa h.zero (sr_ur h) hne
theorem sr_ax (h : Th.Sr n m C i rowOf u v used least0 way0 at_) (hS : Th.Sc n m C i rowOf u v used least0 way0 at_ least way j0 delta to) {u2 v2 le2 : List Int} (hR : Th.Risen n m C i rowOf u2 v2 (used.set at_ true) le2 way to) (h0 : rowOf.getD to 0 = 0) :
    Th.Ax n m C i u2 v2 way rowOf ((to : Int)).toNat := by
  rw [Int.toNat_natCast]
  exact hR.ax (by rw [List.length_set]; exact h.lus) hS.lwa (sr_ur h) h0
theorem ax_step {x : Int} (h0 : 0 ≤ x) (h : Th.Ax n m C i u v way rowOf x.toNat) (hne : ¬ x = 0) :
    0 ≤ way.getD x.toNat 0 ∧ Th.Ax n m C i u v way (rowOf.set x.toNat (rowOf.getD (way.getD x.toNat 0).toNat 0)) (way.getD x.toNat 0).toNat ∧ Th.dep 0 way (m + 1) (way.getD x.toNat 0).toNat < Th.dep 0 way (m + 1) x.toNat ∧ way.getD x.toNat 0 ≤ m := by
  obtain ⟨h1, h2, h3⟩ := h.step (by omega)
  have := h1.atm
  exact ⟨h2, h1, h3, by omega⟩
theorem sr_row (h : Th.Sr n m C i rowOf u v used least way at_) : Hid (1 ≤ rowOf.getD at_ 0 ∧ rowOf.getD at_ 0 ≤ n) := by
  obtain ⟨x, h1, h2, h3⟩ := h.row h.atm h.self
  have := h.inn.i_n
  show _ ∧ _
  omega
theorem cs_row (h : Cs costs) {x : Int} (hr : Hid (1 ≤ x ∧ x ≤ costs.length)) : Hid ((costs.getD (x - 1).toNat []).length = (costs.getD 0 []).length) := by
  obtain ⟨h1, h2⟩ := hr
  exact h.rows (x - 1).toNat (by omega)
theorem sr_ub (h : Th.Sr n m C i rowOf u v used least way at_) : Hid (0 ≤ u.getD (rowOf.getD at_ 0).toNat 0 ∧ u.getD (rowOf.getD at_ 0).toNat 0 ≤ 1073741824) := by
  obtain ⟨x, h1, h2, h3⟩ := h.row h.atm h.self
  rw [h1, Int.toNat_natCast]
  exact h.inn.ub x h2 h3
/-- A column's slack, as it is computed. -/
theorem own_eq (h : Th.Sr n m (hC costs) i rowOf u v used least way at_) {j : Nat} (hj : 1 ≤ j) : ∃ x0 : Nat, rowOf.getD at_ 0 = (x0 : Int) ∧
    (((costs.getD ((rowOf.getD at_ 0 - 1).toNat) []).getD (((j : Int) - 1).toNat) 0) - (u.getD ((rowOf.getD at_ 0).toNat) 0)) - (v.getD j 0) = hC costs x0 j - u.getD x0 0 - v.getD j 0 := by
  obtain ⟨x0, h1, h2, _⟩ := h.row h.atm h.self
  refine ⟨x0, h1, ?_⟩
  unfold hC
  rw [h1, Int.toNat_natCast, show ((x0 : Int) - 1).toNat = x0 - 1 by omega, show ((j : Int) - 1).toNat = j - 1 by omega]
theorem sc_any (h : Th.Sr n m (hC costs) i rowOf u v used least0 way0 at_) (hS : Th.Sc n m (hC costs) i rowOf u v used least0 way0 at_ least way j0 delta to) (hj : j0 ≤ m) (hu : (used.set at_ true).getD j0 false = false)
    {least' way' : List Int} {delta' : Int} {to' : Nat}
    (hl : ((((costs.getD ((rowOf.getD at_ 0 - 1).toNat) []).getD (((j0 : Int) - 1).toNat) 0) - (u.getD ((rowOf.getD at_ 0).toNat) 0)) - (v.getD j0 0) < least.getD j0 0 ∧ least' = least.set j0 ((((costs.getD ((rowOf.getD at_ 0 - 1).toNat) []).getD (((j0 : Int) - 1).toNat) 0) - (u.getD ((rowOf.getD at_ 0).toNat) 0)) - (v.getD j0 0)) ∧ way' = way.set j0 (at_ : Int)) ∨
      (¬ (((costs.getD ((rowOf.getD at_ 0 - 1).toNat) []).getD (((j0 : Int) - 1).toNat) 0) - (u.getD ((rowOf.getD at_ 0).toNat) 0)) - (v.getD j0 0) < least.getD j0 0 ∧ least' = least ∧ way' = way))
    (hd : (least'.getD j0 0 < delta ∧ delta' = least'.getD j0 0 ∧ to' = j0) ∨ (¬ least'.getD j0 0 < delta ∧ delta' = delta ∧ to' = to)) :
    Th.Sc n m (hC costs) i rowOf u v used least0 way0 at_ least' way' (j0 + 1) delta' to' := by
  obtain ⟨x0, h1, h2⟩ := own_eq h (j := j0) hS.j1
  rw [h2] at hl
  exact hS.step h hj hu h1 hl hd
theorem sc_tt (h : Th.Sr n m (hC costs) i rowOf u v used least0 way0 at_) (hS : Th.Sc n m (hC costs) i rowOf u v used least0 way0 at_ least way j0 delta to) (hj : j0 ≤ m) (hu : (used.set at_ true).getD j0 false = false)
    (h1 : (((costs.getD ((rowOf.getD at_ 0 - 1).toNat) []).getD (((j0 : Int) - 1).toNat) 0) - (u.getD ((rowOf.getD at_ 0).toNat) 0)) - (v.getD j0 0) < least.getD j0 0)
    (h2 : (least.set j0 ((((costs.getD ((rowOf.getD at_ 0 - 1).toNat) []).getD (((j0 : Int) - 1).toNat) 0) - (u.getD ((rowOf.getD at_ 0).toNat) 0)) - (v.getD j0 0))).getD j0 0 < delta) :
    Th.Sc n m (hC costs) i rowOf u v used least0 way0 at_ (least.set j0 ((((costs.getD ((rowOf.getD at_ 0 - 1).toNat) []).getD (((j0 : Int) - 1).toNat) 0) - (u.getD ((rowOf.getD at_ 0).toNat) 0)) - (v.getD j0 0))) (way.set j0 (at_ : Int)) (j0 + 1)
      ((least.set j0 ((((costs.getD ((rowOf.getD at_ 0 - 1).toNat) []).getD (((j0 : Int) - 1).toNat) 0) - (u.getD ((rowOf.getD at_ 0).toNat) 0)) - (v.getD j0 0))).getD j0 0) j0 :=
  sc_any h hS hj hu (.inl ⟨h1, rfl, rfl⟩) (.inl ⟨h2, rfl, rfl⟩)
theorem sc_tf (h : Th.Sr n m (hC costs) i rowOf u v used least0 way0 at_) (hS : Th.Sc n m (hC costs) i rowOf u v used least0 way0 at_ least way j0 delta to) (hj : j0 ≤ m) (hu : (used.set at_ true).getD j0 false = false)
    (h1 : (((costs.getD ((rowOf.getD at_ 0 - 1).toNat) []).getD (((j0 : Int) - 1).toNat) 0) - (u.getD ((rowOf.getD at_ 0).toNat) 0)) - (v.getD j0 0) < least.getD j0 0)
    (h2 : ¬ (least.set j0 ((((costs.getD ((rowOf.getD at_ 0 - 1).toNat) []).getD (((j0 : Int) - 1).toNat) 0) - (u.getD ((rowOf.getD at_ 0).toNat) 0)) - (v.getD j0 0))).getD j0 0 < delta) :
    Th.Sc n m (hC costs) i rowOf u v used least0 way0 at_ (least.set j0 ((((costs.getD ((rowOf.getD at_ 0 - 1).toNat) []).getD (((j0 : Int) - 1).toNat) 0) - (u.getD ((rowOf.getD at_ 0).toNat) 0)) - (v.getD j0 0))) (way.set j0 (at_ : Int)) (j0 + 1) delta to :=
  sc_any h hS hj hu (.inl ⟨h1, rfl, rfl⟩) (.inr ⟨h2, rfl, rfl⟩)
theorem sc_ft (h : Th.Sr n m (hC costs) i rowOf u v used least0 way0 at_) (hS : Th.Sc n m (hC costs) i rowOf u v used least0 way0 at_ least way j0 delta to) (hj : j0 ≤ m) (hu : (used.set at_ true).getD j0 false = false)
    (h1 : ¬ (((costs.getD ((rowOf.getD at_ 0 - 1).toNat) []).getD (((j0 : Int) - 1).toNat) 0) - (u.getD ((rowOf.getD at_ 0).toNat) 0)) - (v.getD j0 0) < least.getD j0 0) (h2 : least.getD j0 0 < delta) :
    Th.Sc n m (hC costs) i rowOf u v used least0 way0 at_ least way (j0 + 1) (least.getD j0 0) j0 := sc_any h hS hj hu (.inr ⟨h1, rfl, rfl⟩) (.inl ⟨h2, rfl, rfl⟩)
theorem sc_ff (h : Th.Sr n m (hC costs) i rowOf u v used least0 way0 at_) (hS : Th.Sc n m (hC costs) i rowOf u v used least0 way0 at_ least way j0 delta to) (hj : j0 ≤ m) (hu : (used.set at_ true).getD j0 false = false)
    (h1 : ¬ (((costs.getD ((rowOf.getD at_ 0 - 1).toNat) []).getD (((j0 : Int) - 1).toNat) 0) - (u.getD ((rowOf.getD at_ 0).toNat) 0)) - (v.getD j0 0) < least.getD j0 0) (h2 : ¬ least.getD j0 0 < delta) :
    Th.Sc n m (hC costs) i rowOf u v used least0 way0 at_ least way (j0 + 1) delta to := sc_any h hS hj hu (.inr ⟨h1, rfl, rfl⟩) (.inr ⟨h2, rfl, rfl⟩)
theorem up_yes (h : Th.Sr n m C i rowOf u v used least0 way0 at_) {u2 v2 le2 : List Int} (hU : Th.Up n m rowOf (used.set at_ true) delta u v least j1 u2 v2 le2) (hj : j1 ≤ m) (hu : (used.set at_ true).getD j1 false = true) :
    Th.Up n m rowOf (used.set at_ true) delta u v least (j1 + 1) (u2.set (rowOf.getD j1 0).toNat (u2.getD (rowOf.getD j1 0).toNat 0 + delta)) (v2.set j1 (v2.getD j1 0 - delta)) le2 := by
  obtain ⟨x, h1, h2, h3⟩ := h.row hj hu
  have hin := h.inn.i_n
  rw [h1, Int.toNat_natCast]
  exact hU.yes hj hu h1 (by omega) fun y hy hyu hyx => h.inn.inj y j1 hy hj (by rw [hyx, h1]) (by omega)
theorem up_bd (h : Th.Sr n m C i rowOf u v used least0 way0 at_) {u2 v2 le2 : List Int} (hU : Th.Up n m rowOf (used.set at_ true) delta u v least j1 u2 v2 le2) (hd0 : 0 ≤ delta) (hd1 : delta ≤ 2147483648) (hj : j1 ≤ m) (hu : (used.set at_ true).getD j1 false = true) :
    Hid (1 ≤ rowOf.getD j1 0 ∧ rowOf.getD j1 0 ≤ n) ∧ Hid (0 ≤ u2.getD (rowOf.getD j1 0).toNat 0 ∧ u2.getD (rowOf.getD j1 0).toNat 0 ≤ 9000000000) ∧ Hid (-90000000000 ≤ v2.getD j1 0 ∧ v2.getD j1 0 ≤ 90000000000) := by
  obtain ⟨x, h1, h2, h3⟩ := h.row hj hu
  have hin := h.inn.i_n
  have hub := h.inn.ub x h2 h3
  have hv : -64424509440 ≤ v.getD j1 0 ∧ v.getD j1 0 ≤ 0 := by
    by_cases e : j1 = 0
    · subst e; exact h.inn.v0b
    · have := h.inn.vb j1 (by omega) hj; omega
  rw [h1, Int.toNat_natCast, hU.eu x (by omega), hU.ev j1 hj, if_neg (fun hh : j1 < j1 ∧ _ => by omega)]
  refine ⟨show _ ∧ _ by omega, show _ ∧ _ from ?_, show _ ∧ _ by omega⟩
  split <;> omega
theorem up_bd2 (h : Th.Sr n m C i rowOf u v used least0 way0 at_) {u2 v2 le2 : List Int} (hU : Th.Up n m rowOf (used.set at_ true) delta u v least j1 u2 v2 le2) (hd0 : 0 ≤ delta) (hd1 : delta ≤ 2147483648)
    (hall : ∀ j, 1 ≤ j → j ≤ m → (used.set at_ true).getD j false = false → Th.Lf m C rowOf u v (used.set at_ true) least way j ∧ delta ≤ least.getD j 0 ∧ least.getD j 0 ≤ 2147483648) (hj : j1 ≤ m) (hu : (used.set at_ true).getD j1 false = false) :
    Hid (-2147483648 ≤ le2.getD j1 0 ∧ le2.getD j1 0 ≤ 2147483648) := by
  show _ ∧ _
  have h1 : 1 ≤ j1 := by
    refine Nat.pos_of_ne_zero fun e => ?_
    subst e
    rw [h.zero] at hu; cases hu
  obtain ⟨_, h2, h3⟩ := hall j1 h1 hj hu
  rw [hU.el j1 hj, if_neg (fun hh : j1 < j1 ∧ _ => by omega)]
  omega
end
end Go.Proofs.Ytcmhgkcifejgcaa
namespace Go.Proofs.Ytcmhgkcifejgcaa
set_option linter.unusedVariables false
set_option linter.unusedSimpArgs false
open Go Go.RowKit
set_option linter.unusedVariables false

section
variable {costs : List (List Int)} {i : Nat} {rowOf u v least way least0 way0 : List Int} {used : List Bool} {at_ : Nat}
theorem asg_L3 (hS : Th.Sr costs.length (costs.getD 0 []).length (hC costs) i (rowOf.set 0 (i : Int)) u v used least0 way0 at_) : ∀ (fuel j to : Nat) (delta : Int) (least way : List Int), (costs.getD 0 []).length + 1 - j < fuel →
    Th.Sc costs.length (costs.getD 0 []).length (hC costs) i (rowOf.set 0 (i : Int)) u v used least0 way0 at_ least way j delta to →
    ∃ delta' to' j' least' way', F_impl_assigned_L3 costs i rowOf at_ used v u fuel (delta, to, j, least, way) = .next (delta', to', j', least', way') ∧ (costs.getD 0 []).length < j' ∧
      Th.Sc costs.length (costs.getD 0 []).length (hC costs) i (rowOf.set 0 (i : Int)) u v used least0 way0 at_ least' way' j' delta' to' := by
  intro fuel
  induction fuel with
  | zero => intro j to delta least way hf; omega
  | succ mf ih =>
    intro j to delta least way hf hC
    rw [F_impl_assigned_L3_s]
    by_cases hc : (j : Int) ≤ ((costs.getD 0 []).length : Int)
    · have hj : j ≤ (costs.getD 0 []).length := Int.ofNat_le.1 hc
      have hf' : (costs.getD 0 []).length + 1 - (j + 1) < mf := by omega
      rw [decide_eq_true hc, cond_true]
      cases hu : (used.set at_ true).getD j false with
      | true =>
        rw [cond_true]
        exact ih _ _ _ _ _ hf' (hC.skip hS hj hu)
      | false =>
        rw [cond_false]
        by_cases h1 : (((costs.getD (((rowOf.set 0 (i : Int)).getD at_ 0 - 1).toNat) []).getD (((j : Int) - 1).toNat) 0) - (u.getD (((rowOf.set 0 (i : Int)).getD at_ 0).toNat) 0)) - (v.getD j 0) < least.getD j 0
        · rw [decide_eq_true h1, cond_true]
          by_cases h2 : (least.set j ((((costs.getD (((rowOf.set 0 (i : Int)).getD at_ 0 - 1).toNat) []).getD (((j : Int) - 1).toNat) 0) - (u.getD (((rowOf.set 0 (i : Int)).getD at_ 0).toNat) 0)) - (v.getD j 0))).getD j 0 < delta
          · rw [decide_eq_true h2, cond_true]
            exact ih _ _ _ _ _ hf' (sc_tt hS hC hj hu h1 h2)
          · rw [decide_eq_false h2, cond_false]
            exact ih _ _ _ _ _ hf' (sc_tf hS hC hj hu h1 h2)
        · rw [decide_eq_false h1, cond_false]
          by_cases h2 : least.getD j 0 < delta
          · rw [decide_eq_true h2, cond_true]
            exact ih _ _ _ _ _ hf' (sc_ft hS hC hj hu h1 h2)
          · rw [decide_eq_false h2, cond_false]
            exact ih _ _ _ _ _ hf' (sc_ff hS hC hj hu h1 h2)
    · rw [decide_eq_false hc, cond_false]
      exact ⟨delta, to, j, least, way, rfl, by omega, hC⟩
theorem asg_L4 {u0 v0 le0 : List Int} {delta : Int} (hS : Th.Sr costs.length (costs.getD 0 []).length (hC costs) i (rowOf.set 0 (i : Int)) u0 v0 used least0 way0 at_) : ∀ (fuel j : Nat) (v u le : List Int), (costs.getD 0 []).length + 1 - j < fuel →
    Th.Up costs.length (costs.getD 0 []).length (rowOf.set 0 (i : Int)) (used.set at_ true) delta u0 v0 le0 j u v le →
    ∃ j' v' u' le', F_impl_assigned_L4 i rowOf at_ used delta fuel (j, v, u, le) = .next (j', v', u', le') ∧ (costs.getD 0 []).length < j' ∧
      Th.Up costs.length (costs.getD 0 []).length (rowOf.set 0 (i : Int)) (used.set at_ true) delta u0 v0 le0 j' u' v' le' := by
  intro fuel
  induction fuel with
  | zero => intro j v u le hf; omega
  | succ mf ih =>
    intro j v u le hf hU
    rw [F_impl_assigned_L4_s]
    have hl : (used.set at_ true).length = (costs.getD 0 []).length + 1 := by rw [List.length_set]; exact hS.lus
    by_cases hc : (j : Int) < ((used.set at_ true).length : Int)
    · have hj : j ≤ (costs.getD 0 []).length := by omega
      rw [decide_eq_true hc, cond_true]
      cases hu : (used.set at_ true).getD j false with
      | true =>
        rw [cond_true]
        exact ih _ _ _ _ (by omega) (up_yes hS hU hj hu)
      | false =>
        rw [cond_false]
        exact ih _ _ _ _ (by omega) (hU.no hj hu)
    · rw [decide_eq_false hc, cond_false]
      exact ⟨j, v, u, le, rfl, by omega, hU⟩
theorem asg_L2 : ∀ (fuel at_ : Nat) (used : List Bool) (least way v u : List Int), (costs.getD 0 []).length + 1 - used.countP id < fuel →
    Th.Sr costs.length (costs.getD 0 []).length (hC costs) i (rowOf.set 0 (i : Int)) u v used least way at_ →
    ∃ at' used' least' way' v' u', F_impl_assigned_L2 costs i rowOf fuel (at_, used, least, way, v, u) = .next (at', used', least', way', v', u') ∧
      Th.Ax costs.length (costs.getD 0 []).length (hC costs) i u' v' way' (rowOf.set 0 (i : Int)) ((at' : Int)).toNat := by
  intro fuel
  induction fuel with
  | zero => intro at_ used least way v u hf; omega
  | succ mf ih =>
    intro at_ used least way v u hf hS
    rw [F_impl_assigned_L2_s]
    obtain ⟨delta, to, j, least', way', h1, h2, h3⟩ := asg_L3 hS ((costs.getD 0 []).length + 1 - 1 + 1) 1 0 1152921504606846976 least way (by omega) (Th.Sc.init hS)
    rw [h1, elim_next]
    dsimp only
    obtain ⟨j1, v', u', le', h4, h5, h6⟩ := asg_L4 (delta := delta) hS (((used.set at_ true).length - 0) + 1) 0 v u least' (by rw [List.length_set, hS.lus]; omega) (Th.Up.init hS.inn.lu hS.inn.lv h3.lle)
    rw [h4, elim_next]
    dsimp only
    have hR := Th.Up.risen hS h3 h2 h6 h5
    by_cases h0 : (rowOf.set 0 (i : Int)).getD to 0 = 0
    · rw [decide_eq_true h0, cond_true]
      exact ⟨_, _, _, _, _, _, rfl, sr_ax hS h3 hR h0⟩
    · rw [decide_eq_false h0, cond_false]
      exact ih _ _ _ _ _ _ (by have := sr_mu hS; omega) (sr_next hS h3 hR h0)
theorem asg_L5 {n m : Nat} {C : Nat → Nat → Int} : ∀ (fuel : Nat) (x : Int) (rowOf : List Int), 0 ≤ x → Th.dep 0 way (m + 1) x.toNat < fuel → Th.Ax n m C i u v way rowOf x.toNat →
    ∃ x' rowOf', F_impl_assigned_L5 way fuel (x, rowOf) = .next (x', rowOf') ∧ Th.Hu n m C i u v rowOf' := by
  intro fuel
  induction fuel with
  | zero => intro x rowOf _ hf; omega
  | succ mf ih =>
    intro x rowOf hx hf hA
    rw [F_impl_assigned_L5_s]
    by_cases h0 : x = 0
    · rw [decide_eq_true h0, Bool.not_true, cond_false]
      have e : x.toNat = 0 := by omega
      rw [e] at hA
      exact ⟨x, rowOf, rfl, hA.hu⟩
    · rw [decide_eq_false h0, Bool.not_false, cond_true]
      obtain ⟨h1, h2, h3, _⟩ := ax_step hx hA h0
      exact ih _ _ h1 (by omega) h2
theorem asg_L1 (h : Cs costs) (hn : costs.length < (costs.getD 0 []).length ∧ (costs.getD 0 []).length ≤ 63) : ∀ (fuel i : Nat) (rowOf v u : List Int), costs.length + 1 - i < fuel → 1 ≤ i → i ≤ costs.length + 1 → Th.Hu costs.length (costs.getD 0 []).length (hC costs) (i - 1) u v rowOf →
    ∃ i' rowOf' v' u', F_impl_assigned_L1 costs fuel (i, rowOf, v, u) = .next (i', rowOf', v', u') ∧ Th.Hu costs.length (costs.getD 0 []).length (hC costs) costs.length u' v' rowOf' := by
  intro fuel
  induction fuel with
  | zero => intro i rowOf v u hf; omega
  | succ mf ih =>
    intro i rowOf v u hf h1 h2 hH
    rw [F_impl_assigned_L1_s]
    by_cases hc : (i : Int) ≤ (costs.length : Int)
    · rw [decide_eq_true hc, cond_true]
      have hrep := repeat_eq (1152921504606846976) (((costs.getD 0 []).length : Int) + 1) (by omega) (by omega)
      have hS := sr_init hH h1 (by omega) hrep
      obtain ⟨at', used', least', way', v', u', h3, h4⟩ := asg_L2 ((costs.getD 0 []).length + 1 - (List.replicate ((costs.getD 0 []).length + 1) false).countP id + 1) 0 _ _ _ v u (by omega) hS
      rw [h3, elim_next]
      dsimp only
      obtain ⟨x', rowOf', h5, h6⟩ := asg_L5 (Th.dep 0 way' ((costs.getD 0 []).length + 1) ((at' : Int)).toNat + 1) (at' : Int) (rowOf.set 0 (i : Int)) (by omega) (by omega) h4
      rw [h5, elim_next]
      exact ih (i + 1) rowOf' v' u' (by omega) (by omega) (by omega) (by rw [show i + 1 - 1 = i by omega]; exact h6)
    · rw [decide_eq_false hc, cond_false]
      exact ⟨i, rowOf, v, u, rfl, hu_end hH (by omega)⟩
theorem asg_L6 (hH : Th.Hu costs.length (costs.getD 0 []).length (hC costs) costs.length u v rowOf) : ∀ (fuel j : Nat) (s : Int) (out : List Int), (costs.getD 0 []).length + 1 - j < fuel → 1 ≤ j → j ≤ (costs.getD 0 []).length + 1 →
    Th.Ot costs.length (costs.getD 0 []).length rowOf j out → s = Th.sumTo (Th.colCost (hC costs) rowOf) (j - 1) →
    ∃ j' out', F_impl_assigned_L6 costs rowOf fuel (s, j, out) = .next (Th.sumTo (Th.colCost (hC costs) rowOf) (costs.getD 0 []).length, j', out') ∧ Th.Ot costs.length (costs.getD 0 []).length rowOf ((costs.getD 0 []).length + 1) out' := by
  intro fuel
  induction fuel with
  | zero => intro j s out hf; omega
  | succ mf ih =>
    intro j s out hf h1 h2 hO hs
    rw [F_impl_assigned_L6_s]
    by_cases hc : (j : Int) ≤ ((costs.getD 0 []).length : Int)
    · rw [decide_eq_true hc, cond_true]
      have hstep : Th.sumTo (Th.colCost (hC costs) rowOf) (j + 1 - 1) = Th.sumTo (Th.colCost (hC costs) rowOf) (j - 1) + Th.colCost (hC costs) rowOf (j - 1) := by
        obtain ⟨q, rfl⟩ : ∃ q, j = q + 1 := ⟨j - 1, by omega⟩
        rfl
      have hcc : Th.colCost (hC costs) rowOf (j - 1) = if 0 < rowOf.getD j 0 then hC costs (rowOf.getD j 0).toNat j else 0 := by
        unfold Th.colCost; rw [show j - 1 + 1 = j by omega]
      by_cases h0 : 0 < rowOf.getD j 0
      · rw [decide_eq_true h0, cond_true]
        refine ih (j + 1) _ _ (by omega) (by omega) (by omega) (hO.yes hH h1 (by omega) h0) ?_
        rw [hstep, hcc, if_pos h0, hs]
        unfold hC
        rw [show (rowOf.getD j 0 - 1).toNat = (rowOf.getD j 0).toNat - 1 by omega, show ((j : Int) - 1).toNat = j - 1 by omega]
      · rw [decide_eq_false h0, cond_false]
        refine ih (j + 1) _ _ (by omega) (by omega) (by omega) (hO.no h0) ?_
        rw [hstep, hcc, if_neg h0, hs]; omega
    · rw [decide_eq_false hc, cond_false]
      have e : j = (costs.getD 0 []).length + 1 := by omega
      subst e
      exact ⟨_, out, by rw [hs]; rfl, hO⟩
end
/-- What is returned for costs. -/
structure As (costs : List (List Int)) (res : List Int × Int) : Prop where
  len : res.1.length = costs.length
  cert : ∃ p r, Th.Cert costs.length (costs.getD 0 []).length (fun l x => hC costs (x + 1) (l + 1)) (fun _ _ => True) (Th.colOf res.1) p r
  rng : ∀ x, x < costs.length → 0 ≤ res.1.getD x 0 ∧ res.1.getD x 0 < ((costs.getD 0 []).length : Int)
  sum : res.2 = Th.cost (fun l x => hC costs (x + 1) (l + 1)) (Th.colOf res.1) costs.length
theorem assigned_as {costs : List (List Int)} (h : Cs costs) : As costs (F_impl_assigned costs) := by
  unfold F_impl_assigned
  by_cases h0 : (costs.length : Int) = 0
  · rw [decide_eq_true h0, cond_true]
    have e : costs.length = 0 := by omega
    rw [List.length_eq_zero_iff] at e
    subst e
    exact ⟨rfl, ⟨fun _ => 0, fun _ => 0, ⟨fun i hi => absurd hi (by simp), fun i hi => absurd hi (by simp), fun i j hi => absurd hi (by simp)⟩, fun i l hi => absurd hi (by simp), fun _ _ => Int.le_refl _, fun i hi => absurd hi (by simp), fun _ _ _ => rfl⟩, fun x hx => absurd hx (by simp), rfl⟩
  · rw [decide_eq_false h0, cond_false]
    have hnm := h.nm (by omega)
    obtain ⟨i', rowOf, v, u, h1, h2⟩ := asg_L1 h hnm (costs.length + 1 - 1 + 1) 1 (List.replicate ((costs.getD 0 []).length + 1) 0) (List.replicate ((costs.getD 0 []).length + 1) 0) (List.replicate (costs.length + 1) 0) (by omega) (by omega) (by omega) (hu_start h hnm)
    rw [h1, elim_next]
    dsimp only
    obtain ⟨j', out, h3, h4⟩ := asg_L6 h2 ((costs.getD 0 []).length + 1 - 1 + 1) 1 0 (List.replicate costs.length 0) (by omega) (by omega) (by omega) ⟨by simp, fun j x g1 g2 => by omega⟩ rfl
    rw [h3, elim_next]
    obtain ⟨h5, h6⟩ := h2.cert h4
    exact ⟨h4.len, ⟨_, _, h5⟩, h6, h2.sum h4⟩
end Go.Proofs.Ytcmhgkcifejgcaa
namespace Go.Proofs.Ytcmhgkcifejgcaa
set_option linter.unusedVariables false
set_option linter.unusedSimpArgs false
open Go Go.RowKit
set_option linter.unusedVariables false

def F_impl_FlowCost (m : List (List Int)) (a : List Int) (reqs : List Int) : Int × Bool := (bif !(F_impl_isServed m a reqs) then (0, false) else ((F_impl_assigned ((F_impl_flowOf m a reqs).2)).2, true))

def F_laws_FnExactFlowCost (m : List (List Int)) (a : List Int) (reqs : List Int) : Bool := (bif decide (1048576 < (a.length : Int)) then true else (bif decide (1048576 < (reqs.length : Int)) then true else (bif decide ((F_laws_szMetric m 1048576) < 0) then true else (bif ((!decide ((F_impl_FlowCost (F_laws_toMetric m) (F_laws_toIntS a) (F_laws_toIntS reqs)).1 = (F_spec_FlowCost (F_laws_toMetric m) (F_laws_toIntS a) (F_laws_toIntS reqs)).1)) || (((F_impl_FlowCost (F_laws_toMetric m) (F_laws_toIntS a) (F_laws_toIntS reqs)).2) != ((F_spec_FlowCost (F_laws_toMetric m) (F_laws_toIntS a) (F_laws_toIntS reqs)).2))) then false else (bif !(F_laws_eqMetric (F_laws_toMetric m) (F_laws_toMetric m)) then false else (bif !(F_laws_eqIntS (F_laws_toIntS a) (F_laws_toIntS a)) then false else (bif !(F_laws_eqIntS (F_laws_toIntS reqs) (F_laws_toIntS reqs)) then false else true)))))))


end Go.Proofs.Ytcmhgkcifejgcaa
namespace Go.Proofs.Ytcmhgkcifejgcaa
set_option linter.unusedVariables false
set_option linter.unusedSimpArgs false
open Go Go.RowKit
set_option linter.unusedVariables false

theorem fw_cs {m : List (List Int)} {a reqs : List Int} (h : Sv m a reqs) : Fw m a reqs reqs.length (F_impl_flowOf m a reqs).2 := (flowOf_fw (m := m) (a := a) (reqs := reqs) ⟨h.cf.n3, h.r60⟩).1
theorem fw_wide {m : List (List Int)} {a reqs : List Int} (h : Sv m a reqs) (hn : reqs.length ≠ 0) : ((F_impl_flowOf m a reqs).2.getD 0 []).length = a.length + reqs.length := (fw_cs h).row 0 (by omega)
theorem cs_flow {m : List (List Int)} {a reqs : List Int} (h : Sv m a reqs) : Cs (F_impl_flowOf m a reqs).2 := by
  have hF := fw_cs h
  have hb := flow_bd h
  have h60 := h.r60
  have hk := h.cf.n1
  have hk3 := h.cf.n3
  have hlen := hF.len
  refine ⟨by omega, fun i hi => ?_, fun hn => ?_, hb.2.2⟩
  · rw [hF.row i (by omega), fw_wide h (by omega)]
  · rw [fw_wide h (by omega)]; omega
section
variable {m : List (List Int)} {a reqs : List Int}
/-- The cost of a column in the program's table. -/
theorem hC_flow (h : Sv m a reqs) {l x : Nat} (hx : x < reqs.length) (hl : l < a.length + reqs.length) : hC (F_impl_flowOf m a reqs).2 (x + 1) (l + 1) = if l < a.length + x then gap m a reqs l x else 1073741824 := by
  unfold hC
  exact (fw_cs h).el x l hx hl
theorem sumTo_nn {f : Nat → Int} : ∀ {n : Nat}, (∀ i, i < n → 0 ≤ f i) → 0 ≤ Th.sumTo f n ∧ ∀ i, i < n → f i ≤ Th.sumTo f n
  | 0, _ => ⟨Int.le_refl _, fun i hi => by omega⟩
  | n + 1, h => by
    obtain ⟨h1, h2⟩ := sumTo_nn (f := f) (n := n) fun i hi => h i (by omega)
    have h3 := h n (by omega)
    rw [Th.sumTo_succ]
    refine ⟨by omega, fun i hi => ?_⟩
    by_cases e : i = n
    · subst e; omega
    · have := h2 i (by omega); omega
theorem sumTo_up {f : Nat → Int} {B : Int} : ∀ {n : Nat}, (∀ i, i < n → f i ≤ B) → Th.sumTo f n ≤ B * n
  | 0, _ => by simp [Th.sumTo]
  | n + 1, h => by
    have h1 := sumTo_up (f := f) (B := B) (n := n) fun i hi => h i (by omega)
    have h3 := h n (by omega)
    rw [Th.sumTo_succ, show ((n + 1 : Nat) : Int) = (n : Int) + 1 by omega, Int.mul_add]; omega
/-- A table of a flow, some rows perhaps with one column alone. -/
structure Ft (m : List (List Int)) (a reqs : List Int) (ok : Nat → Nat → Prop) (costs : List (List Int)) : Prop where
  cs : Cs costs
  len : costs.length = reqs.length
  wide : reqs.length ≠ 0 → (costs.getD 0 []).length = a.length + reqs.length
  yes : ∀ l x, x < reqs.length → l < a.length + reqs.length → ok l x → l < a.length + x ∧ hC costs (x + 1) (l + 1) = gap m a reqs l x
  no : ∀ l x, x < reqs.length → l < a.length + reqs.length → ¬ ok l x → hC costs (x + 1) (l + 1) = 1073741824
/-- What costs least in the table costs least of all that may be, if there is any. -/
theorem Ft.best {ok : Nat → Nat → Prop} {costs : List (List Int)} (h : Sv m a reqs) (hT : Ft m a reqs ok costs) {M : Nat → Nat} (hM : Th.Mt reqs.length (a.length + reqs.length) ok M) :
    Th.Mt reqs.length (a.length + reqs.length) ok (Th.colOf (F_impl_assigned costs).1) ∧ (F_impl_assigned costs).1.length = reqs.length ∧ (∀ x, x < reqs.length → 0 ≤ (F_impl_assigned costs).1.getD x 0) ∧
      (F_impl_assigned costs).2 = Th.cost (fun l x => gap m a reqs l x) (Th.colOf (F_impl_assigned costs).1) reqs.length ∧ (F_impl_assigned costs).2 ≤ Th.cost (fun l x => gap m a reqs l x) M reqs.length := by
  have hA := assigned_as hT.cs
  have hlen := hT.len
  have h60 := h.r60
  obtain ⟨p, r, hK⟩ := hA.cert
  rw [hlen] at hK
  have hw : ∀ x, x < reqs.length → (costs.getD 0 []).length = a.length + reqs.length := fun x hx => hT.wide (by omega)
  have hMlt : ∀ x, x < reqs.length → M x < a.length + reqs.length := hM.lt
  have hM' : Th.Mt reqs.length (costs.getD 0 []).length (fun _ _ => True) M := ⟨fun x hx => by rw [hw x hx]; exact hM.lt x hx, fun _ _ => trivial, hM.inj⟩
  have hb := hK.best hM'
  have e1 : Th.cost (fun l x => hC costs (x + 1) (l + 1)) M reqs.length = Th.cost (fun l x => gap m a reqs l x) M reqs.length := by
    unfold Th.cost
    exact Th.sumTo_congr fun x hx => (hT.yes (M x) x hx (hM.lt x hx) (hM.ok x hx)).2
  have e2 : Th.cost (fun l x => gap m a reqs l x) M reqs.length ≤ 99 * reqs.length := by
    unfold Th.cost
    exact sumTo_up fun x hx => (gap_all h _ _).2
  have hlt : ∀ x, x < reqs.length → Th.colOf (F_impl_assigned costs).1 x < a.length + reqs.length := fun x hx => by rw [← hw x hx]; exact hK.mt.lt x hx
  have hok : ∀ x, x < reqs.length → ok (Th.colOf (F_impl_assigned costs).1 x) x := fun x hx => by
    refine Classical.byContradiction fun hne => ?_
    have h1 := hT.no _ x hx (hlt x hx) hne
    have h2 := (sumTo_nn (f := fun i => hC costs (i + 1) (Th.colOf (F_impl_assigned costs).1 i + 1)) (n := reqs.length) fun i hi => (hT.cs.el _ _).1).2 x hx
    have h3 : Th.cost (fun l x => hC costs (x + 1) (l + 1)) (Th.colOf (F_impl_assigned costs).1) reqs.length ≤ 99 * reqs.length := by rw [e1] at hb; omega
    unfold Th.cost at h3
    dsimp only at h2 h3
    omega
  have e3 : Th.cost (fun l x => hC costs (x + 1) (l + 1)) (Th.colOf (F_impl_assigned costs).1) reqs.length = Th.cost (fun l x => gap m a reqs l x) (Th.colOf (F_impl_assigned costs).1) reqs.length := by
    unfold Th.cost
    exact Th.sumTo_congr fun x hx => (hT.yes _ x hx (hlt x hx) (hok x hx)).2
  have hs := hA.sum
  rw [hlen] at hs
  refine ⟨⟨hlt, hok, hK.mt.inj⟩, by rw [hA.len, hlen], fun x hx => (hA.rng x (by omega)).1, by rw [hs, e3], by rw [hs, ← e1]; exact hb⟩
theorem flow_ft (h : Sv m a reqs) : Ft m a reqs (fun l x => l < a.length + x) (F_impl_flowOf m a reqs).2 :=
  ⟨cs_flow h, (fw_cs h).len, fun hn => fw_wide h hn, fun l x hx hl hk => ⟨hk, by rw [hC_flow h hx hl, if_pos hk]⟩, fun l x hx hl hk => by rw [hC_flow h hx hl, if_neg hk]⟩
/-- The program's matching: as good as the reference's. -/
theorem flow_best (h : Sv m a reqs) : Th.Mt reqs.length (a.length + reqs.length) (fun l x => l < a.length + x) (Th.colOf (F_impl_assigned (F_impl_flowOf m a reqs).2).1) ∧ (F_impl_assigned (F_impl_flowOf m a reqs).2).1.length = reqs.length ∧
    (∀ x, x < reqs.length → 0 ≤ (F_impl_assigned (F_impl_flowOf m a reqs).2).1.getD x 0) ∧ (F_impl_assigned (F_impl_flowOf m a reqs).2).2 = Th.cost (fun l x => gap m a reqs l x) (Th.colOf (F_impl_assigned (F_impl_flowOf m a reqs).2).1) reqs.length ∧
      (F_impl_assigned (F_impl_flowOf m a reqs).2).2 = Th.cost (fun l x => gap m a reqs l x) (Th.colOf (F_spec_l7Flow m a reqs)) reqs.length := by
  obtain ⟨hl, p, r, hA⟩ := flow_aq h
  have hC := hA.cert
  rw [hl] at hC
  obtain ⟨h1, h2, h3, h4, h5⟩ := (flow_ft h).best h hC.mt
  have h6 := hC.best h1
  exact ⟨h1, h2, h3, h4, by omega⟩
end
theorem flowCost_eq (m : List (List Int)) (a reqs : List Int) : F_impl_FlowCost m a reqs = F_spec_FlowCost m a reqs := by
  unfold F_impl_FlowCost F_spec_FlowCost
  rw [served_or]
  cases hs : F_impl_isServed m a reqs with
  | false => rfl
  | true =>
    have h := isServed_t hs
    rw [Bool.not_true, cond_false, cond_false]
    obtain ⟨hl, p, r, hA⟩ := flow_aq h
    have h5 := (flow_best h).2.2.2.2
    rw [l7Cost_eq _ _ _ _ hA.nb, hl, h5]
theorem law_FlowCost (m : List (List Int)) (a reqs : List Int) : F_laws_FnExactFlowCost m a reqs = true := by
  unfold F_laws_FnExactFlowCost
  simp only [toMetric_eq, toIntS_eq, flowCost_eq, eqMetric_refl, eqIntS_refl]
  simp
end Go.Proofs.Ytcmhgkcifejgcaa
namespace Go.Proofs.Ytcmhgkcifejgcaa
set_option linter.unusedVariables false
set_option linter.unusedSimpArgs false
open Go Go.RowKit
set_option linter.unusedVariables false

set_option maxRecDepth 4000 in
set_option maxHeartbeats 1000000 in
theorem cmp_isNaN_int_ok (w : World) (x : Int)  :
    Calls Try.prog 179 ([(.int .i64 x)] : List Value).toArray w (Ret (.bool (F_cmp_isNaN_int x)) (Hp w [])) := by
  obtain ⟨rz, hF⟩ : ∃ rz, (F_cmp_isNaN_int x) = rz := ⟨_, rfl⟩
  rw [hF]
  unfold F_cmp_isNaN_int at hF
  refine calls_tc Try.func179 rfl rfl rfl ?_
  change TC _ _ _ _ (Hp w []) [(0, (.int .i64 x))]
  refine TC.seq ?_
  refine TC.region ?_
  refine TL.op (yq (y_assign ev_c)) rfl rfl rfl ?_
  refine TL.nil ?_
  refine TN.seq ?_
  refine TC.seq ?_
  refine TC.region ?_
  refine TL.op (yq (y_move (ev_t rfl))) rfl rfl rfl ?_
  refine TL.op (yq (y_move (ev_t rfl))) rfl rfl rfl ?_
  refine TL.op (yq (y_neq (ev_t rfl) (ev_t rfl))) rfl rfl rfl ?_
  refine TL.op (yq (y_assign (ev_t rfl))) rfl rfl rfl ?_
  refine TL.nil ?_
  refine TN.seq ?_
  refine TC.ret ?_
  subst hF
  exact TN.ret1 rfl (ev_t rfl) (fun w' hw => ⟨rfl, hw⟩)

set_option maxRecDepth 4000 in
set_option maxHeartbeats 1000000 in
theorem cmp_Less_int_ok (w : World) (x : Int) (y : Int)  :
    Calls Try.prog 169 ([(.int .i64 x), (.int .i64 y)] : List Value).toArray w (Ret (.bool (F_cmp_Less_int x y)) (Hp w [])) := by
  obtain ⟨rz, hF⟩ : ∃ rz, (F_cmp_Less_int x y) = rz := ⟨_, rfl⟩
  rw [hF]
  unfold F_cmp_Less_int at hF
  refine calls_tc Try.func169 rfl rfl rfl ?_
  change TC _ _ _ _ (Hp w []) [(0, (.int .i64 x)), (1, (.int .i64 y))]
  refine TC.seq ?_
  refine TC.region ?_
  refine TL.op (yq (y_assign ev_c)) rfl rfl rfl ?_
  refine TL.nil ?_
  refine TN.seq ?_
  refine TC.seq ?_
  refine TC.region ?_
  refine TL.op (yq (y_move (ev_t rfl))) rfl rfl rfl ?_
  refine TL.op (y_call (vs := [(.int .i64 x)]) (v := (.bool (!decide (x = x)))) en_179 ⟨(ev_t rfl), trivial⟩ (fun w hw => cmp_isNaN_int_ok w x)) rfl rfl rfl ?_
  refine TL.op (yq (y_move (ev_t rfl))) rfl rfl rfl ?_
  refine TL.opw (w_t rfl rfl rfl) (fun hg => yq (y_move (ev_t rfl))) rfl rfl ?_
  refine TL.opw (w_t rfl rfl rfl) (fun hg => y_call (vs := [(.int .i64 y)]) (v := (.bool (!decide (y = y)))) en_179 ⟨(ev_g rfl hg), trivial⟩ (fun w hw => cmp_isNaN_int_ok w y)) rfl rfl ?_
  refine TL.opw (w_t rfl rfl rfl) (fun hg => yq (y_not (ev_g rfl hg))) rfl rfl ?_
  refine TL.op (yq (y_and (ev_t rfl) (fun hq => (ev_g rfl hq)))) rfl rfl rfl ?_
  refine TL.op (yq (y_move (ev_t rfl))) rfl rfl rfl ?_
  refine TL.opw (w_f rfl rfl rfl) (fun hg => yq (y_move (ev_t rfl))) rfl rfl ?_
  refine TL.opw (w_f rfl rfl rfl) (fun hg => yq (y_move (ev_t rfl))) rfl rfl ?_
  refine TL.opw (w_f rfl rfl rfl) (fun hg => yq (y_lss (ev_g rfl hg) (ev_g rfl hg))) rfl rfl ?_
  refine TL.op (yq (y_or (ev_t rfl) (fun hq => (ev_g rfl hq)))) rfl rfl rfl ?_
  refine TL.op (yq (y_assign (ev_t rfl))) rfl rfl rfl ?_
  refine TL.nil ?_
  refine TN.seq ?_
  refine TC.ret ?_
  subst hF
  exact TN.ret1 rfl (ev_t rfl) (fun w' hw => ⟨rfl, hw⟩)

set_option maxRecDepth 4000 in
set_option maxHeartbeats 1000000 in
theorem slices_IndexFunc_Sint_int_ok (w : World) (vs : Value) (s : List Int) (hs : RI w vs s) (kf : Nat) (cf : List Value) (f : Int → Bool) (ef : En Try.prog kf) (hf : ∀ (w' : World) (_ : Below w.heap.size w w') (x0 : Int), Calls Try.prog kf ([(.int .i64 x0)] ++ cf : List Value).toArray w' (Ret (.bool (f x0)) (Hp w' [])))  :
    Calls Try.prog 174 ([vs, (.func (.func kf) #[] cf.toArray)] : List Value).toArray w (Ret (.int .i64 (F_slices_IndexFunc_Sint_int s f)) (Hp w [])) := by
  obtain ⟨rz, hF⟩ : ∃ rz, (F_slices_IndexFunc_Sint_int s f) = rz := ⟨_, rfl⟩
  rw [hF]
  unfold F_slices_IndexFunc_Sint_int at hF
  have hlen_s := arg_len hs
  refine calls_tc Try.func174 rfl rfl rfl ?_
  change TC _ _ _ _ (Hp w []) [(0, vs), (1, (.func (.func kf) #[] cf.toArray))]
  refine TC.seq ?_
  refine TC.region ?_
  refine TL.op (yq (y_assign ev_c)) rfl rfl rfl ?_
  refine TL.nil ?_
  refine TN.seq ?_
  refine TC.seq ?_
  refine TC.seq ?_
  refine TC.region ?_
  refine TL.op (yq (y_move (ev_t rfl))) rfl rfl rfl ?_
  refine TL.op (yq (y_len (ev_t rfl) Try.underlying34 (fun w hw => ((ri_arg hs) w hw).ln))) rfl rfl rfl ?_
  refine TL.op (yq (y_move ev_c)) rfl rfl rfl ?_
  refine TL.nil ?_
  refine TN.seq ?_
  refine TC.block ?_
  obtain ⟨c11, hc12⟩ : ∃ c, F_slices_IndexFunc_Sint_int_L1 s f ((s.length - 0) + 1) 0 = c := ⟨_, rfl⟩
  rw [hc12] at hF
  refine TC.loop (ι := Nat × Nat) (fun (fu1, k8_1) => [(0, vs), (1, (.func (.func kf) #[] cf.toArray)), (7, (.int .i64 (s.length : Int))), (8, (.int .i64 (k8_1 : Int)))]) (fun (fu1, k8_1) => Hp w []) (fun (fu1, k8_1) => (k8_1 ≤ s.length) ∧ s.length - k8_1 < fu1 ∧ F_slices_IndexFunc_Sint_int_L1 s f fu1 k8_1 = c11) (fun (fu1, k8_1) => fu1) ((s.length - 0) + 1, 0) ⟨(by first | omega | (simp [-List.getD_eq_getElem?_getD] <;> omega)), (by omega), hc12⟩ ⟨rfl, rfl, rfl, rfl, trivial⟩ (fun w hw => hw) ?_
  rintro ⟨fu1, k8_1⟩ hJ1
  obtain ⟨hi1_0, hmu1, hL1⟩ : (k8_1 ≤ s.length) ∧ s.length - k8_1 < fu1 ∧ F_slices_IndexFunc_Sint_int_L1 s f fu1 k8_1 = c11 := hJ1
  change TC _ _ _ _ (Hp w []) [(0, vs), (1, (.func (.func kf) #[] cf.toArray)), (7, (.int .i64 (s.length : Int))), (8, (.int .i64 (k8_1 : Int)))]
  obtain ⟨mf1, rfl⟩ : ∃ m, fu1 = m + 1 := ⟨fu1 - 1, by omega⟩
  rw [F_slices_IndexFunc_Sint_int_L1_s] at hL1
  refine TC.seq ?_
  refine TC.region ?_
  refine TL.op (yq (y_lss (ev_t rfl) (ev_t rfl))) rfl rfl rfl ?_
  refine TL.nil ?_
  refine TN.seq ?_
  refine TC.seq ?_
  refine TC.cond (b := decide ((k8_1 : Int) < (s.length : Int))) (ev_t rfl) (fun h13 => ?_) (fun h13 => ?_)
  · rw [bif_pos h13] at hL1
    have q14 := (of_decide_eq_true h13)
    refine TC.skip ?_
    refine TN.seq ?_
    refine TC.seq ?_
    refine TC.block ?_
    refine TC.seq ?_
    refine TC.region ?_
    refine TL.op (yq (y_move (ev_t rfl))) rfl rfl rfl ?_
    refine TL.op (yq (y_assign (ev_t rfl))) rfl rfl rfl ?_
    refine TL.nil ?_
    refine TN.seq ?_
    refine TC.seq ?_
    refine TC.region ?_
    refine TL.op (yq (y_move (ev_t rfl))) rfl rfl rfl ?_
    refine TL.op (yq (y_move (ev_t rfl))) rfl rfl rfl ?_
    refine TL.op (yq (y_move (ev_t rfl))) rfl rfl rfl ?_
    have hb15 : k8_1 < s.length := (by first | omega | (simp only [List.length_set, List.length_append, List.length_cons, List.length_nil, List.length_replicate]; omega) | (rw [sortI_length]; simp only [List.length_cons, List.length_nil]; omega))
    refine TL.op (yq (y_idx (k := k8_1) (ev_t rfl) (ev_t rfl) (by first | omega | simp) slT_34 (ri_arg hs) hb15)) rfl rfl rfl ?_
    refine TL.op (yq (y_ldi (ev_t rfl) one_3 (ri_arg hs) hb15)) rfl rfl rfl ?_
    refine TL.op (y_callv (vs := [(.int .i64 (s.getD k8_1 0))]) (v := (.bool (f (s.getD k8_1 0)))) ef (ev_t rfl) ⟨(ev_t rfl), trivial⟩ (fun w hw => hf w hw.1 (s.getD k8_1 0))) rfl rfl rfl ?_
    refine TL.nil ?_
    refine TN.seq ?_
    refine TC.cond (b := (f (s.getD k8_1 0))) (ev_t rfl) (fun h16 => ?_) (fun h16 => ?_)
    · rw [bif_pos h16] at hL1
      have q17 := h16
      refine TC.seq ?_
      refine TC.region ?_
      refine TL.op (yq (y_move (ev_t rfl))) rfl rfl rfl ?_
      refine TL.op (yq (y_assign (ev_t rfl))) rfl rfl rfl ?_
      refine TL.nil ?_
      refine TN.seq ?_
      refine TC.ret ?_
      refine TN.blockR ?_
      refine TN.thenR ?_
      refine TN.thenR ?_
      rw [← hL1, elim_ret] at hF
      refine TN.blockR ?_
      refine TN.thenR ?_
      subst hF
      exact TN.ret1 rfl (ev_t rfl) (fun w' hw => ⟨rfl, hw⟩)
    · rw [bif_neg h16] at hL1
      have q17 := h16
      refine TC.skip ?_
      refine TN.blockN ?_
      refine TN.seq ?_
      refine TC.region ?_
      refine TL.op (yq (y_add (ev_t rfl) ev_c (by unfold In64; constructor <;> omega))) rfl rfl rfl ?_
      refine TL.op (yq (y_move (ev_t rfl))) rfl rfl rfl ?_
      refine TL.nil ?_
      exact TN.hand (mf1, (k8_1 + 1)) ⟨(by first | omega | (simp [-List.getD_eq_getElem?_getD] <;> omega)), (by omega), hL1⟩ (Nat.lt_succ_self _) ⟨rfl, rfl, rfl, rfl, trivial⟩ (fun w hw => hw)
  · rw [bif_neg h13] at hL1
    have q14 := (of_decide_eq_false h13)
    refine TC.exit ?_
    refine TN.thenE ?_
    refine TN.thenE ?_
    rw [← hL1, elim_next] at hF
    try dsimp only at hF
    refine TN.blockH ?_
    refine TN.seq ?_
    refine TC.seq ?_
    refine TC.region ?_
    refine TL.op (yq (y_assign ev_c)) rfl rfl rfl ?_
    refine TL.nil ?_
    refine TN.seq ?_
    refine TC.ret ?_
    subst hF
    exact TN.ret1 rfl (ev_t rfl) (fun w' hw => ⟨rfl, hw⟩)

set_option maxRecDepth 4000 in
set_option maxHeartbeats 1000000 in
theorem slices_ContainsFunc_Sint_int_ok (w : World) (vs : Value) (s : List Int) (hs : RI w vs s) (kf : Nat) (cf : List Value) (f : Int → Bool) (ef : En Try.prog kf) (hf : ∀ (w' : World) (_ : Below w.heap.size w w') (x0 : Int), Calls Try.prog kf ([(.int .i64 x0)] ++ cf : List Value).toArray w' (Ret (.bool (f x0)) (Hp w' [])))  :
    Calls Try.prog 155 ([vs, (.func (.func kf) #[] cf.toArray)] : List Value).toArray w (Ret (.bool (F_slices_ContainsFunc_Sint_int s f)) (Hp w [])) := by
  obtain ⟨rz, hF⟩ : ∃ rz, (F_slices_ContainsFunc_Sint_int s f) = rz := ⟨_, rfl⟩
  rw [hF]
  unfold F_slices_ContainsFunc_Sint_int at hF
  have hlen_s := arg_len hs
  refine calls_tc Try.func155 rfl rfl rfl ?_
  change TC _ _ _ _ (Hp w []) [(0, vs), (1, (.func (.func kf) #[] cf.toArray))]
  refine TC.seq ?_
  refine TC.region ?_
  refine TL.op (yq (y_assign ev_c)) rfl rfl rfl ?_
  refine TL.nil ?_
  refine TN.seq ?_
  refine TC.seq ?_
  refine TC.region ?_
  refine TL.op (yq (y_move (ev_t rfl))) rfl rfl rfl ?_
  refine TL.op (yq (y_move (ev_t rfl))) rfl rfl rfl ?_
  refine TL.op (y_call (vs := [vs, (.func (.func kf) #[] cf.toArray)]) (v := (.int .i64 (F_slices_IndexFunc_Sint_int s f))) en_174 ⟨(ev_t rfl), (ev_t rfl), trivial⟩ (fun w hw => slices_IndexFunc_Sint_int_ok w vs s ((ri_arg hs) w hw) kf cf f ef (fun w2 hb => hf w2 (hw.1.trans (hb.mono hw.1.size))))) rfl rfl rfl ?_
  refine TL.op (yq (y_geq (ev_t rfl) ev_c)) rfl rfl rfl ?_
  refine TL.op (yq (y_assign (ev_t rfl))) rfl rfl rfl ?_
  refine TL.nil ?_
  refine TN.seq ?_
  refine TC.ret ?_
  subst hF
  exact TN.ret1 rfl (ev_t rfl) (fun w' hw => ⟨rfl, hw⟩)

set_option maxRecDepth 4000 in
set_option maxHeartbeats 1000000 in
theorem slices_IndexFunc_SSint_Sint_ok (w : World) (vs : Value) (us : List Value) (s : List (List Int)) (hs : RII w vs us s) (kf : Nat) (cf : List Value) (f : List Int → Bool) (ef : En Try.prog kf) (hf : ∀ (w' : World) (_ : Below w.heap.size w w') (vx0 : Value) (x0 : List Int) (_ : RI w' vx0 x0), Calls Try.prog kf ([vx0] ++ cf : List Value).toArray w' (Ret (.bool (f x0)) (Hp w' [])))  :
    Calls Try.prog 175 ([vs, (.func (.func kf) #[] cf.toArray)] : List Value).toArray w (Ret (.int .i64 (F_slices_IndexFunc_SSint_Sint s f)) (Hp w [])) := by
  obtain ⟨rz, hF⟩ : ∃ rz, (F_slices_IndexFunc_SSint_Sint s f) = rz := ⟨_, rfl⟩
  rw [hF]
  unfold F_slices_IndexFunc_SSint_Sint at hF
  have hlen_s := argT_len hs
  refine calls_tc Try.func175 rfl rfl rfl ?_
  change TC _ _ _ _ (Hp w []) [(0, vs), (1, (.func (.func kf) #[] cf.toArray))]
  refine TC.seq ?_
  refine TC.region ?_
  refine TL.op (yq (y_assign ev_c)) rfl rfl rfl ?_
  refine TL.nil ?_
  refine TN.seq ?_
  refine TC.seq ?_
  refine TC.seq ?_
  refine TC.region ?_
  refine TL.op (yq (y_move (ev_t rfl))) rfl rfl rfl ?_
  refine TL.op (yq (y_len (ev_t rfl) Try.underlying49 (fun w hw => ((fun w hw => ((rii_arg hs) w hw).1) w hw).ln))) rfl rfl rfl ?_
  refine TL.op (yq (y_move ev_c)) rfl rfl rfl ?_
  refine TL.nil ?_
  refine TN.seq ?_
  refine TC.block ?_
  obtain ⟨c13, hc14⟩ : ∃ c, F_slices_IndexFunc_SSint_Sint_L1 s f ((s.length - 0) + 1) 0 = c := ⟨_, rfl⟩
  rw [hc14] at hF
  refine TC.loop (ι := Nat × Nat) (fun (fu1, k8_1) => [(0, vs), (1, (.func (.func kf) #[] cf.toArray)), (7, (.int .i64 (s.length : Int))), (8, (.int .i64 (k8_1 : Int)))]) (fun (fu1, k8_1) => Hp w []) (fun (fu1, k8_1) => (k8_1 ≤ s.length) ∧ s.length - k8_1 < fu1 ∧ F_slices_IndexFunc_SSint_Sint_L1 s f fu1 k8_1 = c13) (fun (fu1, k8_1) => fu1) ((s.length - 0) + 1, 0) ⟨(by first | omega | (simp [-List.getD_eq_getElem?_getD] <;> omega)), (by omega), hc14⟩ ⟨rfl, rfl, rfl, rfl, trivial⟩ (fun w hw => hw) ?_
  rintro ⟨fu1, k8_1⟩ hJ1
  obtain ⟨hi1_0, hmu1, hL1⟩ : (k8_1 ≤ s.length) ∧ s.length - k8_1 < fu1 ∧ F_slices_IndexFunc_SSint_Sint_L1 s f fu1 k8_1 = c13 := hJ1
  change TC _ _ _ _ (Hp w []) [(0, vs), (1, (.func (.func kf) #[] cf.toArray)), (7, (.int .i64 (s.length : Int))), (8, (.int .i64 (k8_1 : Int)))]
  obtain ⟨mf1, rfl⟩ : ∃ m, fu1 = m + 1 := ⟨fu1 - 1, by omega⟩
  rw [F_slices_IndexFunc_SSint_Sint_L1_s] at hL1
  refine TC.seq ?_
  refine TC.region ?_
  refine TL.op (yq (y_lss (ev_t rfl) (ev_t rfl))) rfl rfl rfl ?_
  refine TL.nil ?_
  refine TN.seq ?_
  refine TC.seq ?_
  refine TC.cond (b := decide ((k8_1 : Int) < (s.length : Int))) (ev_t rfl) (fun h15 => ?_) (fun h15 => ?_)
  · rw [bif_pos h15] at hL1
    have q16 := (of_decide_eq_true h15)
    refine TC.skip ?_
    refine TN.seq ?_
    refine TC.seq ?_
    refine TC.block ?_
    refine TC.seq ?_
    refine TC.region ?_
    refine TL.op (yq (y_move (ev_t rfl))) rfl rfl rfl ?_
    refine TL.op (yq (y_assign (ev_t rfl))) rfl rfl rfl ?_
    refine TL.nil ?_
    refine TN.seq ?_
    refine TC.seq ?_
    refine TC.region ?_
    refine TL.op (yq (y_move (ev_t rfl))) rfl rfl rfl ?_
    refine TL.op (yq (y_move (ev_t rfl))) rfl rfl rfl ?_
    refine TL.op (yq (y_move (ev_t rfl))) rfl rfl rfl ?_
    have hb17 : k8_1 < s.length := (by first | omega | (simp only [List.length_set, List.length_append, List.length_cons, List.length_nil, List.length_replicate]; omega) | (rw [sortI_length]; simp only [List.length_cons, List.length_nil]; omega))
    refine TL.op (yq (y_idx (k := k8_1) (ev_t rfl) (ev_t rfl) (by first | omega | simp) slT_49 (fun w hw => ((rii_arg hs) w hw).1) hb17)) rfl rfl rfl ?_
    have ha18 := hs.row (i := k8_1) hb17
    refine TL.op (yq (y_ldA (ev_t rfl) one_34 (rii_arg hs) hb17)) rfl rfl rfl ?_
    refine TL.op (y_callv (vs := [(us.getD k8_1 undef)]) (v := (.bool (f (s.getD k8_1 [])))) ef (ev_t rfl) ⟨(ev_t rfl), trivial⟩ (fun w hw => hf w hw.1 (us.getD k8_1 undef) (s.getD k8_1 []) ((ri_arg ha18) w hw))) rfl rfl rfl ?_
    refine TL.nil ?_
    refine TN.seq ?_
    refine TC.cond (b := (f (s.getD k8_1 []))) (ev_t rfl) (fun h19 => ?_) (fun h19 => ?_)
    · rw [bif_pos h19] at hL1
      have q20 := h19
      refine TC.seq ?_
      refine TC.region ?_
      refine TL.op (yq (y_move (ev_t rfl))) rfl rfl rfl ?_
      refine TL.op (yq (y_assign (ev_t rfl))) rfl rfl rfl ?_
      refine TL.nil ?_
      refine TN.seq ?_
      refine TC.ret ?_
      refine TN.blockR ?_
      refine TN.thenR ?_
      refine TN.thenR ?_
      rw [← hL1, elim_ret] at hF
      refine TN.blockR ?_
      refine TN.thenR ?_
      subst hF
      exact TN.ret1 rfl (ev_t rfl) (fun w' hw => ⟨rfl, hw⟩)
    · rw [bif_neg h19] at hL1
      have q20 := h19
      refine TC.skip ?_
      refine TN.blockN ?_
      refine TN.seq ?_
      refine TC.region ?_
      refine TL.op (yq (y_add (ev_t rfl) ev_c (by unfold In64; constructor <;> omega))) rfl rfl rfl ?_
      refine TL.op (yq (y_move (ev_t rfl))) rfl rfl rfl ?_
      refine TL.nil ?_
      exact TN.hand (mf1, (k8_1 + 1)) ⟨(by first | omega | (simp [-List.getD_eq_getElem?_getD] <;> omega)), (by omega), hL1⟩ (Nat.lt_succ_self _) ⟨rfl, rfl, rfl, rfl, trivial⟩ (fun w hw => hw)
  · rw [bif_neg h15] at hL1
    have q16 := (of_decide_eq_false h15)
    refine TC.exit ?_
    refine TN.thenE ?_
    refine TN.thenE ?_
    rw [← hL1, elim_next] at hF
    try dsimp only at hF
    refine TN.blockH ?_
    refine TN.seq ?_
    refine TC.seq ?_
    refine TC.region ?_
    refine TL.op (yq (y_assign ev_c)) rfl rfl rfl ?_
    refine TL.nil ?_
    refine TN.seq ?_
    refine TC.ret ?_
    subst hF
    exact TN.ret1 rfl (ev_t rfl) (fun w' hw => ⟨rfl, hw⟩)

set_option maxRecDepth 4000 in
set_option maxHeartbeats 1000000 in
theorem slices_ContainsFunc_SSint_Sint_ok (w : World) (vs : Value) (us : List Value) (s : List (List Int)) (hs : RII w vs us s) (kf : Nat) (cf : List Value) (f : List Int → Bool) (ef : En Try.prog kf) (hf : ∀ (w' : World) (_ : Below w.heap.size w w') (vx0 : Value) (x0 : List Int) (_ : RI w' vx0 x0), Calls Try.prog kf ([vx0] ++ cf : List Value).toArray w' (Ret (.bool (f x0)) (Hp w' [])))  :
    Calls Try.prog 159 ([vs, (.func (.func kf) #[] cf.toArray)] : List Value).toArray w (Ret (.bool (F_slices_ContainsFunc_SSint_Sint s f)) (Hp w [])) := by
  obtain ⟨rz, hF⟩ : ∃ rz, (F_slices_ContainsFunc_SSint_Sint s f) = rz := ⟨_, rfl⟩
  rw [hF]
  unfold F_slices_ContainsFunc_SSint_Sint at hF
  have hlen_s := argT_len hs
  refine calls_tc Try.func159 rfl rfl rfl ?_
  change TC _ _ _ _ (Hp w []) [(0, vs), (1, (.func (.func kf) #[] cf.toArray))]
  refine TC.seq ?_
  refine TC.region ?_
  refine TL.op (yq (y_assign ev_c)) rfl rfl rfl ?_
  refine TL.nil ?_
  refine TN.seq ?_
  refine TC.seq ?_
  refine TC.region ?_
  refine TL.op (yq (y_move (ev_t rfl))) rfl rfl rfl ?_
  refine TL.op (yq (y_move (ev_t rfl))) rfl rfl rfl ?_
  refine TL.op (y_call (vs := [vs, (.func (.func kf) #[] cf.toArray)]) (v := (.int .i64 (F_slices_IndexFunc_SSint_Sint s f))) en_175 ⟨(ev_t rfl), (ev_t rfl), trivial⟩ (fun w hw => slices_IndexFunc_SSint_Sint_ok w vs us s ((rii_arg hs) w hw) kf cf f ef (fun w2 hb => hf w2 (hw.1.trans (hb.mono hw.1.size))))) rfl rfl rfl ?_
  refine TL.op (yq (y_geq (ev_t rfl) ev_c)) rfl rfl rfl ?_
  refine TL.op (yq (y_assign (ev_t rfl))) rfl rfl rfl ?_
  refine TL.nil ?_
  refine TN.seq ?_
  refine TC.ret ?_
  subst hF
  exact TN.ret1 rfl (ev_t rfl) (fun w' hw => ⟨rfl, hw⟩)

set_option maxRecDepth 4000 in
set_option maxHeartbeats 1000000 in
theorem slices_IsSorted_Sint_int_ok (w : World) (vx : Value) (x : List Int) (hx : RI w vx x)  :
    Calls Try.prog 149 ([vx] : List Value).toArray w (Ret (.bool (F_slices_IsSorted_Sint_int x)) (Hp w [])) := by
  obtain ⟨rz, hF⟩ : ∃ rz, (F_slices_IsSorted_Sint_int x) = rz := ⟨_, rfl⟩
  rw [hF]
  unfold F_slices_IsSorted_Sint_int at hF
  have hlen_x := arg_len hx
  refine calls_tc Try.func149 rfl rfl rfl ?_
  change TC _ _ _ _ (Hp w []) [(0, vx)]
  refine TC.seq ?_
  refine TC.region ?_
  refine TL.op (yq (y_assign ev_c)) rfl rfl rfl ?_
  refine TL.nil ?_
  refine TN.seq ?_
  refine TC.seq ?_
  refine TC.seq ?_
  refine TC.region ?_
  refine TL.op (yq (y_move (ev_t rfl))) rfl rfl rfl ?_
  refine TL.op (yq (y_len (ev_t rfl) Try.underlying34 (fun w hw => ((ri_arg hx) w hw).ln))) rfl rfl rfl ?_
  refine TL.op (yq (y_sub (ev_t rfl) ev_c (by unfold In64; constructor <;> omega))) rfl rfl rfl ?_
  refine TL.op (yq (y_assign (ev_t rfl))) rfl rfl rfl ?_
  refine TL.nil ?_
  refine TN.seq ?_
  refine TC.block ?_
  obtain ⟨c13, hc14⟩ : ∃ c, F_slices_IsSorted_Sint_int_L1 x (((((x.length : Int) - 1) + 1).toNat) + 1) ((x.length : Int) - 1) = c := ⟨_, rfl⟩
  rw [hc14] at hF
  refine TC.loop (ι := Nat × Int) (fun (fu1, i1) => [(0, vx), (3, (.int .i64 i1))]) (fun (fu1, i1) => Hp w []) (fun (fu1, i1) => (i1 < x.length) ∧ (-1 ≤ i1) ∧ (i1 + 1).toNat < fu1 ∧ F_slices_IsSorted_Sint_int_L1 x fu1 i1 = c13) (fun (fu1, i1) => fu1) (((((x.length : Int) - 1) + 1).toNat) + 1, (x.length : Int) - 1) ⟨(by first | omega | (simp [-List.getD_eq_getElem?_getD] <;> omega)), (by first | omega | (simp [-List.getD_eq_getElem?_getD] <;> omega)), (by omega), hc14⟩ ⟨rfl, rfl, trivial⟩ (fun w hw => hw) ?_
  rintro ⟨fu1, i1⟩ hJ1
  obtain ⟨hi1_0, hi1_1, hmu1, hL1⟩ : (i1 < x.length) ∧ (-1 ≤ i1) ∧ (i1 + 1).toNat < fu1 ∧ F_slices_IsSorted_Sint_int_L1 x fu1 i1 = c13 := hJ1
  change TC _ _ _ _ (Hp w []) [(0, vx), (3, (.int .i64 i1))]
  obtain ⟨mf1, rfl⟩ : ∃ m, fu1 = m + 1 := ⟨fu1 - 1, by omega⟩
  rw [F_slices_IsSorted_Sint_int_L1_s] at hL1
  refine TC.seq ?_
  refine TC.seq ?_
  refine TC.region ?_
  refine TL.op (yq (y_move (ev_t rfl))) rfl rfl rfl ?_
  refine TL.op (yq (y_gtr (ev_t rfl) ev_c)) rfl rfl rfl ?_
  refine TL.nil ?_
  refine TN.seq ?_
  refine TC.cond (b := decide (0 < i1)) (ev_t rfl) (fun h15 => ?_) (fun h15 => ?_)
  · rw [bif_pos h15] at hL1
    have q16 := (of_decide_eq_true h15)
    refine TC.skip ?_
    refine TN.seq ?_
    refine TC.seq ?_
    refine TC.block ?_
    refine TC.seq ?_
    refine TC.regionQ (by kernel_rfl) (by kernel_rfl) dr_hp ?_
    refine TQ.op (yq (y_move (ev_t rfl))) rfl rfl rfl ?_
    refine TQ.op (yq (y_move (ev_t rfl))) rfl rfl rfl ?_
    have hb17 : (i1).toNat < x.length := (by first | omega | (simp only [List.length_set, List.length_append, List.length_cons, List.length_nil, List.length_replicate]; omega) | (rw [sortI_length]; simp only [List.length_cons, List.length_nil]; omega))
    refine TQ.op (yq (y_idx (k := (i1).toNat) (ev_t rfl) (ev_t rfl) (by first | omega | simp) slT_34 (ri_arg hx) hb17)) rfl rfl rfl ?_
    refine TQ.op (yq (y_ldi (ev_t rfl) one_3 (ri_arg hx) hb17)) rfl rfl rfl ?_
    refine TQ.op (yq (y_move (ev_t rfl))) rfl rfl rfl ?_
    refine TQ.op (yq (y_move (ev_t rfl))) rfl rfl rfl ?_
    refine TQ.op (yq (y_sub (ev_t rfl) ev_c (by unfold In64; constructor <;> omega))) rfl rfl rfl ?_
    have hb18 : (i1 - 1).toNat < x.length := (by first | omega | (simp only [List.length_set, List.length_append, List.length_cons, List.length_nil, List.length_replicate]; omega) | (rw [sortI_length]; simp only [List.length_cons, List.length_nil]; omega))
    refine TQ.op (yq (y_idx (k := (i1 - 1).toNat) (ev_t rfl) (ev_t rfl) (by first | omega | simp) slT_34 (ri_arg hx) hb18)) rfl rfl rfl ?_
    refine TQ.op (yq (y_ldi (ev_t rfl) one_3 (ri_arg hx) hb18)) rfl rfl rfl ?_
    refine TQ.op (y_call (vs := [(.int .i64 (x.getD ((i1).toNat) 0)), (.int .i64 (x.getD ((i1 - 1).toNat) 0))]) (v := (.bool (F_cmp_Less_int (x.getD ((i1).toNat) 0) (x.getD ((i1 - 1).toNat) 0)))) en_169 ⟨(ev_t rfl), (ev_t rfl), trivial⟩ (fun w hw => cmp_Less_int_ok w (x.getD ((i1).toNat) 0) (x.getD ((i1 - 1).toNat) 0))) rfl rfl rfl ?_
    refine TQ.nil ?_
    refine TN.seq ?_
    refine TC.cond (b := (F_cmp_Less_int (x.getD ((i1).toNat) 0) (x.getD ((i1 - 1).toNat) 0))) (ev_t rfl) (fun h19 => ?_) (fun h19 => ?_)
    · rw [bif_pos h19] at hL1
      have q20 := h19
      refine TC.seq ?_
      refine TC.region ?_
      refine TL.op (yq (y_assign ev_c)) rfl rfl rfl ?_
      refine TL.nil ?_
      refine TN.seq ?_
      refine TC.ret ?_
      refine TN.blockR ?_
      refine TN.thenR ?_
      refine TN.thenR ?_
      rw [← hL1, elim_ret] at hF
      refine TN.blockR ?_
      refine TN.thenR ?_
      subst hF
      exact TN.ret1 rfl (ev_t rfl) (fun w' hw => ⟨rfl, hw⟩)
    · rw [bif_neg h19] at hL1
      have q20 := h19
      refine TC.skip ?_
      refine TN.blockN ?_
      refine TN.seq ?_
      refine TC.region ?_
      refine TL.op (yq (y_move (ev_t rfl))) rfl rfl rfl ?_
      refine TL.op (yq (y_sub (ev_t rfl) ev_c (by unfold In64; constructor <;> omega))) rfl rfl rfl ?_
      refine TL.op (yq (y_assign (ev_t rfl))) rfl rfl rfl ?_
      refine TL.nil ?_
      exact TN.hand (mf1, i1 - 1) ⟨(by first | omega | (simp [-List.getD_eq_getElem?_getD] <;> omega)), (by first | omega | (simp [-List.getD_eq_getElem?_getD] <;> omega)), (by omega), hL1⟩ (Nat.lt_succ_self _) ⟨rfl, rfl, trivial⟩ (fun w hw => hw)
  · rw [bif_neg h15] at hL1
    have q16 := (of_decide_eq_false h15)
    refine TC.exit ?_
    refine TN.thenE ?_
    refine TN.thenE ?_
    rw [← hL1, elim_next] at hF
    try dsimp only at hF
    refine TN.blockH ?_
    refine TN.seq ?_
    refine TC.seq ?_
    refine TC.region ?_
    refine TL.op (yq (y_assign ev_c)) rfl rfl rfl ?_
    refine TL.nil ?_
    refine TN.seq ?_
    refine TC.ret ?_
    subst hF
    exact TN.ret1 rfl (ev_t rfl) (fun w' hw => ⟨rfl, hw⟩)

set_option maxRecDepth 4000 in
set_option maxHeartbeats 1000000 in
theorem slices_Repeat_Sint_int_ok (w : World) (vx : Value) (x : List Int) (hx : RI w vx x) (count : Int) (hp0 : x.length = 1) (hp1 : 0 ≤ count) (hp2 : count ≤ 1000000) :
    Calls Try.prog 79 ([vx, (.int .i64 count)] : List Value).toArray w (fun e w' => ∃ i : Value, e = .returned i ∧ Hp w [rowI 3 i (F_slices_Repeat_Sint_int x count)] w') := by
  obtain ⟨rz, hF⟩ : ∃ rz, (F_slices_Repeat_Sint_int x count) = rz := ⟨_, rfl⟩
  rw [hF]
  unfold F_slices_Repeat_Sint_int at hF
  have hmu := mulU_one hp0 hp1 hp2
  have hmu1 := hmu.1
  have hmu2 := hmu.2
  have hlen_x := arg_len hx
  refine calls_tc Try.func79 rfl rfl rfl ?_
  change TC _ _ _ _ (Hp w []) [(0, vx), (1, (.int .i64 count))]
  refine TC.seq ?_
  refine TC.region ?_
  refine TL.op (yq (y_assign ev_c)) rfl rfl rfl ?_
  refine TL.nil ?_
  refine TN.seq ?_
  obtain ⟨c57, hcj1⟩ : ∃ c, ((bif decide (count < 0) then default else (Ctl.next ())) : Ctl (Unit) (List Int)) = c := ⟨_, rfl⟩
  rw [hcj1] at hF
  refine TC.cut (fun a' w' => Slots 48 [(0, vx), (1, (.int .i64 count))] a' ∧ Hp w [] w' ∧ (Ctl.next () : Ctl (Unit) (List Int)) = c57) ?_ ?_
  · refine TC.seq ?_
    refine TC.region ?_
    refine TL.op (yq (y_move (ev_t rfl))) rfl rfl rfl ?_
    refine TL.op (yq (y_lss (ev_t rfl) ev_c)) rfl rfl rfl ?_
    refine TL.nil ?_
    refine TN.seq ?_
    refine TC.cond (b := decide (count < 0)) (ev_t rfl) (fun h58 => ?_) (fun h58 => ?_)
    · rw [bif_pos h58] at hcj1
      have q59 := (of_decide_eq_true h58)
      exfalso; omega
    · rw [bif_neg h58] at hcj1
      have q59 := (of_decide_eq_false h58)
      refine TC.skip ?_
      exact fun a' w' hs hw => ⟨hs.sub ⟨rfl, rfl, trivial⟩, hw, hcj1⟩
  · rintro a' w' ⟨hs', hw', hdj1⟩
    rw [← hdj1, elim_next] at hF
    try dsimp only at hF
    refine (?_ : TC _ _ _ 48 (Hp w []) [(0, vx), (1, (.int .i64 count))]) a' w' hs' hw'
    clear hs' hw' hcj1
    refine TC.seq ?_
    refine TC.region ?_
    refine TL.op (yq (y_move (ev_t rfl))) rfl rfl rfl ?_
    refine TL.op (yq (y_len (ev_t rfl) Try.underlying34 (fun w hw => ((ri_arg hx) w hw).ln))) rfl rfl rfl ?_
    refine TL.op (yq (y_conv_u64 (ev_t rfl) Try.underlying3 Try.underlying129 (by first | omega | (simp only [List.length_set, List.length_append, List.length_cons, List.length_nil, List.length_replicate]; omega) | (rw [sortI_length]; simp only [List.length_cons, List.length_nil]; omega)))) rfl rfl rfl ?_
    refine TL.op (yq (y_move (ev_t rfl))) rfl rfl rfl ?_
    refine TL.op (yq (y_conv_u64 (ev_t rfl) Try.underlying3 Try.underlying129 (by first | omega | (simp only [List.length_set, List.length_append, List.length_cons, List.length_nil, List.length_replicate]; omega) | (rw [sortI_length]; simp only [List.length_cons, List.length_nil]; omega)))) rfl rfl rfl ?_
    refine TL.op (y_call (vs := [(.int .u64 (x.length : Int)), (.int .u64 count)]) (v := (.tuple #[(.int .u64 ((mulU (x.length : Int) count).1)), (.int .u64 ((mulU (x.length : Int) count).2))])) en_124 ⟨(ev_t rfl), (ev_t rfl), trivial⟩ (fun w hw => bits_Mul_ok w (x.length : Int) count (by omega) (by omega) (by omega) (by omega))) rfl rfl rfl ?_
    refine TL.op (yq (y_move (ev_t rfl))) rfl rfl rfl ?_
    refine TL.op (yq (y_extract (ev_t rfl) rfl)) rfl rfl rfl ?_
    refine TL.op (yq (y_extract (ev_t rfl) rfl)) rfl rfl rfl ?_
    refine TL.op (yq (y_assign (ev_t rfl))) rfl rfl rfl ?_
    refine TL.op (yq (y_assign (ev_t rfl))) rfl rfl rfl ?_
    refine TL.nil ?_
    refine TN.seq ?_
    obtain ⟨c62, hcj4⟩ : ∃ c, ((bif ((decide (0 < (mulU (x.length : Int) count).1)) || (decide (9223372036854775807 < (mulU (x.length : Int) count).2))) then default else (Ctl.next ())) : Ctl (Unit) (List Int)) = c := ⟨_, rfl⟩
    rw [hcj4] at hF
    refine TC.cut (fun a' w' => Slots 48 [(0, vx), (6, (.int .u64 ((mulU (x.length : Int) count).2)))] a' ∧ Hp w [] w' ∧ (Ctl.next () : Ctl (Unit) (List Int)) = c62) ?_ ?_
    · refine TC.seq ?_
      refine TC.region ?_
      refine TL.op (yq (y_move (ev_t rfl))) rfl rfl rfl ?_
      refine TL.op (yq (y_gtr (ev_t rfl) ev_c)) rfl rfl rfl ?_
      refine TL.op (yq (y_move (ev_t rfl))) rfl rfl rfl ?_
      refine TL.opw (w_f rfl rfl rfl) (fun hg => yq (y_move (ev_t rfl))) rfl rfl ?_
      refine TL.opw (w_f rfl rfl rfl) (fun hg => yq (y_gtr (ev_g rfl hg) ev_c)) rfl rfl ?_
      refine TL.op (yq (y_or (ev_t rfl) (fun hq => (ev_g rfl hq)))) rfl rfl rfl ?_
      refine TL.nil ?_
      refine TN.seq ?_
      refine TC.cond (b := ((decide (0 < (mulU (x.length : Int) count).1)) || (decide (9223372036854775807 < (mulU (x.length : Int) count).2)))) (ev_t rfl) (fun h63 => ?_) (fun h63 => ?_)
      · rw [bif_pos h63] at hcj4
        have q64 := ((or_t h63).imp (fun h => (of_decide_eq_true h)) (fun h => (of_decide_eq_true h)))
        exfalso; omega
      · rw [bif_neg h63] at hcj4
        have q64 := (and_imp (or_f h63) (fun h => (of_decide_eq_false h)) (fun h => (of_decide_eq_false h)))
        refine TC.skip ?_
        exact fun a' w' hs hw => ⟨hs.sub ⟨rfl, rfl, trivial⟩, hw, hcj4⟩
    · rintro a' w' ⟨hs', hw', hdj4⟩
      rw [← hdj4, elim_next] at hF
      try dsimp only at hF
      refine (?_ : TC _ _ _ 48 (Hp w []) [(0, vx), (6, (.int .u64 ((mulU (x.length : Int) count).2)))]) a' w' hs' hw'
      clear hs' hw' hcj4
      refine TC.seq ?_
      refine TC.region ?_
      refine TL.op (yq (y_move (ev_t rfl))) rfl rfl rfl ?_
      refine TL.op (yq (y_conv_i64 (ev_t rfl) Try.underlying129 Try.underlying3 (by first | omega | (simp only [List.length_set, List.length_append, List.length_cons, List.length_nil, List.length_replicate]; omega) | (rw [sortI_length]; simp only [List.length_cons, List.length_nil]; omega)))) rfl rfl rfl ?_
      refine TL.makeSlice (n := ((mulU (x.length : Int) count).2).toNat) (ev_t rfl) (ev_t rfl) (by omega) slT_34 rfl (by omega) (by unfold maxLen; omega) rfl (fun v6_2 => ?_)
      refine TL.cls (fun w hw => hw.zeros) ?_
      refine TL.op (yq (y_assign (ev_t rfl))) rfl rfl rfl ?_
      refine TL.nil ?_
      refine TN.seq ?_
      refine TC.seq ?_
      refine TC.region ?_
      refine TL.op (yq (y_move (ev_t rfl))) rfl rfl rfl ?_
      refine TL.op (yq (y_move (ev_t rfl))) rfl rfl rfl ?_
      refine TL.copyW 0 (qs := x) (ev_t rfl) (ev_t rfl) rfl slT_34 (ri_arg hx) rfl ?_
      refine TL.op (yq (y_assign (ev_t rfl))) rfl rfl rfl ?_
      refine TL.nil ?_
      refine TN.seq ?_
      refine TC.seq ?_
      refine TC.block ?_
      have hd0 : (x.take (List.replicate (((mulU (x.length : Int) count).2).toNat) (0 : Int)).length ++ (List.replicate (((mulU (x.length : Int) count).2).toNat) (0 : Int)).drop (min x.length (List.replicate (((mulU (x.length : Int) count).2).toNat) (0 : Int)).length)).length = count.toNat := by simp; omega
      have hd3 : (List.replicate (((mulU (x.length : Int) count).2).toNat) (0 : Int)).length = count.toNat := by simp; omega
      obtain ⟨c65, hc66⟩ : ∃ c, F_slices_Repeat_Sint_int_L1  (((x.take (List.replicate (((mulU (x.length : Int) count).2).toNat) (0 : Int)).length ++ (List.replicate (((mulU (x.length : Int) count).2).toNat) (0 : Int)).drop (min x.length (List.replicate (((mulU (x.length : Int) count).2).toNat) (0 : Int)).length)).length - (min x.length (List.replicate (((mulU (x.length : Int) count).2).toNat) (0 : Int)).length)) + 1) ((min x.length (List.replicate (((mulU (x.length : Int) count).2).toNat) (0 : Int)).length), (x.take (List.replicate (((mulU (x.length : Int) count).2).toNat) (0 : Int)).length ++ (List.replicate (((mulU (x.length : Int) count).2).toNat) (0 : Int)).drop (min x.length (List.replicate (((mulU (x.length : Int) count).2).toNat) (0 : Int)).length))) = c := ⟨_, rfl⟩
      rw [hc66] at hF
      refine TC.loop (ι := Nat × Nat × List Int) (fun (fu1, n1, newslice1) => [(7, v6_2), (8, (.int .i64 (n1 : Int)))]) (fun (fu1, n1, newslice1) => Hp w [rowI 3 v6_2 newslice1]) (fun (fu1, n1, newslice1) => (n1 ≤ newslice1.length) ∧ (0 < n1 ∨ newslice1.length = 0) ∧ (newslice1.length ≤ 1000000) ∧ newslice1.length - n1 < fu1 ∧ F_slices_Repeat_Sint_int_L1  fu1 (n1, newslice1) = c65) (fun (fu1, n1, newslice1) => fu1) (((x.take (List.replicate (((mulU (x.length : Int) count).2).toNat) (0 : Int)).length ++ (List.replicate (((mulU (x.length : Int) count).2).toNat) (0 : Int)).drop (min x.length (List.replicate (((mulU (x.length : Int) count).2).toNat) (0 : Int)).length)).length - (min x.length (List.replicate (((mulU (x.length : Int) count).2).toNat) (0 : Int)).length)) + 1, (min x.length (List.replicate (((mulU (x.length : Int) count).2).toNat) (0 : Int)).length), (x.take (List.replicate (((mulU (x.length : Int) count).2).toNat) (0 : Int)).length ++ (List.replicate (((mulU (x.length : Int) count).2).toNat) (0 : Int)).drop (min x.length (List.replicate (((mulU (x.length : Int) count).2).toNat) (0 : Int)).length))) ⟨(by first | omega | (simp [-List.getD_eq_getElem?_getD] <;> omega)), (by first | omega | (simp [-List.getD_eq_getElem?_getD] <;> omega)), (by first | omega | (simp [-List.getD_eq_getElem?_getD] <;> omega)), (by omega), hc66⟩ ⟨rfl, rfl, trivial⟩ (fun w hw => hw) ?_
      rintro ⟨fu1, n1, newslice1⟩ hJ1
      obtain ⟨hi1_0, hi1_1, hi1_2, hmu1, hL1⟩ : (n1 ≤ newslice1.length) ∧ (0 < n1 ∨ newslice1.length = 0) ∧ (newslice1.length ≤ 1000000) ∧ newslice1.length - n1 < fu1 ∧ F_slices_Repeat_Sint_int_L1  fu1 (n1, newslice1) = c65 := hJ1
      change TC _ _ _ _ (Hp w [rowI 3 v6_2 newslice1]) [(7, v6_2), (8, (.int .i64 (n1 : Int)))]
      obtain ⟨mf1, rfl⟩ : ∃ m, fu1 = m + 1 := ⟨fu1 - 1, by omega⟩
      rw [F_slices_Repeat_Sint_int_L1_s] at hL1
      have hd1 : ((newslice1.take n1).drop 0).length = n1 := by simp; omega
      have hd2 : (newslice1.take n1 ++ ((newslice1.take n1).drop 0).take (newslice1.length - n1) ++ newslice1.drop (n1 + (min ((newslice1.take n1).drop 0).length (newslice1.length - n1)))).length = newslice1.length := by simp; omega
      refine TC.seq ?_
      refine TC.seq ?_
      refine TC.region ?_
      refine TL.op (yq (y_move (ev_t rfl))) rfl rfl rfl ?_
      refine TL.op (yq (y_move (ev_t rfl))) rfl rfl rfl ?_
      refine TL.op (yq (y_len (ev_t rfl) Try.underlying34 (fun w hw => ((ri_row 0 rfl) w hw).ln))) rfl rfl rfl ?_
      refine TL.op (yq (y_lss (ev_t rfl) (ev_t rfl))) rfl rfl rfl ?_
      refine TL.nil ?_
      refine TN.seq ?_
      refine TC.cond (b := decide ((n1 : Int) < (newslice1.length : Int))) (ev_t rfl) (fun h67 => ?_) (fun h67 => ?_)
      · rw [bif_pos h67] at hL1
        have q68 := (of_decide_eq_true h67)
        refine TC.skip ?_
        refine TN.seq ?_
        refine TC.block ?_
        refine TC.mid (fun a' w' => Slots 48 [(7, v6_2), (8, (.int .i64 ((n1 : Int) + ((min ((newslice1.take n1).drop 0).length (newslice1.length - n1)) : Nat))))] a' ∧ Hp w [rowI 3 v6_2 (newslice1.take n1 ++ ((newslice1.take n1).drop 0).take (newslice1.length - n1) ++ newslice1.drop (n1 + (min ((newslice1.take n1).drop 0).length (newslice1.length - n1))))] w') ?_ ?_
        · refine TC.regionH 10 (Hp w []) rfl (by kernel_rfl) dr_hp (fun w hw => Hp.sublist hw (List.nil_sublist _)) ?_
          refine TH.take 0 rfl (by kernel_rfl) (y_move (ev_t rfl)) rfl rfl rfl ?_
          refine TH.take 1 rfl (by kernel_rfl) (y_move (ev_t rfl)) rfl rfl rfl ?_
          refine TH.take 2 rfl (by kernel_rfl) (y_move (ev_t rfl)) rfl rfl rfl ?_
          refine TH.take 4 rfl (by kernel_rfl) (y_move (ev_t rfl)) rfl rfl rfl ?_
          refine TH.take 5 rfl (by kernel_rfl) (y_move (ev_t rfl)) rfl rfl rfl ?_
          refine TH.loud2 3 6 rfl rfl (by kernel_rfl) ?_ ?_
          · have hs73 : n1 ≤ newslice1.length := (by first | omega | (simp only [List.length_set, List.length_append, List.length_cons, List.length_nil, List.length_replicate]; omega) | (rw [sortI_length]; simp only [List.length_cons, List.length_nil]; omega))
            have hs74 : newslice1.length ≤ newslice1.length := (by first | omega | (simp only [List.length_set, List.length_append, List.length_cons, List.length_nil, List.length_replicate]; omega) | (rw [sortI_length]; simp only [List.length_cons, List.length_nil]; omega))
            refine TL.op (yq (y_slice_lo (ev_t rfl) (ev_t rfl) (lo := n1) (by omega) slT_34 (ri_row 0 rfl) hs73)) rfl rfl rfl ?_
            refine TL.nil ?_
            refine TH.back (fun w hw => Hp.sublist hw (List.nil_sublist _)) ?_
            refine TH.loud 6 rfl (by kernel_rfl) ?_
            have hs75 : 0 ≤ n1 := (by first | omega | (simp only [List.length_set, List.length_append, List.length_cons, List.length_nil, List.length_replicate]; omega) | (rw [sortI_length]; simp only [List.length_cons, List.length_nil]; omega))
            have hs76 : n1 ≤ newslice1.length := (by first | omega | (simp only [List.length_set, List.length_append, List.length_cons, List.length_nil, List.length_replicate]; omega) | (rw [sortI_length]; simp only [List.length_cons, List.length_nil]; omega))
            refine TL.op (yq (y_slice_hi (ev_t rfl) (ev_t rfl) (hi := n1) (by omega) slT_34 (ri_row 0 rfl) hs76)) rfl rfl rfl ?_
            refine TL.nil ?_
            refine TH.back (fun w hw => Hp.sublist hw (List.nil_sublist _)) ?_
            refine TH.loud 7 rfl (by kernel_rfl) ?_
            refine TL.copyI 0 (lo := n1) (hi := newslice1.length) (qs := ((newslice1.take n1).drop 0)) (ev_t rfl) (ev_t rfl) rfl slT_34 (fun w hw => ri_resl ((ri_row 0 rfl) w hw) hs75 hs76) hs73 hs74 rfl ?_
            refine TL.nil ?_
            refine TH.back (fun w hw => Hp.sublist hw (List.nil_sublist _)) ?_
            refine TH.take 8 rfl (by kernel_rfl) (y_add (ev_t rfl) (ev_t rfl) (by unfold In64; constructor <;> omega)) rfl rfl rfl ?_
            refine TH.take 9 rfl (by kernel_rfl) (y_assign (ev_t rfl)) rfl rfl rfl ?_
            refine TH.done (by kernel_rfl) ?_
            exact fun a' w' hs hw => ⟨hs.sub ⟨rfl, rfl, trivial⟩, hw⟩
          · have hs77 : 0 ≤ n1 := (by first | omega | (simp only [List.length_set, List.length_append, List.length_cons, List.length_nil, List.length_replicate]; omega) | (rw [sortI_length]; simp only [List.length_cons, List.length_nil]; omega))
            have hs78 : n1 ≤ newslice1.length := (by first | omega | (simp only [List.length_set, List.length_append, List.length_cons, List.length_nil, List.length_replicate]; omega) | (rw [sortI_length]; simp only [List.length_cons, List.length_nil]; omega))
            refine TL.op (yq (y_slice_hi (ev_t rfl) (ev_t rfl) (hi := n1) (by omega) slT_34 (ri_row 0 rfl) hs78)) rfl rfl rfl ?_
            refine TL.nil ?_
            refine TH.back (fun w hw => Hp.sublist hw (List.nil_sublist _)) ?_
            refine TH.loud 3 rfl (by kernel_rfl) ?_
            have hs79 : n1 ≤ newslice1.length := (by first | omega | (simp only [List.length_set, List.length_append, List.length_cons, List.length_nil, List.length_replicate]; omega) | (rw [sortI_length]; simp only [List.length_cons, List.length_nil]; omega))
            have hs80 : newslice1.length ≤ newslice1.length := (by first | omega | (simp only [List.length_set, List.length_append, List.length_cons, List.length_nil, List.length_replicate]; omega) | (rw [sortI_length]; simp only [List.length_cons, List.length_nil]; omega))
            refine TL.op (yq (y_slice_lo (ev_t rfl) (ev_t rfl) (lo := n1) (by omega) slT_34 (ri_row 0 rfl) hs79)) rfl rfl rfl ?_
            refine TL.nil ?_
            refine TH.back (fun w hw => Hp.sublist hw (List.nil_sublist _)) ?_
            refine TH.loud 7 rfl (by kernel_rfl) ?_
            refine TL.copyI 0 (lo := n1) (hi := newslice1.length) (qs := ((newslice1.take n1).drop 0)) (ev_t rfl) (ev_t rfl) rfl slT_34 (fun w hw => ri_resl ((ri_row 0 rfl) w hw) hs77 hs78) hs79 hs80 rfl ?_
            refine TL.nil ?_
            refine TH.back (fun w hw => Hp.sublist hw (List.nil_sublist _)) ?_
            refine TH.take 8 rfl (by kernel_rfl) (y_add (ev_t rfl) (ev_t rfl) (by unfold In64; constructor <;> omega)) rfl rfl rfl ?_
            refine TH.take 9 rfl (by kernel_rfl) (y_assign (ev_t rfl)) rfl rfl rfl ?_
            refine TH.done (by kernel_rfl) ?_
            exact fun a' w' hs hw => ⟨hs.sub ⟨rfl, rfl, trivial⟩, hw⟩
        · rintro a' w' ⟨hs', hw'⟩
          refine (?_ : TN _ .normal 48 (Hp w [rowI 3 v6_2 (newslice1.take n1 ++ ((newslice1.take n1).drop 0).take (newslice1.length - n1) ++ newslice1.drop (n1 + (min ((newslice1.take n1).drop 0).length (newslice1.length - n1))))]) [(7, v6_2), (8, (.int .i64 ((n1 : Int) + ((min ((newslice1.take n1).drop 0).length (newslice1.length - n1)) : Nat))))]) a' w' hs' hw'
          clear hs' hw'
          refine TN.blockN ?_
          exact TN.hand (mf1, (n1 + (min ((newslice1.take n1).drop 0).length (newslice1.length - n1))), (newslice1.take n1 ++ ((newslice1.take n1).drop 0).take (newslice1.length - n1) ++ newslice1.drop (n1 + (min ((newslice1.take n1).drop 0).length (newslice1.length - n1))))) ⟨(by first | omega | (simp [-List.getD_eq_getElem?_getD] <;> omega)), (by first | omega | (simp [-List.getD_eq_getElem?_getD] <;> omega)), (by first | omega | (simp [-List.getD_eq_getElem?_getD] <;> omega)), (by omega), hL1⟩ (Nat.lt_succ_self _) ⟨rfl, rfl, trivial⟩ (fun w hw => hw)
      · rw [bif_neg h67] at hL1
        have q68 := (of_decide_eq_false h67)
        refine TC.exit ?_
        refine TN.thenE ?_
        refine TN.thenE ?_
        rw [← hL1, elim_next] at hF
        try dsimp only at hF
        refine TN.blockH ?_
        refine TN.seq ?_
        refine TC.seq ?_
        refine TC.region ?_
        refine TL.op (yq (y_move (ev_t rfl))) rfl rfl rfl ?_
        refine TL.op (yq (y_assign (ev_t rfl))) rfl rfl rfl ?_
        refine TL.nil ?_
        refine TN.seq ?_
        refine TC.ret ?_
        subst hF
        exact TN.ret1 rfl (ev_t rfl) (fun w' hw => ⟨v6_2, rfl, hw⟩)

set_option maxRecDepth 4000 in
set_option maxHeartbeats 1000000 in
theorem slices_Concat_Sint_int_ok (w : World) (vs : Value) (us : List Value) (s : List (List Int)) (hs : RII w vs us s) (hp0 : total s ≤ 1000000) :
    Calls Try.prog 140 ([vs] : List Value).toArray w (fun e w' => ∃ i : Value, e = .returned i ∧ Hp w [rowI 3 i (F_slices_Concat_Sint_int s)] w') := by
  obtain ⟨rz, hF⟩ : ∃ rz, (F_slices_Concat_Sint_int s) = rz := ⟨_, rfl⟩
  rw [hF]
  unfold F_slices_Concat_Sint_int at hF
  have htot := totalFrom_zero s
  have hlen_s := argT_len hs
  refine calls_tc Try.func140 rfl rfl rfl ?_
  change TC _ _ _ _ (Hp w []) [(0, vs)]
  refine TC.seq ?_
  refine TC.region ?_
  refine TL.op (yq (y_assign ev_c)) rfl rfl rfl ?_
  refine TL.nil ?_
  refine TN.seq ?_
  refine TC.seq ?_
  refine TC.region ?_
  refine TL.op (yq (y_assign ev_c)) rfl rfl rfl ?_
  refine TL.nil ?_
  refine TN.seq ?_
  refine TC.seq ?_
  refine TC.seq ?_
  refine TC.region ?_
  refine TL.op (yq (y_move (ev_t rfl))) rfl rfl rfl ?_
  refine TL.op (yq (y_len (ev_t rfl) Try.underlying49 (fun w hw => ((fun w hw => ((rii_arg hs) w hw).1) w hw).ln))) rfl rfl rfl ?_
  refine TL.op (yq (y_move ev_c)) rfl rfl rfl ?_
  refine TL.nil ?_
  refine TN.seq ?_
  refine TC.block ?_
  obtain ⟨c21, hc22⟩ : ∃ c, F_slices_Concat_Sint_int_L1 s ((s.length - 0) + 1) (0, 0) = c := ⟨_, rfl⟩
  rw [hc22] at hF
  refine TC.loop (ι := Nat × Nat × Nat) (fun (fu1, size1, k11_1) => [(0, vs), (3, (.int .i64 (size1 : Int))), (9, vs), (10, (.int .i64 (s.length : Int))), (11, (.int .i64 (k11_1 : Int)))]) (fun (fu1, size1, k11_1) => Hp w []) (fun (fu1, size1, k11_1) => (k11_1 ≤ s.length) ∧ (size1 + totalFrom s k11_1 ≤ 1000000) ∧ s.length - k11_1 < fu1 ∧ F_slices_Concat_Sint_int_L1 s fu1 (size1, k11_1) = c21) (fun (fu1, size1, k11_1) => fu1) ((s.length - 0) + 1, 0, 0) ⟨(by first | omega | (simp [-List.getD_eq_getElem?_getD] <;> omega)), (by first | omega | (simp [-List.getD_eq_getElem?_getD] <;> omega)), (by omega), hc22⟩ ⟨rfl, rfl, rfl, rfl, rfl, trivial⟩ (fun w hw => hw) ?_
  rintro ⟨fu1, size1, k11_1⟩ hJ1
  obtain ⟨hi1_0, hi1_1, hmu1, hL1⟩ : (k11_1 ≤ s.length) ∧ (size1 + totalFrom s k11_1 ≤ 1000000) ∧ s.length - k11_1 < fu1 ∧ F_slices_Concat_Sint_int_L1 s fu1 (size1, k11_1) = c21 := hJ1
  change TC _ _ _ _ (Hp w []) [(0, vs), (3, (.int .i64 (size1 : Int))), (9, vs), (10, (.int .i64 (s.length : Int))), (11, (.int .i64 (k11_1 : Int)))]
  obtain ⟨mf1, rfl⟩ : ∃ m, fu1 = m + 1 := ⟨fu1 - 1, by omega⟩
  rw [F_slices_Concat_Sint_int_L1_s] at hL1
  have hst := totalFrom_step s k11_1
  refine TC.seq ?_
  refine TC.region ?_
  refine TL.op (yq (y_lss (ev_t rfl) (ev_t rfl))) rfl rfl rfl ?_
  refine TL.nil ?_
  refine TN.seq ?_
  refine TC.seq ?_
  refine TC.cond (b := decide ((k11_1 : Int) < (s.length : Int))) (ev_t rfl) (fun h23 => ?_) (fun h23 => ?_)
  · rw [bif_pos h23] at hL1
    have q24 := (of_decide_eq_true h23)
    refine TC.skip ?_
    refine TN.seq ?_
    refine TC.seq ?_
    refine TC.block ?_
    refine TC.seq ?_
    refine TC.region ?_
    have hb25 : k11_1 < s.length := (by first | omega | (simp only [List.length_set, List.length_append, List.length_cons, List.length_nil, List.length_replicate]; omega) | (rw [sortI_length]; simp only [List.length_cons, List.length_nil]; omega))
    refine TL.op (yq (y_idx (k := k11_1) (ev_t rfl) (ev_t rfl) (by first | omega | simp) slT_49 (fun w hw => ((rii_arg hs) w hw).1) hb25)) rfl rfl rfl ?_
    have ha26 := hs.row (i := k11_1) hb25
    refine TL.op (yq (y_ldA (ev_t rfl) one_34 (rii_arg hs) hb25)) rfl rfl rfl ?_
    refine TL.op (yq (y_assign (ev_t rfl))) rfl rfl rfl ?_
    refine TL.nil ?_
    refine TN.seq ?_
    refine TC.seq ?_
    refine TC.region ?_
    refine TL.op (yq (y_move (ev_t rfl))) rfl rfl rfl ?_
    refine TL.op (yq (y_move (ev_t rfl))) rfl rfl rfl ?_
    refine TL.op (yq (y_len (ev_t rfl) Try.underlying34 (fun w hw => ((ri_arg ha26) w hw).ln))) rfl rfl rfl ?_
    refine TL.op (yq (y_add (ev_t rfl) (ev_t rfl) (by unfold In64; constructor <;> omega))) rfl rfl rfl ?_
    refine TL.op (yq (y_assign (ev_t rfl))) rfl rfl rfl ?_
    refine TL.nil ?_
    refine TN.seq ?_
    refine TC.seq ?_
    refine TC.region ?_
    refine TL.op (yq (y_move (ev_t rfl))) rfl rfl rfl ?_
    refine TL.op (yq (y_lss (ev_t rfl) ev_c)) rfl rfl rfl ?_
    refine TL.nil ?_
    refine TN.seq ?_
    refine TC.cond (b := decide ((size1 : Int) + ((s.getD k11_1 []).length : Int) < 0)) (ev_t rfl) (fun h27 => ?_) (fun h27 => ?_)
    · rw [bif_pos h27] at hL1
      have q28 := (of_decide_eq_true h27)
      exfalso; omega
    · rw [bif_neg h27] at hL1
      have q28 := (of_decide_eq_false h27)
      refine TC.skip ?_
      refine TN.blockN ?_
      refine TN.seq ?_
      refine TC.region ?_
      refine TL.op (yq (y_add (ev_t rfl) ev_c (by unfold In64; constructor <;> omega))) rfl rfl rfl ?_
      refine TL.op (yq (y_move (ev_t rfl))) rfl rfl rfl ?_
      refine TL.nil ?_
      exact TN.hand (mf1, (size1 + (s.getD k11_1 []).length), (k11_1 + 1)) ⟨(by first | omega | (simp [-List.getD_eq_getElem?_getD] <;> omega)), (by first | omega | (simp [-List.getD_eq_getElem?_getD] <;> omega)), (by omega), hL1⟩ (Nat.lt_succ_self _) ⟨rfl, rfl, rfl, rfl, rfl, trivial⟩ (fun w hw => hw)
  · rw [bif_neg h23] at hL1
    have q24 := (of_decide_eq_false h23)
    refine TC.exit ?_
    refine TN.thenE ?_
    refine TN.thenE ?_
    rw [← hL1, elim_next] at hF
    try dsimp only at hF
    refine TN.blockH ?_
    refine TN.seq ?_
    refine TC.seq ?_
    refine TC.region ?_
    refine TL.op (yq (y_move (ev_t rfl))) rfl rfl rfl ?_
    refine TL.callr (ι := Value) (vs := [(.slice none 0 0), (.int .i64 (size1 : Int))]) (fun i => i) (fun i => [rowI 3 i ([] : List Int)]) en_166 ⟨ev_c, (ev_t rfl), trivial⟩ rfl (fun w hw => slices_Grow_ok w (size1 : Int) (by first | assumption | omega | grind) (by first | assumption | omega | grind)) (fun r9_1 => ?_)
    refine TL.op (yq (y_assign (ev_t rfl))) rfl rfl rfl ?_
    refine TL.nil ?_
    refine TN.seq ?_
    refine TC.seq ?_
    refine TC.seq ?_
    refine TC.region ?_
    refine TL.op (yq (y_move (ev_t rfl))) rfl rfl rfl ?_
    refine TL.op (yq (y_len (ev_t rfl) Try.underlying49 (fun w hw => ((fun w hw => ((rii_arg hs) w hw).1) w hw).ln))) rfl rfl rfl ?_
    refine TL.op (yq (y_move ev_c)) rfl rfl rfl ?_
    refine TL.nil ?_
    refine TN.seq ?_
    refine TC.block ?_
    obtain ⟨c29, hc30⟩ : ∃ c, F_slices_Concat_Sint_int_L2 s ((s.length - 0) + 1) (([] : List Int), 0) = c := ⟨_, rfl⟩
    rw [hc30] at hF
    refine TC.loop (ι := Nat × List Int × Nat × Value) (fun (fu2, newslice2, k27_2, vnewslice2) => [(6, vnewslice2), (25, vs), (26, (.int .i64 (s.length : Int))), (27, (.int .i64 (k27_2 : Int)))]) (fun (fu2, newslice2, k27_2, vnewslice2) => Hp w [rowI 3 vnewslice2 newslice2]) (fun (fu2, newslice2, k27_2, vnewslice2) => (k27_2 ≤ s.length) ∧ (newslice2.length + totalFrom s k27_2 ≤ 1000000) ∧ s.length - k27_2 < fu2 ∧ F_slices_Concat_Sint_int_L2 s fu2 (newslice2, k27_2) = c29) (fun (fu2, newslice2, k27_2, vnewslice2) => fu2) ((s.length - 0) + 1, ([] : List Int), 0, r9_1) ⟨(by first | omega | (simp [-List.getD_eq_getElem?_getD] <;> omega)), (by first | omega | (simp [-List.getD_eq_getElem?_getD] <;> omega)), (by omega), hc30⟩ ⟨rfl, rfl, rfl, rfl, trivial⟩ (fun w hw => hw) ?_
    rintro ⟨fu2, newslice2, k27_2, vnewslice2⟩ hJ2
    obtain ⟨hi2_0, hi2_1, hmu2, hL2⟩ : (k27_2 ≤ s.length) ∧ (newslice2.length + totalFrom s k27_2 ≤ 1000000) ∧ s.length - k27_2 < fu2 ∧ F_slices_Concat_Sint_int_L2 s fu2 (newslice2, k27_2) = c29 := hJ2
    change TC _ _ _ _ (Hp w [rowI 3 vnewslice2 newslice2]) [(6, vnewslice2), (25, vs), (26, (.int .i64 (s.length : Int))), (27, (.int .i64 (k27_2 : Int)))]
    obtain ⟨mf2, rfl⟩ : ∃ m, fu2 = m + 1 := ⟨fu2 - 1, by omega⟩
    rw [F_slices_Concat_Sint_int_L2_s] at hL2
    have hst := totalFrom_step s k27_2
    refine TC.seq ?_
    refine TC.region ?_
    refine TL.op (yq (y_lss (ev_t rfl) (ev_t rfl))) rfl rfl rfl ?_
    refine TL.nil ?_
    refine TN.seq ?_
    refine TC.seq ?_
    refine TC.cond (b := decide ((k27_2 : Int) < (s.length : Int))) (ev_t rfl) (fun h31 => ?_) (fun h31 => ?_)
    · rw [bif_pos h31] at hL2
      have q32 := (of_decide_eq_true h31)
      refine TC.skip ?_
      refine TN.seq ?_
      refine TC.seq ?_
      refine TC.block ?_
      refine TC.seq ?_
      refine TC.region ?_
      have hb33 : k27_2 < s.length := (by first | omega | (simp only [List.length_set, List.length_append, List.length_cons, List.length_nil, List.length_replicate]; omega) | (rw [sortI_length]; simp only [List.length_cons, List.length_nil]; omega))
      refine TL.op (yq (y_idx (k := k27_2) (ev_t rfl) (ev_t rfl) (by first | omega | simp) slT_49 (fun w hw => ((rii_arg hs) w hw).1) hb33)) rfl rfl rfl ?_
      have ha34 := hs.row (i := k27_2) hb33
      refine TL.op (yq (y_ldA (ev_t rfl) one_34 (rii_arg hs) hb33)) rfl rfl rfl ?_
      refine TL.op (yq (y_assign (ev_t rfl))) rfl rfl rfl ?_
      refine TL.nil ?_
      refine TN.seq ?_
      refine TC.region ?_
      refine TL.op (yq (y_move (ev_t rfl))) rfl rfl rfl ?_
      refine TL.op (yq (y_move (ev_t rfl))) rfl rfl rfl ?_
      refine TL.appendI 0 (ev_t rfl) (ev_t rfl) rfl slT_34 (ri_arg ha34) (by first | omega | (simp [-List.getD_eq_getElem?_getD] <;> omega)) rfl (fun v13_2 => ?_)
      refine TL.op (yq (y_assign (ev_t rfl))) rfl rfl rfl ?_
      refine TL.nil ?_
      refine TN.blockN ?_
      refine TN.seq ?_
      refine TC.region ?_
      refine TL.op (yq (y_add (ev_t rfl) ev_c (by unfold In64; constructor <;> omega))) rfl rfl rfl ?_
      refine TL.op (yq (y_move (ev_t rfl))) rfl rfl rfl ?_
      refine TL.nil ?_
      exact TN.hand (mf2, (newslice2 ++ (s.getD k27_2 [])), (k27_2 + 1), v13_2) ⟨(by first | omega | (simp [-List.getD_eq_getElem?_getD] <;> omega)), (by first | omega | (simp [-List.getD_eq_getElem?_getD] <;> omega)), (by omega), hL2⟩ (Nat.lt_succ_self _) ⟨rfl, rfl, rfl, rfl, trivial⟩ (fun w hw => hw)
    · rw [bif_neg h31] at hL2
      have q32 := (of_decide_eq_false h31)
      refine TC.exit ?_
      refine TN.thenE ?_
      refine TN.thenE ?_
      rw [← hL2, elim_next] at hF
      try dsimp only at hF
      refine TN.blockH ?_
      refine TN.seq ?_
      refine TC.seq ?_
      refine TC.region ?_
      refine TL.op (yq (y_move (ev_t rfl))) rfl rfl rfl ?_
      refine TL.op (yq (y_assign (ev_t rfl))) rfl rfl rfl ?_
      refine TL.nil ?_
      refine TN.seq ?_
      refine TC.ret ?_
      subst hF
      exact TN.ret1 rfl (ev_t rfl) (fun w' hw => ⟨vnewslice2, rfl, hw⟩)

end Go.Proofs.Ytcmhgkcifejgcaa
