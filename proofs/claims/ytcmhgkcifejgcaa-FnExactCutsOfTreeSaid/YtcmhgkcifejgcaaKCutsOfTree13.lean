/-
  Part of a proof: rules of the walk, plain functions and their laws, walks. No condition.
-/
import Derived.Test.YtcmhgkcifejgcaaKCutsOfTree12
import Derived.Shelf.Sort.Plain
import Derived.Shelf.Bits.Mul64
import Derived.Shelf.Slices.CompactI
import Derived.Shelf.Small.Strs
import Derived.Test.YtcmhgkcifejgcaaProg
namespace Go.Proofs.Ytcmhgkcifejgcaa
set_option linter.unusedVariables false
set_option linter.unusedSimpArgs false
open Go Go.Shelf
def lays137_ren : Go.Shelf.Ren := ⟨fun | 137 => 67 | 217 => 117 | 266 => 152 | n => n, fun | 9 => 9 | 5 => 5 | 3 => 3 | n => n, fun | n => n⟩
theorem lays137 : Go.Proofs.Lays.n137 Try.prog lays137_ren := {
  mixed := by kernel_rfl
  f137 := Try.func67.trans (congrArg some (by kernel_rfl))
  f217 := Try.func117.trans (congrArg some (by kernel_rfl))
  f266 := Try.func152.trans (congrArg some (by kernel_rfl))
  t3 := Try.underlying3
  a3 := Try.isAgg3
  z3 := Try.sizeOf3
  v3 := Try.zeroValue3
  t5 := Try.underlying5
  a5 := Try.isAgg5
  z5 := Try.sizeOf5
  v5 := Try.zeroValue5
  t9 := Try.underlying9
  a9 := Try.isAgg9
  z9 := Try.sizeOf9
  v9 := Try.zeroValue9 }
def lays189_ren : Go.Shelf.Ren := ⟨fun | 189 => 151 | 125 => 171 | 257 => 170 | 128 => 188 | 129 => 189 | 294 => 180 | 295 => 181 | 296 => 182 | 297 => 183 | 298 => 184 | 299 => 185 | 216 => 169 | 300 => 186 | 301 => 187 | 328 => 191 | 329 => 192 | 330 => 193 | 331 => 194 | 332 => 195 | 215 => 179 | 343 => 197 | n => n, fun | 28 => 34 | 3 => 3 | 46 => 129 | 0 => 0 | 51 => 154 | 53 => 73 | 4 => 4 | 183 => 176 | 182 => 175 | 131 => 65 | 5 => 5 | 9 => 9 | 218 => 183 | 222 => 187 | 228 => 189 | 229 => 190 | n => n, fun | n => n⟩
theorem lays189 : Go.Proofs.Lays.n189 Try.prog lays189_ren := {
  mixed := by kernel_rfl
  f125 := Try.func171.trans (congrArg some (by kernel_rfl))
  f128 := Try.func188.trans (congrArg some (by kernel_rfl))
  f129 := Try.func189.trans (congrArg some (by kernel_rfl))
  f189 := Try.func151.trans (congrArg some (by kernel_rfl))
  f215 := Try.func179.trans (congrArg some (by kernel_rfl))
  f216 := Try.func169.trans (congrArg some (by kernel_rfl))
  f257 := Try.func170.trans (congrArg some (by kernel_rfl))
  f294 := Try.func180.trans (congrArg some (by kernel_rfl))
  f295 := Try.func181.trans (congrArg some (by kernel_rfl))
  f296 := Try.func182.trans (congrArg some (by kernel_rfl))
  f297 := Try.func183.trans (congrArg some (by kernel_rfl))
  f298 := Try.func184.trans (congrArg some (by kernel_rfl))
  f299 := Try.func185.trans (congrArg some (by kernel_rfl))
  f300 := Try.func186.trans (congrArg some (by kernel_rfl))
  f301 := Try.func187.trans (congrArg some (by kernel_rfl))
  f328 := Try.func191.trans (congrArg some (by kernel_rfl))
  f329 := Try.func192.trans (congrArg some (by kernel_rfl))
  f330 := Try.func193.trans (congrArg some (by kernel_rfl))
  f331 := Try.func194.trans (congrArg some (by kernel_rfl))
  f332 := Try.func195.trans (congrArg some (by kernel_rfl))
  f343 := Try.func197.trans (congrArg some (by kernel_rfl))
  t0 := Try.underlying0
  a0 := Try.isAgg0
  z0 := Try.sizeOf0
  v0 := Try.zeroValue0
  t3 := Try.underlying3
  a3 := Try.isAgg3
  z3 := Try.sizeOf3
  v3 := Try.zeroValue3
  t4 := Try.underlying4
  a4 := Try.isAgg4
  z4 := Try.sizeOf4
  v4 := Try.zeroValue4
  t5 := Try.underlying5
  a5 := Try.isAgg5
  z5 := Try.sizeOf5
  v5 := Try.zeroValue5
  t9 := Try.underlying9
  a9 := Try.isAgg9
  z9 := Try.sizeOf9
  v9 := Try.zeroValue9
  t28 := Try.underlying34
  a28 := Try.isAgg34
  z28 := Try.sizeOf34
  v28 := Try.zeroValue34
  t46 := Try.underlying129
  a46 := Try.isAgg129
  z46 := Try.sizeOf129
  v46 := Try.zeroValue129
  t51 := Try.underlying154
  a51 := Try.isAgg154
  z51 := Try.sizeOf154
  v51 := Try.zeroValue154
  t53 := Try.underlying73
  a53 := Try.isAgg73
  z53 := Try.sizeOf73
  v53 := Try.zeroValue73
  t131 := Try.underlying65
  a131 := Try.isAgg65
  z131 := Try.sizeOf65
  v131 := Try.zeroValue65
  t182 := Try.underlying175
  a182 := Try.isAgg175
  z182 := Try.sizeOf175
  v182 := Try.zeroValue175
  t183 := Try.underlying176
  a183 := Try.isAgg176
  z183 := Try.sizeOf176
  v183 := Try.zeroValue176
  t218 := Try.underlying183
  a218 := Try.isAgg183
  z218 := Try.sizeOf183
  v218 := Try.zeroValue183
  t222 := Try.underlying187
  a222 := Try.isAgg187
  z222 := Try.sizeOf187
  v222 := Try.zeroValue187
  t228 := Try.underlying189
  a228 := Try.isAgg189
  z228 := Try.sizeOf189
  v228 := Try.zeroValue189
  t229 := Try.underlying190
  a229 := Try.isAgg190
  z229 := Try.sizeOf190
  v229 := Try.zeroValue190 }
def lays212_ren : Go.Shelf.Ren := ⟨fun | 212 => 124 | 263 => 157 | 264 => 158 | n => n, fun | 46 => 129 | 51 => 154 | 146 => 155 | 53 => 73 | 148 => 157 | n => n, fun | n => n⟩
theorem lays212 : Go.Proofs.Lays.n212 Try.prog lays212_ren := {
  mixed := by kernel_rfl
  f212 := Try.func124.trans (congrArg some (by kernel_rfl))
  f263 := Try.func157.trans (congrArg some (by kernel_rfl))
  f264 := Try.func158.trans (congrArg some (by kernel_rfl))
  t46 := Try.underlying129
  a46 := Try.isAgg129
  z46 := Try.sizeOf129
  v46 := Try.zeroValue129
  t51 := Try.underlying154
  a51 := Try.isAgg154
  z51 := Try.sizeOf154
  v51 := Try.zeroValue154
  t53 := Try.underlying73
  a53 := Try.isAgg73
  z53 := Try.sizeOf73
  v53 := Try.zeroValue73
  t146 := Try.underlying155
  a146 := Try.isAgg155
  z146 := Try.sizeOf155
  v146 := Try.zeroValue155
  t148 := Try.underlying157
  a148 := Try.isAgg157
  z148 := Try.sizeOf157
  v148 := Try.zeroValue157 }
def lays220_ren : Go.Shelf.Ren := ⟨fun | 20 => 162 | n => n, fun | 22 => 34 | 3 => 3 | 4 => 4 | 0 => 0 | n => n, fun | n => n⟩
theorem lays220 : Go.Proofs.Lays2.n20 Try.prog lays220_ren := {
  mixed := by kernel_rfl
  f20 := Try.func162.trans (congrArg some (by kernel_rfl))
  t0 := Try.underlying0
  a0 := Try.isAgg0
  z0 := Try.sizeOf0
  v0 := Try.zeroValue0
  t3 := Try.underlying3
  a3 := Try.isAgg3
  z3 := Try.sizeOf3
  v3 := Try.zeroValue3
  t4 := Try.underlying4
  a4 := Try.isAgg4
  z4 := Try.sizeOf4
  v4 := Try.zeroValue4
  t22 := Try.underlying34
  a22 := Try.isAgg34
  z22 := Try.sizeOf34
  v22 := Try.zeroValue34
  i3 := by kernel_rfl }
end Go.Proofs.Ytcmhgkcifejgcaa
namespace Go.Proofs.Ytcmhgkcifejgcaa
set_option linter.unusedVariables false
set_option linter.unusedSimpArgs false
open Go Go.RowKit

def mulU (x y : Int) : Int × Int := (((x.toNat * y.toNat / 18446744073709551616 : Nat) : Int), ((x.toNat * y.toNat % 18446744073709551616 : Nat) : Int))
theorem mulU_one {n : Nat} {c : Int} (hn : n = 1) (h0 : 0 ≤ c) (h1 : c ≤ 1000000) : (mulU (n : Int) c).1 = 0 ∧ (mulU (n : Int) c).2 = c := by
  subst hn
  unfold mulU
  simp only [Int.toNat_natCast, Nat.one_mul]
  omega
theorem bits_Mul_ok (w : World) (x y : Int) (hp0 : 0 ≤ x) (hp1 : x < 18446744073709551616) (hp2 : 0 ≤ y) (hp3 : y < 18446744073709551616) :
    Calls Try.prog 124 ([(.int .u64 x), (.int .u64 y)] : List Value).toArray w (Ret (.tuple #[(.int .u64 ((mulU x y).1)), (.int .u64 ((mulU x y).2))]) (Hp w [])) := by
  have h := Any.bits_Mul lays212 x.toNat y.toNat (by omega) (by omega) w
  rw [Int.toNat_of_nonneg hp0, Int.toNat_of_nonneg hp2] at h
  refine h.mono ?_
  rintro e w' ⟨rfl, rfl⟩
  exact ⟨rfl, Hp.start _⟩
end Go.Proofs.Ytcmhgkcifejgcaa
namespace Go.Proofs.Ytcmhgkcifejgcaa
set_option linter.unusedVariables false
set_option linter.unusedSimpArgs false
open Go Go.RowKit

theorem slices_Sort_ok (w0 w : World) (fr : List Ck) (vx : Value) (x : List Int) (hw : Hp w0 (rowI 3 vx x :: fr) w) (hp0 : x.length ≤ 1000000000) :
    Calls Try.prog 151 ([vx] : List Value).toArray w (fun e w' => ∃ _i : Unit, e = .returned (.tuple #[]) ∧ Hp w0 (rowI 3 vx (sortI x) :: fr) w') := sort_ok lays189 w0 w fr 3 vx x hw hp0
theorem slices_Compact_ok (w0 w : World) (fr : List Ck) (vs : Value) (s : List Int) (hw : Hp w0 (rowI 3 vs s :: fr) w) :
    Calls Try.prog 162 ([vs] : List Value).toArray w (fun e w' => ∃ i : Value, e = .returned i ∧ Hp w0 ([rowI 3 i (Lib.compact s)] ++ fr) w') := compact_ok lays220 w0 w fr 3 vs s hw
end Go.Proofs.Ytcmhgkcifejgcaa
namespace Go.Proofs.Ytcmhgkcifejgcaa
set_option linter.unusedVariables false
set_option linter.unusedSimpArgs false
open Go Go.RowKit
set_option linter.unusedVariables false

def F_impl_rising (l : List Int) : List Int := (Lib.compact (sortI l))

def F_impl_sideOf_L3 (edges : List (Int × Int)) (i1 : Nat) (k20_2 : Nat) : Nat → List Int × Nat → Ctl (List Int × Nat) (List Int)
  | 0, s => .next s
  | mf3 + 1, (out3, k24_3) => (bif decide ((k24_3 : Int) < 2) then (bif ((decide ((pk ((edges.getD k20_2 (0, 0)).1) ((edges.getD k20_2 (0, 0)).2) k24_3) = (out3.getD i1 0))) && (!(F_slices_Contains_Sint_int out3 (pk ((edges.getD k20_2 (0, 0)).1) ((edges.getD k20_2 (0, 0)).2) ((1 - (k24_3 : Int)).toNat))))) then F_impl_sideOf_L3 edges i1 k20_2 mf3 ((out3 ++ ([(pk ((edges.getD k20_2 (0, 0)).1) ((edges.getD k20_2 (0, 0)).2) ((1 - (k24_3 : Int)).toNat))])), (k24_3 + 1)) else F_impl_sideOf_L3 edges i1 k20_2 mf3 (out3, (k24_3 + 1))) else (.next (out3, k24_3)))
theorem F_impl_sideOf_L3_s (edges : List (Int × Int)) (i1 : Nat) (k20_2 : Nat) (out3 : List Int) (k24_3 : Nat) (mf3 : Nat) : F_impl_sideOf_L3 edges i1 k20_2 (mf3 + 1) (out3, k24_3) = (bif decide ((k24_3 : Int) < 2) then (bif ((decide ((pk ((edges.getD k20_2 (0, 0)).1) ((edges.getD k20_2 (0, 0)).2) k24_3) = (out3.getD i1 0))) && (!(F_slices_Contains_Sint_int out3 (pk ((edges.getD k20_2 (0, 0)).1) ((edges.getD k20_2 (0, 0)).2) ((1 - (k24_3 : Int)).toNat))))) then F_impl_sideOf_L3 edges i1 k20_2 mf3 ((out3 ++ ([(pk ((edges.getD k20_2 (0, 0)).1) ((edges.getD k20_2 (0, 0)).2) ((1 - (k24_3 : Int)).toNat))])), (k24_3 + 1)) else F_impl_sideOf_L3 edges i1 k20_2 mf3 (out3, (k24_3 + 1))) else (.next (out3, k24_3))) := rfl
def F_impl_sideOf_L2 (edges : List (Int × Int)) (i1 : Nat) : Nat → List Int × Nat → Ctl (List Int × Nat) (List Int)
  | 0, s => .next s
  | mf2 + 1, (out2, k20_2) => (bif decide ((k20_2 : Int) < (edges.length : Int)) then ((F_impl_sideOf_L3 edges i1 k20_2 ((2 - 0) + 1) (out2, 0)).elim (fun (out3, _) => F_impl_sideOf_L2 edges i1 mf2 (out3, (k20_2 + 1))) (fun r => .ret r)) else (.next (out2, k20_2)))
theorem F_impl_sideOf_L2_s (edges : List (Int × Int)) (i1 : Nat) (out2 : List Int) (k20_2 : Nat) (mf2 : Nat) : F_impl_sideOf_L2 edges i1 (mf2 + 1) (out2, k20_2) = (bif decide ((k20_2 : Int) < (edges.length : Int)) then ((F_impl_sideOf_L3 edges i1 k20_2 ((2 - 0) + 1) (out2, 0)).elim (fun (out3, _) => F_impl_sideOf_L2 edges i1 mf2 (out3, (k20_2 + 1))) (fun r => .ret r)) else (.next (out2, k20_2))) := rfl
def F_impl_sideOf_L1 (edges : List (Int × Int)) : Nat → List Int × Nat → Ctl (List Int × Nat) (List Int)
  | 0, s => .next s
  | mf1 + 1, (out1, i1) => (bif decide ((i1 : Int) < (out1.length : Int)) then ((F_impl_sideOf_L2 edges i1 ((edges.length - 0) + 1) (out1, 0)).elim (fun (out2, _) => F_impl_sideOf_L1 edges mf1 (out2, (i1 + 1))) (fun r => .ret r)) else (.next (out1, i1)))
theorem F_impl_sideOf_L1_s (edges : List (Int × Int)) (out1 : List Int) (i1 : Nat) (mf1 : Nat) : F_impl_sideOf_L1 edges (mf1 + 1) (out1, i1) = (bif decide ((i1 : Int) < (out1.length : Int)) then ((F_impl_sideOf_L2 edges i1 ((edges.length - 0) + 1) (out1, 0)).elim (fun (out2, _) => F_impl_sideOf_L1 edges mf1 (out2, (i1 + 1))) (fun r => .ret r)) else (.next (out1, i1))) := rfl
def F_impl_sideOf (edges : List (Int × Int)) (x : Int) : List Int := ((F_impl_sideOf_L1 edges ((6 - 0) + 1) (([x]), 0)).elim (fun (out1, _) => (F_impl_rising out1)) (fun r => r))

def F_spec_l6Side_L2 (edges : List (Int × Int)) (without : Int) (k10_1 : Nat) : Nat → List Int × Nat → Ctl (List Int × Nat) (List Int)
  | 0, s => .next s
  | mf2 + 1, (k9_2, k11_2) => (bif decide ((k11_2 : Int) < (edges.length : Int)) then (bif decide ((k11_2 : Int) = without) then F_spec_l6Side_L2 edges without k10_1 mf2 (k9_2, (k11_2 + 1)) else (bif ((decide ((edges.getD k11_2 (0, 0)).1 = (k9_2.getD k10_1 0))) && (!(F_spec_l1Has k9_2 ((edges.getD k11_2 (0, 0)).2)))) then (bif ((decide ((edges.getD k11_2 (0, 0)).2 = ((k9_2 ++ ([(edges.getD k11_2 (0, 0)).2])).getD k10_1 0))) && (!(F_spec_l1Has (k9_2 ++ ([(edges.getD k11_2 (0, 0)).2])) ((edges.getD k11_2 (0, 0)).1)))) then F_spec_l6Side_L2 edges without k10_1 mf2 (((k9_2 ++ ([(edges.getD k11_2 (0, 0)).2])) ++ ([(edges.getD k11_2 (0, 0)).1])), (k11_2 + 1)) else F_spec_l6Side_L2 edges without k10_1 mf2 ((k9_2 ++ ([(edges.getD k11_2 (0, 0)).2])), (k11_2 + 1))) else (bif ((decide ((edges.getD k11_2 (0, 0)).2 = (k9_2.getD k10_1 0))) && (!(F_spec_l1Has k9_2 ((edges.getD k11_2 (0, 0)).1)))) then F_spec_l6Side_L2 edges without k10_1 mf2 ((k9_2 ++ ([(edges.getD k11_2 (0, 0)).1])), (k11_2 + 1)) else F_spec_l6Side_L2 edges without k10_1 mf2 (k9_2, (k11_2 + 1))))) else (.next (k9_2, k11_2)))
theorem F_spec_l6Side_L2_s (edges : List (Int × Int)) (without : Int) (k10_1 : Nat) (k9_2 : List Int) (k11_2 : Nat) (mf2 : Nat) : F_spec_l6Side_L2 edges without k10_1 (mf2 + 1) (k9_2, k11_2) = (bif decide ((k11_2 : Int) < (edges.length : Int)) then (bif decide ((k11_2 : Int) = without) then F_spec_l6Side_L2 edges without k10_1 mf2 (k9_2, (k11_2 + 1)) else (bif ((decide ((edges.getD k11_2 (0, 0)).1 = (k9_2.getD k10_1 0))) && (!(F_spec_l1Has k9_2 ((edges.getD k11_2 (0, 0)).2)))) then (bif ((decide ((edges.getD k11_2 (0, 0)).2 = ((k9_2 ++ ([(edges.getD k11_2 (0, 0)).2])).getD k10_1 0))) && (!(F_spec_l1Has (k9_2 ++ ([(edges.getD k11_2 (0, 0)).2])) ((edges.getD k11_2 (0, 0)).1)))) then F_spec_l6Side_L2 edges without k10_1 mf2 (((k9_2 ++ ([(edges.getD k11_2 (0, 0)).2])) ++ ([(edges.getD k11_2 (0, 0)).1])), (k11_2 + 1)) else F_spec_l6Side_L2 edges without k10_1 mf2 ((k9_2 ++ ([(edges.getD k11_2 (0, 0)).2])), (k11_2 + 1))) else (bif ((decide ((edges.getD k11_2 (0, 0)).2 = (k9_2.getD k10_1 0))) && (!(F_spec_l1Has k9_2 ((edges.getD k11_2 (0, 0)).1)))) then F_spec_l6Side_L2 edges without k10_1 mf2 ((k9_2 ++ ([(edges.getD k11_2 (0, 0)).1])), (k11_2 + 1)) else F_spec_l6Side_L2 edges without k10_1 mf2 (k9_2, (k11_2 + 1))))) else (.next (k9_2, k11_2))) := rfl
def F_spec_l6Side_L1 (edges : List (Int × Int)) (without : Int) : Nat → List Int × Nat → Ctl (List Int × Nat) (List Int)
  | 0, s => .next s
  | mf1 + 1, (k9_1, k10_1) => (bif decide ((k10_1 : Int) < (k9_1.length : Int)) then ((F_spec_l6Side_L2 edges without k10_1 ((edges.length - 0) + 1) (k9_1, 0)).elim (fun (k9_2, _) => F_spec_l6Side_L1 edges without mf1 (k9_2, (k10_1 + 1))) (fun r => .ret r)) else (.next (k9_1, k10_1)))
theorem F_spec_l6Side_L1_s (edges : List (Int × Int)) (without : Int) (k9_1 : List Int) (k10_1 : Nat) (mf1 : Nat) : F_spec_l6Side_L1 edges without (mf1 + 1) (k9_1, k10_1) = (bif decide ((k10_1 : Int) < (k9_1.length : Int)) then ((F_spec_l6Side_L2 edges without k10_1 ((edges.length - 0) + 1) (k9_1, 0)).elim (fun (k9_2, _) => F_spec_l6Side_L1 edges without mf1 (k9_2, (k10_1 + 1))) (fun r => .ret r)) else (.next (k9_1, k10_1))) := rfl
def F_spec_l6Side_L3 (n : Int) (k9_1 : List Int) : Nat → List Int × Nat → Ctl (List Int × Nat) (List Int)
  | 0, s => .next s
  | mf3 + 1, (k12_3, k13_3) => (bif decide ((k13_3 : Int) < n) then (bif (F_spec_l1Has k9_1 (k13_3 : Int)) then F_spec_l6Side_L3 n k9_1 mf3 ((k12_3 ++ ([(k13_3 : Int)])), (k13_3 + 1)) else F_spec_l6Side_L3 n k9_1 mf3 (k12_3, (k13_3 + 1))) else (.next (k12_3, k13_3)))
theorem F_spec_l6Side_L3_s (n : Int) (k9_1 : List Int) (k12_3 : List Int) (k13_3 : Nat) (mf3 : Nat) : F_spec_l6Side_L3 n k9_1 (mf3 + 1) (k12_3, k13_3) = (bif decide ((k13_3 : Int) < n) then (bif (F_spec_l1Has k9_1 (k13_3 : Int)) then F_spec_l6Side_L3 n k9_1 mf3 ((k12_3 ++ ([(k13_3 : Int)])), (k13_3 + 1)) else F_spec_l6Side_L3 n k9_1 mf3 (k12_3, (k13_3 + 1))) else (.next (k12_3, k13_3))) := rfl
def F_spec_l6Side (n : Int) (edges : List (Int × Int)) (without : Int) (from_ : Int) : List Int := ((F_spec_l6Side_L1 edges without ((6 - 0) + 1) (([from_]), 0)).elim (fun (k9_1, _) => ((F_spec_l6Side_L3 n k9_1 ((((n).toNat) - 0) + 1) (([] : List Int), 0)).elim (fun (k12_3, _) => k12_3) (fun r => r))) (fun r => r))


end Go.Proofs.Ytcmhgkcifejgcaa
namespace Go.Proofs.Ytcmhgkcifejgcaa
set_option linter.unusedVariables false
set_option linter.unusedSimpArgs false
open Go Go.RowKit
set_option linter.unusedVariables false

def F_impl_Metric_spanningTree_L2 (m : List (List Int)) (k13_1 : Nat) : Nat → List (Int × Int) × Nat → Ctl (List (Int × Int) × Nat) (List (Int × Int))
  | 0, s => .next s
  | mf2 + 1, (edges2, y2) => (bif decide ((y2 : Int) < (m.length : Int)) then F_impl_Metric_spanningTree_L2 m k13_1 mf2 ((edges2 ++ ([((k13_1 : Int), (y2 : Int))])), (y2 + 1)) else (.next (edges2, y2)))
theorem F_impl_Metric_spanningTree_L2_s (m : List (List Int)) (k13_1 : Nat) (edges2 : List (Int × Int)) (y2 : Nat) (mf2 : Nat) : F_impl_Metric_spanningTree_L2 m k13_1 (mf2 + 1) (edges2, y2) = (bif decide ((y2 : Int) < (m.length : Int)) then F_impl_Metric_spanningTree_L2 m k13_1 mf2 ((edges2 ++ ([((k13_1 : Int), (y2 : Int))])), (y2 + 1)) else (.next (edges2, y2))) := rfl
def F_impl_Metric_spanningTree_L1 (m : List (List Int)) : Nat → List (Int × Int) × Nat → Ctl (List (Int × Int) × Nat) (List (Int × Int))
  | 0, s => .next s
  | mf1 + 1, (edges1, k13_1) => (bif decide ((k13_1 : Int) < (m.length : Int)) then ((F_impl_Metric_spanningTree_L2 m k13_1 ((m.length - (k13_1 + 1)) + 1) (edges1, (k13_1 + 1))).elim (fun (edges2, _) => F_impl_Metric_spanningTree_L1 m mf1 (edges2, (k13_1 + 1))) (fun r => .ret r)) else (.next (edges1, k13_1)))
theorem F_impl_Metric_spanningTree_L1_s (m : List (List Int)) (edges1 : List (Int × Int)) (k13_1 : Nat) (mf1 : Nat) : F_impl_Metric_spanningTree_L1 m (mf1 + 1) (edges1, k13_1) = (bif decide ((k13_1 : Int) < (m.length : Int)) then ((F_impl_Metric_spanningTree_L2 m k13_1 ((m.length - (k13_1 + 1)) + 1) (edges1, (k13_1 + 1))).elim (fun (edges2, _) => F_impl_Metric_spanningTree_L1 m mf1 (edges2, (k13_1 + 1))) (fun r => .ret r)) else (.next (edges1, k13_1))) := rfl
def F_impl_Metric_spanningTree_L3 (m : List (List Int)) (edges1 : List (Int × Int)) : Nat → List (Int × Int) × Nat → Ctl (List (Int × Int) × Nat) (List (Int × Int))
  | 0, s => .next s
  | mf3 + 1, (out3, k38_3) => (bif decide ((k38_3 : Int) < ((F_slices_SortStableFunc_S_2_int_2_int edges1 (m.length : Int) (fun a b => F_impl_Metric_spanningTree_1 a b m)).length : Int)) then (bif !(F_slices_Contains_Sint_int (F_impl_sideOf out3 (((F_slices_SortStableFunc_S_2_int_2_int edges1 (m.length : Int) (fun a b => F_impl_Metric_spanningTree_1 a b m)).getD k38_3 (0, 0)).1)) (((F_slices_SortStableFunc_S_2_int_2_int edges1 (m.length : Int) (fun a b => F_impl_Metric_spanningTree_1 a b m)).getD k38_3 (0, 0)).2)) then F_impl_Metric_spanningTree_L3 m edges1 mf3 ((out3 ++ ([(((F_slices_SortStableFunc_S_2_int_2_int edges1 (m.length : Int) (fun a b => F_impl_Metric_spanningTree_1 a b m)).getD k38_3 (0, 0)).1, ((F_slices_SortStableFunc_S_2_int_2_int edges1 (m.length : Int) (fun a b => F_impl_Metric_spanningTree_1 a b m)).getD k38_3 (0, 0)).2)])), (k38_3 + 1)) else F_impl_Metric_spanningTree_L3 m edges1 mf3 (out3, (k38_3 + 1))) else (.next (out3, k38_3)))
theorem F_impl_Metric_spanningTree_L3_s (m : List (List Int)) (edges1 : List (Int × Int)) (out3 : List (Int × Int)) (k38_3 : Nat) (mf3 : Nat) : F_impl_Metric_spanningTree_L3 m edges1 (mf3 + 1) (out3, k38_3) = (bif decide ((k38_3 : Int) < ((F_slices_SortStableFunc_S_2_int_2_int edges1 (m.length : Int) (fun a b => F_impl_Metric_spanningTree_1 a b m)).length : Int)) then (bif !(F_slices_Contains_Sint_int (F_impl_sideOf out3 (((F_slices_SortStableFunc_S_2_int_2_int edges1 (m.length : Int) (fun a b => F_impl_Metric_spanningTree_1 a b m)).getD k38_3 (0, 0)).1)) (((F_slices_SortStableFunc_S_2_int_2_int edges1 (m.length : Int) (fun a b => F_impl_Metric_spanningTree_1 a b m)).getD k38_3 (0, 0)).2)) then F_impl_Metric_spanningTree_L3 m edges1 mf3 ((out3 ++ ([(((F_slices_SortStableFunc_S_2_int_2_int edges1 (m.length : Int) (fun a b => F_impl_Metric_spanningTree_1 a b m)).getD k38_3 (0, 0)).1, ((F_slices_SortStableFunc_S_2_int_2_int edges1 (m.length : Int) (fun a b => F_impl_Metric_spanningTree_1 a b m)).getD k38_3 (0, 0)).2)])), (k38_3 + 1)) else F_impl_Metric_spanningTree_L3 m edges1 mf3 (out3, (k38_3 + 1))) else (.next (out3, k38_3))) := rfl
def F_impl_Metric_spanningTree (m : List (List Int)) : List (Int × Int) := ((F_impl_Metric_spanningTree_L1 m ((m.length - 0) + 1) (([] : List (Int × Int)), 0)).elim (fun (edges1, _) => ((F_impl_Metric_spanningTree_L3 m edges1 ((((F_slices_SortStableFunc_S_2_int_2_int edges1 (m.length : Int) (fun a b => F_impl_Metric_spanningTree_1 a b m)).length) - 0) + 1) (([] : List (Int × Int)), 0)).elim (fun (out3, _) => out3) (fun r => r))) (fun r => r))

def F_impl_SpanningTree_L1 (m : List (List Int)) : Nat → Int × Nat → Ctl (Int × Nat) (List (Int × Int) × Int × Bool)
  | 0, s => .next s
  | mf1 + 1, (sum1, k16_1) => (bif decide ((k16_1 : Int) < ((F_impl_Metric_spanningTree m).length : Int)) then F_impl_SpanningTree_L1 m mf1 ((sum1 + ((m.getD ((((F_impl_Metric_spanningTree m).getD k16_1 (0, 0)).1).toNat) []).getD ((((F_impl_Metric_spanningTree m).getD k16_1 (0, 0)).2).toNat) 0)), (k16_1 + 1)) else (.next (sum1, k16_1)))
theorem F_impl_SpanningTree_L1_s (m : List (List Int)) (sum1 : Int) (k16_1 : Nat) (mf1 : Nat) : F_impl_SpanningTree_L1 m (mf1 + 1) (sum1, k16_1) = (bif decide ((k16_1 : Int) < ((F_impl_Metric_spanningTree m).length : Int)) then F_impl_SpanningTree_L1 m mf1 ((sum1 + ((m.getD ((((F_impl_Metric_spanningTree m).getD k16_1 (0, 0)).1).toNat) []).getD ((((F_impl_Metric_spanningTree m).getD k16_1 (0, 0)).2).toNat) 0)), (k16_1 + 1)) else (.next (sum1, k16_1))) := rfl
def F_impl_SpanningTree (m : List (List Int)) : List (Int × Int) × Int × Bool := (bif !(F_impl_IsMetric m) then ([], 0, false) else ((F_impl_SpanningTree_L1 m ((((F_impl_Metric_spanningTree m).length) - 0) + 1) (0, 0)).elim (fun (sum1, _) => ((F_impl_Metric_spanningTree m), sum1, true)) (fun r => r)))

def F_spec_l6Tree_L1 (m : List (List Int)) : Nat → List (Int × Int) × Int × Nat → Ctl (List (Int × Int) × Int × Nat) (List (Int × Int) × Int)
  | 0, s => .next s
  | mf1 + 1, (taken1, sum1, i1) => (bif decide ((i1 : Int) < ((F_spec_l6Edges m).length : Int)) then (bif !(F_spec_l1Has (F_spec_l6Side (m.length : Int) taken1 (-1) (((F_spec_l6Edges m).getD i1 (0, 0)).1)) (((F_spec_l6Edges m).getD i1 (0, 0)).2)) then F_spec_l6Tree_L1 m mf1 ((taken1 ++ ([(((F_spec_l6Edges m).getD i1 (0, 0)).1, ((F_spec_l6Edges m).getD i1 (0, 0)).2)])), (sum1 + ((m.getD ((((F_spec_l6Edges m).getD i1 (0, 0)).1).toNat) []).getD ((((F_spec_l6Edges m).getD i1 (0, 0)).2).toNat) 0)), (i1 + 1)) else F_spec_l6Tree_L1 m mf1 (taken1, sum1, (i1 + 1))) else (.next (taken1, sum1, i1)))
theorem F_spec_l6Tree_L1_s (m : List (List Int)) (taken1 : List (Int × Int)) (sum1 : Int) (i1 : Nat) (mf1 : Nat) : F_spec_l6Tree_L1 m (mf1 + 1) (taken1, sum1, i1) = (bif decide ((i1 : Int) < ((F_spec_l6Edges m).length : Int)) then (bif !(F_spec_l1Has (F_spec_l6Side (m.length : Int) taken1 (-1) (((F_spec_l6Edges m).getD i1 (0, 0)).1)) (((F_spec_l6Edges m).getD i1 (0, 0)).2)) then F_spec_l6Tree_L1 m mf1 ((taken1 ++ ([(((F_spec_l6Edges m).getD i1 (0, 0)).1, ((F_spec_l6Edges m).getD i1 (0, 0)).2)])), (sum1 + ((m.getD ((((F_spec_l6Edges m).getD i1 (0, 0)).1).toNat) []).getD ((((F_spec_l6Edges m).getD i1 (0, 0)).2).toNat) 0)), (i1 + 1)) else F_spec_l6Tree_L1 m mf1 (taken1, sum1, (i1 + 1))) else (.next (taken1, sum1, i1))) := rfl
def F_spec_l6Tree (m : List (List Int)) : List (Int × Int) × Int := ((F_spec_l6Tree_L1 m ((((F_spec_l6Edges m).length) - 0) + 1) (([] : List (Int × Int)), 0, 0)).elim (fun (taken1, sum1, _) => (taken1, sum1)) (fun r => r))

def F_spec_SpanningTree (m : List (List Int)) : List (Int × Int) × Int × Bool := (bif !(F_spec_l6Good m) then (([] : List (Int × Int)), 0, false) else ((F_spec_l6Tree m).1, (F_spec_l6Tree m).2, true))


end Go.Proofs.Ytcmhgkcifejgcaa
namespace Go.Proofs.Ytcmhgkcifejgcaa
set_option linter.unusedVariables false
set_option linter.unusedSimpArgs false
open Go Go.RowKit
set_option linter.unusedVariables false

def F_laws_eqIntA2_L1 (a : Int × Int) (b : Int × Int) : Nat → Nat → Ctl (Nat) (Bool)
  | 0, s => .next s
  | mf1 + 1, i1 => (bif decide ((i1 : Int) < 2) then (bif !decide ((pk a.1 a.2 i1) = (pk b.1 b.2 i1)) then (.ret false) else F_laws_eqIntA2_L1 a b mf1 (i1 + 1)) else (.next i1))
theorem F_laws_eqIntA2_L1_s (a : Int × Int) (b : Int × Int) (i1 : Nat) (mf1 : Nat) : F_laws_eqIntA2_L1 a b (mf1 + 1) i1 = (bif decide ((i1 : Int) < 2) then (bif !decide ((pk a.1 a.2 i1) = (pk b.1 b.2 i1)) then (.ret false) else F_laws_eqIntA2_L1 a b mf1 (i1 + 1)) else (.next i1)) := rfl
def F_laws_eqIntA2 (a : Int × Int) (b : Int × Int) : Bool := ((F_laws_eqIntA2_L1 a b ((2 - 0) + 1) 0).elim (fun _ => true) (fun r => r))

def F_laws_eqIntA2S_L1 (a : List (Int × Int)) (b : List (Int × Int)) : Nat → Nat → Ctl (Nat) (Bool)
  | 0, s => .next s
  | mf1 + 1, i1 => (bif decide ((i1 : Int) < (a.length : Int)) then (bif !(F_laws_eqIntA2 (a.getD i1 (0, 0)) (b.getD i1 (0, 0))) then (.ret false) else F_laws_eqIntA2S_L1 a b mf1 (i1 + 1)) else (.next i1))
theorem F_laws_eqIntA2S_L1_s (a : List (Int × Int)) (b : List (Int × Int)) (i1 : Nat) (mf1 : Nat) : F_laws_eqIntA2S_L1 a b (mf1 + 1) i1 = (bif decide ((i1 : Int) < (a.length : Int)) then (bif !(F_laws_eqIntA2 (a.getD i1 (0, 0)) (b.getD i1 (0, 0))) then (.ret false) else F_laws_eqIntA2S_L1 a b mf1 (i1 + 1)) else (.next i1)) := rfl
def F_laws_eqIntA2S (a : List (Int × Int)) (b : List (Int × Int)) : Bool := (bif !decide ((a.length : Int) = (b.length : Int)) then false else ((F_laws_eqIntA2S_L1 a b ((a.length - 0) + 1) 0).elim (fun _ => true) (fun r => r)))

def F_laws_markIntA2S_L2 (i1 : Nat) : Nat → Int × Nat × List (Int × Int) → Ctl (Int × Nat × List (Int × Int)) (Int × List (Int × Int))
  | 0, s => .next s
  | mf2 + 1, (k2, j2, a2) => (bif decide ((j2 : Int) < 2) then F_laws_markIntA2S_L2 i1 mf2 ((k2 + 1), (j2 + 1), (a2.set i1 (pset (a2.getD i1 (0, 0)) j2 k2))) else (.next (k2, j2, a2)))
theorem F_laws_markIntA2S_L2_s (i1 : Nat) (k2 : Int) (j2 : Nat) (a2 : List (Int × Int)) (mf2 : Nat) : F_laws_markIntA2S_L2 i1 (mf2 + 1) (k2, j2, a2) = (bif decide ((j2 : Int) < 2) then F_laws_markIntA2S_L2 i1 mf2 ((k2 + 1), (j2 + 1), (a2.set i1 (pset (a2.getD i1 (0, 0)) j2 k2))) else (.next (k2, j2, a2))) := rfl
def F_laws_markIntA2S_L1  : Nat → Int × Nat × List (Int × Int) → Ctl (Int × Nat × List (Int × Int)) (Int × List (Int × Int))
  | 0, s => .next s
  | mf1 + 1, (k1, i1, a1) => (bif decide ((i1 : Int) < (a1.length : Int)) then ((F_laws_markIntA2S_L2 i1 ((2 - 0) + 1) (k1, 0, a1)).elim (fun (k2, _, a2) => F_laws_markIntA2S_L1 mf1 (k2, (i1 + 1), a2)) (fun r => .ret r)) else (.next (k1, i1, a1)))
theorem F_laws_markIntA2S_L1_s (k1 : Int) (i1 : Nat) (a1 : List (Int × Int)) (mf1 : Nat) : F_laws_markIntA2S_L1  (mf1 + 1) (k1, i1, a1) = (bif decide ((i1 : Int) < (a1.length : Int)) then ((F_laws_markIntA2S_L2 i1 ((2 - 0) + 1) (k1, 0, a1)).elim (fun (k2, _, a2) => F_laws_markIntA2S_L1 mf1 (k2, (i1 + 1), a2)) (fun r => .ret r)) else (.next (k1, i1, a1))) := rfl
def F_laws_markIntA2S (a : List (Int × Int)) (k : Int) : Int × List (Int × Int) := ((F_laws_markIntA2S_L1  ((a.length - 0) + 1) (k, 0, a)).elim (fun (k1, _, a1) => (k1, a1)) (fun r => r))

def F_laws_heldIntA2S_L2 (a : List (Int × Int)) (i1 : Nat) : Nat → Int × Nat → Ctl (Int × Nat) (Int)
  | 0, s => .next s
  | mf2 + 1, (k2, j2) => (bif decide ((j2 : Int) < 2) then (bif !decide ((pk (a.getD i1 (0, 0)).1 (a.getD i1 (0, 0)).2 j2) = k2) then (.ret (-1)) else F_laws_heldIntA2S_L2 a i1 mf2 ((k2 + 1), (j2 + 1))) else (.next (k2, j2)))
theorem F_laws_heldIntA2S_L2_s (a : List (Int × Int)) (i1 : Nat) (k2 : Int) (j2 : Nat) (mf2 : Nat) : F_laws_heldIntA2S_L2 a i1 (mf2 + 1) (k2, j2) = (bif decide ((j2 : Int) < 2) then (bif !decide ((pk (a.getD i1 (0, 0)).1 (a.getD i1 (0, 0)).2 j2) = k2) then (.ret (-1)) else F_laws_heldIntA2S_L2 a i1 mf2 ((k2 + 1), (j2 + 1))) else (.next (k2, j2))) := rfl
def F_laws_heldIntA2S_L1 (a : List (Int × Int)) : Nat → Int × Nat → Ctl (Int × Nat) (Int)
  | 0, s => .next s
  | mf1 + 1, (k1, i1) => (bif decide ((i1 : Int) < (a.length : Int)) then ((F_laws_heldIntA2S_L2 a i1 ((2 - 0) + 1) (k1, 0)).elim (fun (k2, _) => F_laws_heldIntA2S_L1 a mf1 (k2, (i1 + 1))) (fun r => .ret r)) else (.next (k1, i1)))
theorem F_laws_heldIntA2S_L1_s (a : List (Int × Int)) (k1 : Int) (i1 : Nat) (mf1 : Nat) : F_laws_heldIntA2S_L1 a (mf1 + 1) (k1, i1) = (bif decide ((i1 : Int) < (a.length : Int)) then ((F_laws_heldIntA2S_L2 a i1 ((2 - 0) + 1) (k1, 0)).elim (fun (k2, _) => F_laws_heldIntA2S_L1 a mf1 (k2, (i1 + 1))) (fun r => .ret r)) else (.next (k1, i1))) := rfl
def F_laws_heldIntA2S (a : List (Int × Int)) (k : Int) : Int := ((F_laws_heldIntA2S_L1 a ((a.length - 0) + 1) (k, 0)).elim (fun (k1, _) => k1) (fun r => r))


end Go.Proofs.Ytcmhgkcifejgcaa
namespace Go.Proofs.Ytcmhgkcifejgcaa
set_option linter.unusedVariables false
set_option linter.unusedSimpArgs false
open Go Go.RowKit
set_option linter.unusedVariables false
set_option linter.unusedSimpArgs false
def tri : Nat → Nat
  | 0 => 0
  | k + 1 => tri k + k
theorem tri_s {n x : Nat} (h : x < n) : tri (n - x) = tri (n - (x + 1)) + (n - (x + 1)) := by
  rw [show n - x = (n - (x + 1)) + 1 by omega]; rfl
theorem tri_le {n : Nat} (h : n ≤ 6) : tri n ≤ 15 := by
  match n, h with
  | 0, _ => decide
  | 1, _ => decide
  | 2, _ => decide
  | 3, _ => decide
  | 4, _ => decide
  | 5, _ => decide
  | 6, _ => decide
theorem dm_mk {n a b : Int} (h1 : 0 ≤ a ∧ a < n) (h2 : 0 ≤ b ∧ b < n) : Dm n (a, b) := ⟨h1, h2⟩
theorem DmA.app {n : Int} {l : List (Int × Int)} {p : Int × Int} (h : DmA n l) (hp : Dm n p) : DmA n (l ++ [p]) := fun i => by
  have h2 := h i
  simp only [List.getD_eq_getElem?_getD] at *
  rcases Nat.lt_trichotomy i l.length with e | e | e
  · rw [List.getElem?_append_left e]; exact h2
  · subst e; simpa using hp
  · rw [List.getElem?_eq_none (by simp; omega)]
    rw [List.getElem?_eq_none (by omega)] at h2
    exact h2
theorem DmA.nil {n : Int} (h : 1 ≤ n) : DmA n [] := fun i => by
  simp only [List.getD_nil]
  exact dm_mk (by omega) (by omega)
theorem DmA.mono {n k : Int} {l : List (Int × Int)} (h : DmA n l) (hk : n ≤ k) : DmA k l := fun i => by
  have := (h i).p
  exact ⟨by omega⟩
def Like (a b : List (Int × Int)) : Prop := b.length = a.length ∧ ∀ n, DmA n a → DmA n b
theorem Like.refl (a : List (Int × Int)) : Like a a := ⟨rfl, fun _ h => h⟩
theorem Like.trans {a b c : List (Int × Int)} (h : Like a b) (h2 : Like b c) : Like a c := ⟨h2.1.trans h.1, fun n hn => h2.2 n (h.2 n hn)⟩
theorem ins_L2 (a : Int) (cmp : Int × Int → Int × Int → Int) : ∀ (fuel : Nat) (j : Int) (d : List (Int × Int)), ∃ j' d', F_slices_insertionSortCmpFunc_2_int_L2 a cmp fuel (j, d) = .next (j', d') ∧ Like d d' := by
  intro fuel
  induction fuel with
  | zero => intro j d; exact ⟨j, d, rfl, Like.refl d⟩
  | succ m ih =>
    intro j d
    rw [F_slices_insertionSortCmpFunc_2_int_L2_s]
    cases hc : ((decide (a < j)) && (decide ((cmp (d.getD ((j).toNat) (0, 0)) (d.getD ((j - 1).toNat) (0, 0))) < 0)))
    · exact ⟨j, d, rfl, Like.refl d⟩
    · obtain ⟨j', d', h1, h2⟩ := ih (j - 1) _
      refine ⟨j', d', h1, Like.trans ⟨by simp, fun n hn => (hn.set (hn _)).set (hn _)⟩ h2⟩
theorem ins_L1 (a b : Int) (cmp : Int × Int → Int × Int → Int) : ∀ (fuel : Nat) (i : Int) (d : List (Int × Int)), ∃ i' d', F_slices_insertionSortCmpFunc_2_int_L1 a b cmp fuel (i, d) = .next (i', d') ∧ Like d d' := by
  intro fuel
  induction fuel with
  | zero => intro i d; exact ⟨i, d, rfl, Like.refl d⟩
  | succ m ih =>
    intro i d
    rw [F_slices_insertionSortCmpFunc_2_int_L1_s]
    cases hc : decide (i < b)
    · exact ⟨i, d, rfl, Like.refl d⟩
    · obtain ⟨j', d1, h1, h2⟩ := ins_L2 a cmp ((i - a).toNat + 1) i d
      rw [cond_true, h1, elim_next]
      obtain ⟨i', d', h3, h4⟩ := ih (i + 1) d1
      exact ⟨i', d', h3, h2.trans h4⟩
theorem stable_eq (x : List (Int × Int)) (n gn : Int) (cmp : Int × Int → Int × Int → Int) : F_slices_stableCmpFunc_2_int x n gn cmp = F_slices_insertionSortCmpFunc_2_int x 0 n gn cmp := rfl
theorem sort_like (x : List (Int × Int)) (gn : Int) (cmp : Int × Int → Int × Int → Int) : Like x (F_slices_SortStableFunc_S_2_int_2_int x gn cmp) := by
  unfold F_slices_SortStableFunc_S_2_int_2_int
  rw [stable_eq]
  unfold F_slices_insertionSortCmpFunc_2_int
  obtain ⟨i, d, h1, h2⟩ := ins_L1 0 (x.length : Int) cmp (((x.length : Int) - (0 + 1)).toNat + 1) (0 + 1) x
  rw [h1, elim_next]
  exact h2
/-- d' is d with at most k pairs of points more. -/
def Mor (n : Int) (k : Nat) (d d' : List (Int × Int)) : Prop := DmA n d → DmA n d' ∧ d'.length ≤ d.length + k
theorem Mor.refl {n : Int} {k : Nat} (d : List (Int × Int)) : Mor n k d d := fun h => ⟨h, by omega⟩
theorem Mor.trans {n : Int} {a b c : Nat} {d e f : List (Int × Int)} (h : Mor n a d e) (h2 : Mor n b e f) (hc : a + b ≤ c) : Mor n c d f := fun hd => by
  have h3 := h hd
  have h4 := h2 h3.1
  exact ⟨h4.1, by omega⟩
theorem Mor.one {n : Int} (d : List (Int × Int)) {p : Int × Int} (hp : Dm n p) : Mor n 1 d (d ++ [p]) := fun hd => ⟨hd.app hp, by simp⟩
theorem st_L2 (m : List (List Int)) (x : Nat) (hx : x < m.length) : ∀ (fuel y : Nat) (d : List (Int × Int)), ∃ y' d', F_impl_Metric_spanningTree_L2 m x fuel (d, y) = .next (d', y') ∧ Mor m.length fuel d d' := by
  intro fuel
  induction fuel with
  | zero => intro y d; exact ⟨y, d, rfl, Mor.refl d⟩
  | succ f ih =>
    intro y d
    rw [F_impl_Metric_spanningTree_L2_s]
    by_cases hy : y < m.length
    · rw [bif_pos (decide_eq_true (by omega))]
      obtain ⟨y', d', h1, h2⟩ := ih (y + 1) (d ++ [((x : Int), (y : Int))])
      exact ⟨y', d', h1, (Mor.one d (dm_mk (by omega) (by omega))).trans h2 (by omega)⟩
    · rw [bif_neg (decide_eq_false (by omega))]
      exact ⟨y, d, rfl, Mor.refl d⟩
theorem st_L1 (m : List (List Int)) (h6 : m.length ≤ 6) : ∀ (fuel x : Nat) (d : List (Int × Int)), ∃ x' d', F_impl_Metric_spanningTree_L1 m fuel (d, x) = .next (d', x') ∧ Mor m.length (7 * fuel) d d' := by
  intro fuel
  induction fuel with
  | zero => intro x d; exact ⟨x, d, rfl, Mor.refl d⟩
  | succ f ih =>
    intro x d
    rw [F_impl_Metric_spanningTree_L1_s]
    by_cases hx : x < m.length
    · rw [bif_pos (decide_eq_true (by omega))]
      obtain ⟨y', d1, h1, h2⟩ := st_L2 m x hx (m.length - (x + 1) + 1) (x + 1) d
      rw [h1, elim_next]
      obtain ⟨x', d', h3, h4⟩ := ih (x + 1) d1
      exact ⟨x', d', h3, h2.trans h4 (by omega)⟩
    · rw [bif_neg (decide_eq_false (by omega))]
      exact ⟨x, d, rfl, Mor.refl d⟩
theorem st_L3 (m : List (List Int)) (es : List (Int × Int)) (he : DmA m.length (F_slices_SortStableFunc_S_2_int_2_int es (m.length : Int) (fun a b => F_impl_Metric_spanningTree_1 a b m))) : ∀ (fuel k : Nat) (d : List (Int × Int)), ∃ k' d', F_impl_Metric_spanningTree_L3 m es fuel (d, k) = .next (d', k') ∧ Mor m.length fuel d d' := by
  intro fuel
  induction fuel with
  | zero => intro k d; exact ⟨k, d, rfl, Mor.refl d⟩
  | succ f ih =>
    intro k d
    rw [F_impl_Metric_spanningTree_L3_s]
    generalize F_slices_SortStableFunc_S_2_int_2_int es (m.length : Int) (fun a b => F_impl_Metric_spanningTree_1 a b m) = ss at he
    cases decide ((k : Int) < (ss.length : Int))
    · exact ⟨k, d, rfl, Mor.refl d⟩
    · cases !(F_slices_Contains_Sint_int (F_impl_sideOf d ((ss.getD k (0, 0)).1)) ((ss.getD k (0, 0)).2))
      · obtain ⟨k', d', h1, h2⟩ := ih (k + 1) d
        exact ⟨k', d', h1, (Mor.refl (k := 0) d).trans h2 (by omega)⟩
      · obtain ⟨k', d', h1, h2⟩ := ih (k + 1) (d ++ [((ss.getD k (0, 0)).1, (ss.getD k (0, 0)).2)])
        exact ⟨k', d', h1, (Mor.one d (he k)).trans h2 (by omega)⟩
theorem st_bd {m : List (List Int)} (h : Tab m) : (F_impl_Metric_spanningTree m).length ≤ 1000 ∧ DmA m.length (F_impl_Metric_spanningTree m) := by
  have h6 := h.n6; have h1 := h.n1
  unfold F_impl_Metric_spanningTree
  obtain ⟨x', es, g1, g2⟩ := st_L1 m h6 (m.length - 0 + 1) 0 []
  have g3 := g2 (DmA.nil (by omega))
  rw [g1, elim_next]
  have hl := sort_like es (m.length : Int) (fun a b => F_impl_Metric_spanningTree_1 a b m)
  have hl1 := hl.1
  obtain ⟨k', d, f1, f2⟩ := st_L3 m es (hl.2 _ g3.1) ((F_slices_SortStableFunc_S_2_int_2_int es (m.length : Int) (fun a b => F_impl_Metric_spanningTree_1 a b m)).length - 0 + 1) 0 []
  have f3 := f2 (DmA.nil (by omega))
  dsimp only
  rw [f1, elim_next]
  have g4 := g3.2
  have f4 := f3.2
  simp only [List.length_nil] at g4 f4
  exact ⟨by dsimp only; omega, f3.1⟩
theorem ed_L3 (m : List (List Int)) (z x : Nat) (hx : x < m.length) : ∀ (fuel y : Nat) (d : List (Int × Int)), ∃ y' d', F_spec_l6Edges_L3 m z x fuel (d, y) = .next (d', y') ∧ Mor m.length fuel d d' := by
  intro fuel
  induction fuel with
  | zero => intro y d; exact ⟨y, d, rfl, Mor.refl d⟩
  | succ f ih =>
    intro y d
    rw [F_spec_l6Edges_L3_s]
    by_cases hy : y < m.length
    · rw [bif_pos (decide_eq_true (by omega))]
      cases decide (((m.getD x []).getD y 0) = (z : Int))
      · obtain ⟨y', d', h1, h2⟩ := ih (y + 1) d
        exact ⟨y', d', h1, (Mor.refl (k := 0) d).trans h2 (by omega)⟩
      · obtain ⟨y', d', h1, h2⟩ := ih (y + 1) (d ++ [((x : Int), (y : Int))])
        exact ⟨y', d', h1, (Mor.one d (dm_mk (by omega) (by omega))).trans h2 (by omega)⟩
    · rw [bif_neg (decide_eq_false (by omega))]
      exact ⟨y, d, rfl, Mor.refl d⟩
theorem ed_L2 (m : List (List Int)) (z : Nat) (h6 : m.length ≤ 6) : ∀ (fuel x : Nat) (d : List (Int × Int)), ∃ x' d', F_spec_l6Edges_L2 m z fuel (d, x) = .next (d', x') ∧ Mor m.length (7 * fuel) d d' := by
  intro fuel
  induction fuel with
  | zero => intro x d; exact ⟨x, d, rfl, Mor.refl d⟩
  | succ f ih =>
    intro x d
    rw [F_spec_l6Edges_L2_s]
    by_cases hx : x < m.length
    · rw [bif_pos (decide_eq_true (by omega))]
      obtain ⟨y', d1, h1, h2⟩ := ed_L3 m z x hx (m.length - (x + 1) + 1) (x + 1) d
      rw [h1, elim_next]
      obtain ⟨x', d', h3, h4⟩ := ih (x + 1) d1
      exact ⟨x', d', h3, h2.trans h4 (by omega)⟩
    · rw [bif_neg (decide_eq_false (by omega))]
      exact ⟨x, d, rfl, Mor.refl d⟩
theorem ed_L1 (m : List (List Int)) (h6 : m.length ≤ 6) : ∀ (fuel z : Nat) (d : List (Int × Int)), ∃ z' d', F_spec_l6Edges_L1 m fuel (d, z) = .next (d', z') ∧ Mor m.length (49 * fuel) d d' := by
  intro fuel
  induction fuel with
  | zero => intro z d; exact ⟨z, d, rfl, Mor.refl d⟩
  | succ f ih =>
    intro z d
    rw [F_spec_l6Edges_L1_s]
    by_cases hz : (z : Int) ≤ 99
    · rw [bif_pos (decide_eq_true hz)]
      obtain ⟨x', d1, h1, h2⟩ := ed_L2 m z h6 (m.length - 0 + 1) 0 d
      rw [h1, elim_next]
      obtain ⟨z', d', h3, h4⟩ := ih (z + 1) d1
      exact ⟨z', d', h3, h2.trans h4 (by omega)⟩
    · rw [bif_neg (decide_eq_false hz)]
      exact ⟨z, d, rfl, Mor.refl d⟩
theorem edges_bd {m : List (List Int)} (h : Tab m) : (F_spec_l6Edges m).length ≤ 5000 ∧ DmA m.length (F_spec_l6Edges m) := by
  unfold F_spec_l6Edges
  have h1 := h.n1
  obtain ⟨z', d, g1, g2⟩ := ed_L1 m h.n6 (100 - 1 + 1) 1 []
  have g3 := g2 (DmA.nil (by omega))
  rw [g1, elim_next]
  have g4 := g3.2
  simp only [List.length_nil] at g4
  exact ⟨by dsimp only; omega, g3.1⟩
end Go.Proofs.Ytcmhgkcifejgcaa
namespace Go.Proofs.Ytcmhgkcifejgcaa
set_option linter.unusedVariables false
set_option linter.unusedSimpArgs false
open Go Go.RowKit
set_option linter.unusedVariables false
set_option linter.unusedSimpArgs false
theorem mA_L2 (i : Nat) (k : Int) (a : List (Int × Int)) (hi : i < a.length) : F_laws_markIntA2S_L2 i 3 (k, 0, a) = .next (k + 1 + 1, 2, a.set i (k, k + 1)) := by
  rw [F_laws_markIntA2S_L2_s, bif_pos (by decide), F_laws_markIntA2S_L2_s, bif_pos (by decide), F_laws_markIntA2S_L2_s, bif_neg (by decide)]
  have h1 : (a.set i (pset (a.getD i (0, 0)) 0 k)).getD i (0, 0) = (k, (a.getD i (0, 0)).2) := by rw [getD_set_eq _ _ _ _ hi]; rfl
  rw [show (0 + 1 : Nat) = 1 from rfl, h1, List.set_set]
  rfl
theorem mA_L1 (k0 : Int) : ∀ (fuel i : Nat) (k : Int) (a : List (Int × Int)), a.length - i < fuel → i ≤ a.length → k = k0 + 2 * (i : Int) → (∀ j, j < i → a.getD j (0, 0) = (k0 + 2 * (j : Int), k0 + 2 * (j : Int) + 1)) →
    ∃ i' a', F_laws_markIntA2S_L1 fuel (k, i, a) = .next (k0 + 2 * (a.length : Int), i', a') ∧ a'.length = a.length ∧ ∀ j, j < a.length → a'.getD j (0, 0) = (k0 + 2 * (j : Int), k0 + 2 * (j : Int) + 1) := by
  intro fuel
  induction fuel with
  | zero => intro i k a h; omega
  | succ m ih =>
    intro i k a h hi hk hd
    rw [F_laws_markIntA2S_L1_s]
    by_cases hl : i < a.length
    · rw [bif_pos (decide_eq_true (by omega))]
      rw [show (2 - 0 + 1 : Nat) = 3 from rfl, mA_L2 i k a hl, elim_next]
      obtain ⟨i', a', h1, h2, h3⟩ := ih (i + 1) (k + 1 + 1) (a.set i (k, k + 1)) (by simp; omega) (by simp; omega) (by omega) (fun j hj => by
        by_cases e : j = i
        · subst e; rw [getD_set_eq _ _ _ _ hl, hk]
        · rw [getD_set_ne _ _ _ _ _ (Ne.symm e)]; exact hd j (by omega))
      simp only [List.length_set] at h1 h2 h3
      exact ⟨i', a', h1, h2, h3⟩
    · rw [bif_neg (decide_eq_false (by omega))]
      have : i = a.length := by omega
      subst this
      exact ⟨_, a, by rw [hk], rfl, hd⟩
theorem mA_eq (a : List (Int × Int)) (k : Int) : (F_laws_markIntA2S a k).1 = k + 2 * (a.length : Int) ∧ (F_laws_markIntA2S a k).2.length = a.length ∧ ∀ j, j < a.length → (F_laws_markIntA2S a k).2.getD j (0, 0) = (k + 2 * (j : Int), k + 2 * (j : Int) + 1) := by
  unfold F_laws_markIntA2S
  obtain ⟨i', a', h1, h2, h3⟩ := mA_L1 k (a.length - 0 + 1) 0 k a (by omega) (by omega) (by omega) (fun j h => by omega)
  rw [h1, elim_next]
  exact ⟨rfl, h2, h3⟩
theorem hA_L2 (a : List (Int × Int)) (i : Nat) (k : Int) (h : a.getD i (0, 0) = (k, k + 1)) : F_laws_heldIntA2S_L2 a i 3 (k, 0) = .next (k + 1 + 1, 2) := by
  rw [F_laws_heldIntA2S_L2_s, bif_pos (by decide), h, bif_neg (by simp [pk]), F_laws_heldIntA2S_L2_s, bif_pos (by decide), h, bif_neg (by simp [pk]), F_laws_heldIntA2S_L2_s, bif_neg (by decide)]
theorem hA_L1 (a : List (Int × Int)) (k0 : Int) (hd : ∀ j, j < a.length → a.getD j (0, 0) = (k0 + 2 * (j : Int), k0 + 2 * (j : Int) + 1)) : ∀ (fuel i : Nat) (k : Int), a.length - i < fuel → i ≤ a.length → k = k0 + 2 * (i : Int) →
    ∃ i', F_laws_heldIntA2S_L1 a fuel (k, i) = .next (k0 + 2 * (a.length : Int), i') := by
  intro fuel
  induction fuel with
  | zero => intro i k h; omega
  | succ m ih =>
    intro i k h hi hk
    rw [F_laws_heldIntA2S_L1_s]
    by_cases hl : i < a.length
    · rw [bif_pos (decide_eq_true (by omega))]
      rw [show (2 - 0 + 1 : Nat) = 3 from rfl, hA_L2 a i k (by rw [hd i hl, hk]), elim_next]
      exact ih (i + 1) (k + 1 + 1) (by omega) (by omega) (by omega)
    · rw [bif_neg (decide_eq_false (by omega))]
      have : i = a.length := by omega
      subst this
      exact ⟨_, by rw [hk]⟩
/-- What is marked is held. -/
theorem heldA_marked (a : List (Int × Int)) (k : Int) : F_laws_heldIntA2S (F_laws_markIntA2S a k).2 k = (F_laws_markIntA2S a k).1 := by
  obtain ⟨h1, h2, h3⟩ := mA_eq a k
  rw [h1]
  unfold F_laws_heldIntA2S
  obtain ⟨i', h⟩ := hA_L1 (F_laws_markIntA2S a k).2 k (fun j hj => h3 j (by omega)) ((F_laws_markIntA2S a k).2.length - 0 + 1) 0 k (by omega) (by omega) (by omega)
  rw [h, elim_next]
  dsimp only
  rw [h2]
theorem eqA2_refl (p : Int × Int) : F_laws_eqIntA2 p p = true := by
  unfold F_laws_eqIntA2
  rcases scan (F_laws_eqIntA2_L1 p p) 2 (fun i => !decide ((pk p.1 p.2 i) = (pk p.1 p.2 i))) (fun _ => false) (fun m i => F_laws_eqIntA2_L1_s p p i m) (2 - 0 + 1) 0 (by omega) with ⟨h1, _⟩ | ⟨j, _, _, _, h4, _⟩
  · rw [h1]; rfl
  · simp at h4
theorem eqA2S_refl (a : List (Int × Int)) : F_laws_eqIntA2S a a = true := by
  unfold F_laws_eqIntA2S
  rw [bif_neg (by simp)]
  rcases scan (F_laws_eqIntA2S_L1 a a) a.length (fun i => !(F_laws_eqIntA2 (a.getD i (0, 0)) (a.getD i (0, 0)))) (fun _ => false) (fun m i => F_laws_eqIntA2S_L1_s a a i m) (a.length - 0 + 1) 0 (by omega) with ⟨h1, _⟩ | ⟨j, _, _, _, h4, _⟩
  · rw [h1]; rfl
  · rw [eqA2_refl] at h4; cases h4
end Go.Proofs.Ytcmhgkcifejgcaa
namespace Go.Proofs.Ytcmhgkcifejgcaa
set_option linter.unusedVariables false
set_option linter.unusedSimpArgs false
open Go Go.RowKit
set_option linter.unusedVariables false
set_option linter.unusedSimpArgs false
theorem sd_L3 (es : List (Int × Int)) (i k : Nat) (o : List Int) : F_impl_sideOf_L3 es i k 3 (o, 0) =
    (bif (decide ((es.getD k (0, 0)).1 = o.getD i 0) && !(F_spec_l1Has o (es.getD k (0, 0)).2)) then
      (bif (decide ((es.getD k (0, 0)).2 = (o ++ [(es.getD k (0, 0)).2]).getD i 0) && !(F_spec_l1Has (o ++ [(es.getD k (0, 0)).2]) (es.getD k (0, 0)).1)) then .next ((o ++ [(es.getD k (0, 0)).2]) ++ [(es.getD k (0, 0)).1], 2) else .next (o ++ [(es.getD k (0, 0)).2], 2))
    else (bif (decide ((es.getD k (0, 0)).2 = o.getD i 0) && !(F_spec_l1Has o (es.getD k (0, 0)).1)) then .next (o ++ [(es.getD k (0, 0)).1], 2) else .next (o, 2))) := by
  have e0 : (1 - ((0 : Nat) : Int)).toNat = 1 := by decide
  have e1 : (1 - ((1 : Nat) : Int)).toNat = 0 := by decide
  have p0 : ∀ a b : Int, pk a b 0 = a := fun _ _ => rfl
  have p1 : ∀ a b : Int, pk a b 1 = b := fun _ _ => rfl
  rw [F_impl_sideOf_L3_s, bif_pos (by decide), e0, p0, p1, contains_eq]
  cases (decide ((es.getD k (0, 0)).1 = o.getD i 0) && !(F_spec_l1Has o (es.getD k (0, 0)).2))
  · rw [cond_false, cond_false, show (0 + 1 : Nat) = 1 from rfl, F_impl_sideOf_L3_s, bif_pos (by decide), e1, p0, p1, contains_eq]
    cases (decide ((es.getD k (0, 0)).2 = o.getD i 0) && !(F_spec_l1Has o (es.getD k (0, 0)).1))
    · rw [cond_false, cond_false, F_impl_sideOf_L3_s, bif_neg (by decide)]
    · rw [cond_true, cond_true, F_impl_sideOf_L3_s, bif_neg (by decide)]
  · rw [cond_true, cond_true, show (0 + 1 : Nat) = 1 from rfl, F_impl_sideOf_L3_s, bif_pos (by decide), e1, p0, p1, contains_eq]
    cases (decide ((es.getD k (0, 0)).2 = (o ++ [(es.getD k (0, 0)).2]).getD i 0) && !(F_spec_l1Has (o ++ [(es.getD k (0, 0)).2]) (es.getD k (0, 0)).1))
    · rw [cond_false, cond_false, F_impl_sideOf_L3_s, bif_neg (by decide)]
    · rw [cond_true, cond_true, F_impl_sideOf_L3_s, bif_neg (by decide)]
theorem sd_L2 (es : List (Int × Int)) (i : Nat) : ∀ (fuel k : Nat) (o : List Int), F_impl_sideOf_L2 es i fuel (o, k) = F_spec_l6Side_L2 es (-1) i fuel (o, k) := by
  intro fuel
  induction fuel with
  | zero => intro k o; rfl
  | succ f ih =>
    intro k o
    rw [F_impl_sideOf_L2_s, F_spec_l6Side_L2_s]
    by_cases hk : k < es.length
    · rw [bif_pos (decide_eq_true (by omega)), bif_pos (decide_eq_true (by omega)), bif_neg (decide_eq_false (by omega)), show (2 - 0 + 1 : Nat) = 3 from rfl, sd_L3]
      cases (decide ((es.getD k (0, 0)).1 = o.getD i 0) && !(F_spec_l1Has o (es.getD k (0, 0)).2))
      · cases (decide ((es.getD k (0, 0)).2 = o.getD i 0) && !(F_spec_l1Has o (es.getD k (0, 0)).1))
        · exact ih _ _
        · exact ih _ _
      · cases (decide ((es.getD k (0, 0)).2 = (o ++ [(es.getD k (0, 0)).2]).getD i 0) && !(F_spec_l1Has (o ++ [(es.getD k (0, 0)).2]) (es.getD k (0, 0)).1))
        · exact ih _ _
        · exact ih _ _
    · rw [bif_neg (decide_eq_false (by omega)), bif_neg (decide_eq_false (by omega))]
theorem sd_L1 (es : List (Int × Int)) : ∀ (fuel i : Nat) (o : List Int), F_impl_sideOf_L1 es fuel (o, i) = F_spec_l6Side_L1 es (-1) fuel (o, i) := by
  intro fuel
  induction fuel with
  | zero => intro i o; rfl
  | succ f ih =>
    intro i o
    rw [F_impl_sideOf_L1_s, F_spec_l6Side_L1_s, sd_L2]
    congr 2
    funext s
    exact ih _ _
end Go.Proofs.Ytcmhgkcifejgcaa
namespace Go.Proofs.Ytcmhgkcifejgcaa
set_option linter.unusedVariables false
set_option linter.unusedSimpArgs false
open Go Go.RowKit
set_option linter.unusedVariables false


end Go.Proofs.Ytcmhgkcifejgcaa
namespace Go.Proofs.Ytcmhgkcifejgcaa
set_option linter.unusedVariables false
set_option linter.unusedSimpArgs false
open Go


/-! sorting -/
def Up (l : List Int) : Prop := l.Pairwise (· ≤ ·)
theorem sortI_perm (l : List Int) : (sortI l).Perm l := List.mergeSort_perm l _
theorem sortI_up (l : List Int) : Up (sortI l) := by
  have := List.pairwise_mergeSort (le := fun (x y : Int) => decide (x ≤ y)) (fun a b c h1 h2 => by simp at *; omega) (fun a b => by simp; omega) l
  exact this.imp (fun h => by simpa using h)
theorem up_unique {a b : List Int} (ha : Up a) (hb : Up b) (h : a.Perm b) : a = b := List.Perm.eq_of_pairwise (fun x y _ _ h1 h2 => by omega) ha hb h
theorem sortI_of {l s : List Int} (hs : Up s) (h : s.Perm l) : sortI l = s := up_unique (sortI_up l) hs ((sortI_perm l).trans h.symm)
theorem sortI_congr {a b : List Int} (h : a.Perm b) : sortI a = sortI b := up_unique (sortI_up a) (sortI_up b) ((sortI_perm a).trans (h.trans (sortI_perm b).symm))
theorem sortI_length (l : List Int) : (sortI l).length = l.length := (sortI_perm l).length_eq
theorem up_getD {l : List Int} : Up l ↔ ∀ i, i + 1 < l.length → l.getD i 0 ≤ l.getD (i + 1) 0 := by
  constructor
  · intro h i hi
    have := List.pairwise_iff_getElem.1 h i (i + 1) (by omega) hi (by omega)
    rw [getD_lt l i 0 (by omega), getD_lt l (i + 1) 0 hi]; exact this
  · intro h
    refine List.pairwise_iff_getElem.2 fun i j hi hj hij => ?_
    have := sorted_le h (j - i) i (by omega)
    rw [show i + (j - i) = j by omega, getD_lt l i 0 hi, getD_lt l j 0 hj] at this
    exact this
theorem mem_getD {l : List Int} {v : Int} : v ∈ l ↔ ∃ i, i < l.length ∧ l.getD i 0 = v := by
  constructor
  · intro h
    obtain ⟨i, hi, rfl⟩ := List.getElem_of_mem h
    exact ⟨i, hi, getD_lt l i 0 hi⟩
  · rintro ⟨i, hi, rfl⟩; exact getD_mem l i 0 hi
def Rise (l : List Int) : Prop := l.Pairwise (· < ·)
theorem rise_nodup {l : List Int} (h : Rise l) : l.Nodup := h.imp (fun h => by omega)
theorem rise_unique {a b : List Int} (ha : Rise a) (hb : Rise b) (h : ∀ v, v ∈ a ↔ v ∈ b) : a = b := by
  refine List.Perm.eq_of_pairwise (le := (· < ·)) (fun x y _ _ h1 h2 => by omega) ha hb ?_
  exact (List.perm_ext_iff_of_nodup (rise_nodup ha) (rise_nodup hb)).2 h
theorem compactUpTo_rise (d : Array Int) (hu : ∀ i, i + 1 < d.size → d[i]! ≤ d[i + 1]!) : ∀ m, m ≤ d.size → Rise (Lib.compactUpTo d m) ∧ ∀ v, v ∈ Lib.compactUpTo d m ↔ ∃ j, j < m ∧ d[j]! = v
  | 0, _ => ⟨by simp [Lib.compactUpTo, Rise], fun v => by simp [Lib.compactUpTo]⟩
  | m + 1, hm => by
    obtain ⟨h1, h2⟩ := compactUpTo_rise d hu m (by omega)
    have hle : ∀ n j, j + n < d.size → d[j]! ≤ d[j + n]! := by
      intro n
      induction n with
      | zero => intro j _; simp
      | succ n ih => intro j hj; have a1 := ih j (by omega); have a2 := hu (j + n) (by omega); rw [show j + (n + 1) = j + n + 1 by omega]; omega
    rw [Lib.compactUpTo_succ]
    cases hk : Lib.keeps d m with
    | true =>
      simp only [if_true]
      simp only [Lib.keeps, decide_eq_true_eq] at hk
      refine ⟨?_, fun v => ?_⟩
      · unfold Rise
        rw [List.pairwise_append]
        refine ⟨h1, by simp, fun a ha b hb => ?_⟩
        rw [List.mem_singleton.1 hb]
        obtain ⟨j, hj, rfl⟩ := (h2 a).1 ha
        rcases hk with hk | hk
        · omega
        · have a1 := hle (m - 1 - j) j (by omega)
          have a2 := hu (m - 1) (by omega)
          rw [show j + (m - 1 - j) = m - 1 by omega] at a1
          rw [show m - 1 + 1 = m by omega] at a2
          omega
      · rw [List.mem_append, h2, List.mem_singleton]
        constructor
        · rintro (⟨j, hj, e⟩ | rfl)
          · exact ⟨j, by omega, e⟩
          · exact ⟨m, by omega, rfl⟩
        · rintro ⟨j, hj, e⟩
          rcases Nat.lt_or_eq_of_le (Nat.le_of_lt_succ hj) with h | h
          · exact .inl ⟨j, h, e⟩
          · subst h; exact .inr e.symm
    | false =>
      simp only [Bool.false_eq_true, if_false, List.append_nil]
      have hk' : ¬ (m = 0 ∨ d[m]! ≠ d[m - 1]!) := by
        intro hh
        rw [show Lib.keeps d m = decide (m = 0 ∨ d[m]! ≠ d[m - 1]!) from rfl, decide_eq_true hh] at hk
        cases hk
      refine ⟨h1, fun v => ?_⟩
      rw [h2]
      constructor
      · rintro ⟨j, hj, e⟩; exact ⟨j, by omega, e⟩
      · rintro ⟨j, hj, e⟩
        rcases Nat.lt_or_eq_of_le (Nat.le_of_lt_succ hj) with h | h
        · exact ⟨j, h, e⟩
        · subst h
          refine ⟨j - 1, by omega, ?_⟩
          rw [← e]
          exact (Classical.byContradiction fun hh => hk' (.inr (fun e2 => hh e2.symm)))
theorem compact_rise {s : List Int} (hu : Up s) : Rise (Lib.compact s) ∧ ∀ v, v ∈ Lib.compact s ↔ v ∈ s := by
  have hg : ∀ i, i < s.length → s.toArray[i]! = s.getD i 0 := fun i hi => by
    rw [getD_lt s i 0 hi]; simp [hi]
  obtain ⟨h1, h2⟩ := compactUpTo_rise s.toArray (fun i hi => by
    have hi' : i + 1 < s.length := by simpa using hi
    rw [hg i (by omega), hg (i + 1) hi']; exact up_getD.1 hu i hi') s.length (by simp)
  refine ⟨h1, fun v => (h2 v).trans ?_⟩
  rw [mem_getD]
  constructor
  · rintro ⟨j, hj, e⟩; exact ⟨j, hj, by rw [← hg j hj]; exact e⟩
  · rintro ⟨j, hj, e⟩; exact ⟨j, hj, by rw [hg j hj]; exact e⟩
theorem rising_spec (l : List Int) : Rise (F_impl_rising l) ∧ ∀ v, v ∈ F_impl_rising l ↔ v ∈ l := by
  unfold F_impl_rising
  obtain ⟨h1, h2⟩ := compact_rise (sortI_up l)
  exact ⟨h1, fun v => (h2 v).trans (sortI_perm l).mem_iff⟩
theorem rising_len (l : List Int) : (F_impl_rising l).length ≤ l.length := by
  have := Lib.compact_length_le (sortI l)
  unfold F_impl_rising
  rw [sortI_length] at this; exact this
theorem index_lt {a : List Int} {v : Int} (h : ∃ i, i < a.length ∧ a.getD i 0 = v) : 0 ≤ F_slices_Index_Sint_int a v ∧ F_slices_Index_Sint_int a v < a.length := by
  rcases index_spec a v with ⟨_, h2⟩ | ⟨i, h1, h2, _⟩
  · obtain ⟨i, hi, he⟩ := h; exact absurd he (h2 i hi)
  · omega
end Go.Proofs.Ytcmhgkcifejgcaa
namespace Go.Proofs.Ytcmhgkcifejgcaa
set_option linter.unusedVariables false
set_option linter.unusedSimpArgs false
open Go Go.RowKit
set_option linter.unusedVariables false
set_option linter.unusedSimpArgs false
theorem sd_L3b (n : Nat) (o : List Int) : ∀ (fuel k : Nat) (d : List Int), n - k < fuel → k ≤ n → Rise d → (∀ v ∈ d, v < k) → (∀ v : Int, v ∈ d ↔ v ∈ o ∧ 0 ≤ v ∧ v < k) →
    ∃ k' d', F_spec_l6Side_L3 n o fuel (d, k) = .next (d', k') ∧ Rise d' ∧ ∀ v : Int, v ∈ d' ↔ v ∈ o ∧ 0 ≤ v ∧ v < n := by
  intro fuel
  induction fuel with
  | zero => intro k d h; omega
  | succ f ih =>
    intro k d h hk hr hb hm
    rw [F_spec_l6Side_L3_s]
    by_cases hl : k < n
    · rw [bif_pos (decide_eq_true (by omega))]
      cases hc : F_spec_l1Has o (k : Int)
      · have hn := st_notmem hc
        refine ih (k + 1) d (by omega) (by omega) hr (fun v hv => by have := hb v hv; omega) fun v => ?_
        rw [hm v]
        constructor
        · rintro ⟨h1, h2, h3⟩; exact ⟨h1, h2, by omega⟩
        · rintro ⟨h1, h2, h3⟩
          refine ⟨h1, h2, ?_⟩
          by_cases e : v = k
          · exact absurd (e ▸ h1) hn
          · omega
      · have hn : (k : Int) ∈ o := by
          obtain ⟨i, hi, e⟩ := (l1Has_iff o k).1 hc
          rw [← e, getD_lt _ _ _ hi]; exact List.getElem_mem hi
        refine ih (k + 1) (d ++ [(k : Int)]) (by omega) (by omega) ?_ (fun v hv => ?_) fun v => ?_
        · refine List.pairwise_append.2 ⟨hr, by simp, fun a ha b hb2 => ?_⟩
          rw [List.mem_singleton.1 hb2]; exact hb a ha
        · rcases List.mem_append.1 hv with hv | hv
          · have := hb v hv; omega
          · rw [List.mem_singleton.1 hv]; omega
        · rw [List.mem_append, List.mem_singleton, hm v]
          constructor
          · rintro (⟨h1, h2, h3⟩ | h1)
            · exact ⟨h1, h2, by omega⟩
            · subst h1; exact ⟨hn, by omega, by omega⟩
          · rintro ⟨h1, h2, h3⟩
            by_cases e : v = k
            · exact .inr e
            · exact .inl ⟨h1, h2, by omega⟩
    · rw [bif_neg (decide_eq_false (by omega))]
      have : k = n := by omega
      subst this
      exact ⟨_, d, rfl, hr, hm⟩
/-- All are points of n. -/
def Rg (n : Int) (l : List Int) : Prop := ∀ v ∈ l, 0 ≤ v ∧ v < n
theorem Rg.app {n x : Int} {l : List Int} (h : Rg n l) (hx : 0 ≤ x ∧ x < n) : Rg n (l ++ [x]) := fun v hv => by
  rcases List.mem_append.1 hv with hv | hv
  · exact h v hv
  · rw [List.mem_singleton.1 hv]; exact hx
theorem sd_R2 (n wo : Int) (es : List (Int × Int)) (he : DmA n es) (i : Nat) : ∀ (fuel k : Nat) (o : List Int), Rg n o → ∃ k' o', F_spec_l6Side_L2 es wo i fuel (o, k) = .next (o', k') ∧ Rg n o' := by
  intro fuel
  induction fuel with
  | zero => intro k o h; exact ⟨k, o, rfl, h⟩
  | succ f ih =>
    intro k o h
    have hp := (he k).p
    rw [F_spec_l6Side_L2_s]
    cases decide ((k : Int) < (es.length : Int))
    · exact ⟨k, o, rfl, h⟩
    · cases decide ((k : Int) = wo)
      · rw [cond_true, cond_false]
        cases (decide ((es.getD k (0, 0)).1 = o.getD i 0) && !(F_spec_l1Has o (es.getD k (0, 0)).2))
        · cases (decide ((es.getD k (0, 0)).2 = o.getD i 0) && !(F_spec_l1Has o (es.getD k (0, 0)).1))
          · exact ih _ _ h
          · exact ih _ _ (h.app hp.1)
        · cases (decide ((es.getD k (0, 0)).2 = (o ++ [(es.getD k (0, 0)).2]).getD i 0) && !(F_spec_l1Has (o ++ [(es.getD k (0, 0)).2]) (es.getD k (0, 0)).1))
          · exact ih _ _ (h.app hp.2)
          · exact ih _ _ ((h.app hp.2).app hp.1)
      · exact ih _ _ h
theorem sd_R1 (n wo : Int) (es : List (Int × Int)) (he : DmA n es) : ∀ (fuel i : Nat) (o : List Int), Rg n o → ∃ i' o', F_spec_l6Side_L1 es wo fuel (o, i) = .next (o', i') ∧ Rg n o' := by
  intro fuel
  induction fuel with
  | zero => intro i o h; exact ⟨i, o, rfl, h⟩
  | succ f ih =>
    intro i o h
    rw [F_spec_l6Side_L1_s]
    cases decide ((i : Int) < (o.length : Int))
    · exact ⟨i, o, rfl, h⟩
    · obtain ⟨k', o1, h1, h2⟩ := sd_R2 n wo es he i (es.length - 0 + 1) 0 o h
      rw [cond_true, h1, elim_next]
      exact ih (i + 1) o1 h2
/-- Both hands' sides are the same list. -/
theorem side_eq (n : Nat) (es : List (Int × Int)) (x : Int) (he : DmA n es) (hx : 0 ≤ x ∧ x < n) : F_impl_sideOf es x = F_spec_l6Side n es (-1) x := by
  unfold F_impl_sideOf F_spec_l6Side
  rw [sd_L1]
  obtain ⟨i', o, h1, h2⟩ := sd_R1 n (-1) es he (6 - 0 + 1) 0 [x] (by intro v hv; rw [List.mem_singleton.1 hv]; exact hx)
  rw [h1, elim_next, elim_next]
  dsimp only
  obtain ⟨k', d, g1, g2, g3⟩ := sd_L3b n o (((n : Int)).toNat - 0 + 1) 0 [] (by omega) (by omega) (by simp [Rise]) (by simp) (fun v => by simp <;> omega)
  rw [g1, elim_next]
  dsimp only
  obtain ⟨r1, r2⟩ := rising_spec o
  refine rise_unique r1 g2 fun v => ?_
  rw [r2, g3]
  exact ⟨fun h => ⟨h, h2 v h⟩, fun h => h.1⟩
end Go.Proofs.Ytcmhgkcifejgcaa
namespace Go.Proofs.Ytcmhgkcifejgcaa
set_option linter.unusedVariables false
set_option linter.unusedSimpArgs false
open Go Go.RowKit
set_option linter.unusedVariables false
set_option linter.unusedSimpArgs false
def wsum (m : List (List Int)) (t : List (Int × Int)) : Int := (t.map fun e => (m.getD e.1.toNat []).getD e.2.toNat 0).sum
theorem wsum_app (m : List (List Int)) (t : List (Int × Int)) (e : Int × Int) : wsum m (t ++ [e]) = wsum m t + (m.getD e.1.toNat []).getD e.2.toNat 0 := by
  unfold wsum
  rw [List.map_append, List.sum_append]
  simp
theorem tr_L1 (m : List (List Int)) (es : List (Int × Int)) (hs : F_slices_SortStableFunc_S_2_int_2_int es (m.length : Int) (fun a b => F_impl_Metric_spanningTree_1 a b m) = F_spec_l6Edges m) (hE : DmA m.length (F_spec_l6Edges m)) :
    ∀ (fuel k : Nat) (d : List (Int × Int)), DmA m.length d → ∃ k' d', F_impl_Metric_spanningTree_L3 m es fuel (d, k) = .next (d', k') ∧ F_spec_l6Tree_L1 m fuel (d, wsum m d, k) = .next (d', wsum m d', k') := by
  intro fuel
  induction fuel with
  | zero => intro k d h; exact ⟨k, d, rfl, rfl⟩
  | succ f ih =>
    intro k d h
    rw [F_impl_Metric_spanningTree_L3_s, F_spec_l6Tree_L1_s, hs]
    have hp := (hE k).p
    rw [contains_eq, side_eq m.length d _ h hp.1]
    cases decide ((k : Int) < ((F_spec_l6Edges m).length : Int))
    · exact ⟨k, d, rfl, rfl⟩
    · cases (F_spec_l1Has (F_spec_l6Side (m.length : Int) d (-1) (((F_spec_l6Edges m).getD k (0, 0)).1)) (((F_spec_l6Edges m).getD k (0, 0)).2))
      · obtain ⟨k', d', h1, h2⟩ := ih (k + 1) (d ++ [(((F_spec_l6Edges m).getD k (0, 0)).1, ((F_spec_l6Edges m).getD k (0, 0)).2)]) (h.app (hE k))
        rw [wsum_app] at h2
        exact ⟨k', d', h1, h2⟩
      · exact ih (k + 1) d h
theorem sm_L1 (m : List (List Int)) : ∀ (fuel k : Nat) (s : Int), (F_impl_Metric_spanningTree m).length - k < fuel → k ≤ (F_impl_Metric_spanningTree m).length → s = wsum m ((F_impl_Metric_spanningTree m).take k) →
    ∃ k', F_impl_SpanningTree_L1 m fuel (s, k) = .next (wsum m (F_impl_Metric_spanningTree m), k') := by
  intro fuel
  induction fuel with
  | zero => intro k s h; omega
  | succ f ih =>
    intro k s h hk hs
    rw [F_impl_SpanningTree_L1_s]
    by_cases hl : k < (F_impl_Metric_spanningTree m).length
    · rw [bif_pos (decide_eq_true (by omega))]
      refine ih (k + 1) _ (by omega) (by omega) ?_
      rw [List.take_succ_eq_append_getElem hl, wsum_app, hs, getD_lt _ _ _ hl]
    · rw [bif_neg (decide_eq_false (by omega))]
      exact ⟨k, by rw [hs, List.take_of_length_le (by omega)]⟩
/-- The edges of a table, row by row. -/
def rawE (m : List (List Int)) : List (Int × Int) := (F_impl_Metric_spanningTree_L1 m ((m.length - 0) + 1) (([] : List (Int × Int)), 0)).elim (fun (e, _) => e) (fun r => r)
theorem tree_eq {m : List (List Int)} (hT : Tab m) (hs : F_slices_SortStableFunc_S_2_int_2_int (rawE m) (m.length : Int) (fun a b => F_impl_Metric_spanningTree_1 a b m) = F_spec_l6Edges m) :
    F_impl_Metric_spanningTree m = (F_spec_l6Tree m).1 ∧ wsum m (F_impl_Metric_spanningTree m) = (F_spec_l6Tree m).2 := by
  have hE := (edges_bd hT).2
  obtain ⟨x', es, g1, _⟩ := st_L1 m hT.n6 (m.length - 0 + 1) 0 []
  have hr : rawE m = es := by unfold rawE; rw [g1, elim_next]
  rw [hr] at hs
  obtain ⟨k', d, h1, h2⟩ := tr_L1 m es hs hE ((F_spec_l6Edges m).length - 0 + 1) 0 [] (DmA.nil (by have := hT.n1; omega))
  have e1 : F_impl_Metric_spanningTree m = d := by
    unfold F_impl_Metric_spanningTree
    rw [g1, elim_next]
    dsimp only
    rw [hs, h1, elim_next]
  have e2 : F_spec_l6Tree m = (d, wsum m d) := by
    unfold F_spec_l6Tree
    rw [show (0 : Int) = wsum m [] from rfl, h2, elim_next]
  rw [e1, e2]
  exact ⟨rfl, rfl⟩
end Go.Proofs.Ytcmhgkcifejgcaa
namespace Go.Proofs.Ytcmhgkcifejgcaa
set_option linter.unusedVariables false
set_option linter.unusedSimpArgs false
open Go Go.RowKit
set_option linter.unusedVariables false
set_option linter.unusedSimpArgs false
/-- The sorted edges are the listed ones. -/
def SrtE (m : List (List Int)) : Prop := F_slices_SortStableFunc_S_2_int_2_int (rawE m) (m.length : Int) (fun a b => F_impl_Metric_spanningTree_1 a b m) = F_spec_l6Edges m
theorem st_both (m : List (List Int)) (hs : F_spec_l6Good m = true → SrtE m) : F_impl_SpanningTree m = F_spec_SpanningTree m := by
  unfold F_impl_SpanningTree F_spec_SpanningTree
  rw [isMetric_eq]
  cases hg : F_spec_l6Good m
  · rfl
  · obtain ⟨h1, h2⟩ := tree_eq (l6Good_t hg) (hs hg)
    obtain ⟨k', h3⟩ := sm_L1 m ((F_impl_Metric_spanningTree m).length - 0 + 1) 0 0 (by omega) (by omega) rfl
    rw [Bool.not_true, cond_false, cond_false, h3, elim_next]
    dsimp only
    rw [← h1, h2]
end Go.Proofs.Ytcmhgkcifejgcaa
namespace Go.Proofs.Ytcmhgkcifejgcaa
set_option linter.unusedVariables false
set_option linter.unusedSimpArgs false
open Go Go.RowKit
set_option linter.unusedVariables false
set_option linter.unusedSimpArgs false
def Dg (m : List (List Int)) (p : Int × Int) : Int := (m.getD p.1.toNat []).getD p.2.toNat 0
structure Vp (n : Nat) (p : Int × Int) : Prop where
  a : 0 ≤ p.1
  b : p.1 < p.2
  c : p.2 < n
def Lex (p q : Int × Int) : Prop := p.1 < q.1 ∨ p.1 = q.1 ∧ p.2 < q.2
def Rs (m : List (List Int)) (p q : Int × Int) : Prop := Dg m p < Dg m q ∨ Dg m p = Dg m q ∧ Lex p q
theorem Rs.asymm {m : List (List Int)} {p q : Int × Int} (h : Rs m p q) (h2 : Rs m q p) : False := by
  unfold Rs Lex at *
  omega
theorem uniq {m : List (List Int)} : ∀ (l l2 : List (Int × Int)), l.Pairwise (Rs m) → l2.Pairwise (Rs m) → (∀ p, p ∈ l ↔ p ∈ l2) → l = l2
  | [], [], _, _, _ => rfl
  | [], b :: u, _, _, h => by have := (h b).2 (by simp); cases this
  | a :: t, [], _, _, h => by have := (h a).1 (by simp); cases this
  | a :: t, b :: u, h1, h2, h => by
    rw [List.pairwise_cons] at h1 h2
    have e : a = b := by
      rcases List.mem_cons.1 ((h a).1 (by simp)) with e | e
      · exact e
      · rcases List.mem_cons.1 ((h b).2 (by simp)) with e2 | e2
        · exact e2.symm
        · exact ((h1.1 b e2).asymm (h2.1 a e)).elim
    subst e
    have h3 : t = u := uniq t u h1.2 h2.2 (fun p => by
      constructor
      · intro hp
        rcases List.mem_cons.1 ((h p).1 (List.mem_cons_of_mem _ hp)) with e | e
        · subst e; exact ((h1.1 p hp).asymm (h1.1 p hp)).elim
        · exact e
      · intro hp
        rcases List.mem_cons.1 ((h p).2 (List.mem_cons_of_mem _ hp)) with e | e
        · subst e; exact ((h2.1 p hp).asymm (h2.1 p hp)).elim
        · exact e)
    rw [h3]
/-- Rows of pairs that end ahead of (x, y). -/
structure Ri (n : Nat) (d : List (Int × Int)) (x y : Nat) : Prop where
  o : d.Pairwise Lex
  e : ∀ p, p ∈ d ↔ Vp n p ∧ (p.1 < x ∨ p.1 = x ∧ p.2 < y)
theorem Ri.conv {n : Nat} {d : List (Int × Int)} {x y x' y' : Nat} (h : Ri n d x y) (hc : ∀ p : Int × Int, Vp n p → ((p.1 < x ∨ p.1 = x ∧ p.2 < y) ↔ (p.1 < x' ∨ p.1 = x' ∧ p.2 < y'))) : Ri n d x' y' := by
  refine ⟨h.o, fun p => ?_⟩
  rw [h.e p]
  constructor
  · rintro ⟨h1, h2⟩; exact ⟨h1, (hc p h1).1 h2⟩
  · rintro ⟨h1, h2⟩; exact ⟨h1, (hc p h1).2 h2⟩
theorem pw_app {R : Int × Int → Int × Int → Prop} {d : List (Int × Int)} {q : Int × Int} (h : d.Pairwise R) (hq : ∀ p ∈ d, R p q) : (d ++ [q]).Pairwise R := by
  rw [List.pairwise_append]
  refine ⟨h, by simp, fun a ha b hb => ?_⟩
  rw [List.mem_singleton.1 hb]
  exact hq a ha
theorem Ri.step {n : Nat} {d : List (Int × Int)} {x y : Nat} (h : Ri n d x y) (hx : x < y) (hy : y < n) : Ri n (d ++ [((x : Int), (y : Int))]) x (y + 1) := by
  refine ⟨pw_app h.o (fun p hp => ?_), fun p => ?_⟩
  · have := ((h.e p).1 hp).2
    unfold Lex
    dsimp only
    omega
  · rw [List.mem_append, List.mem_singleton, h.e p]
    constructor
    · rintro (⟨h1, h2⟩ | h1)
      · exact ⟨h1, by omega⟩
      · subst h1; exact ⟨⟨by dsimp only; omega, by dsimp only; omega, by dsimp only; omega⟩, by dsimp only; omega⟩
    · rintro ⟨h1, h2⟩
      by_cases e : p.1 = x ∧ p.2 = y
      · exact Or.inr (Prod.ext e.1 e.2)
      · exact Or.inl ⟨h1, by omega⟩
theorem rw_L2 (m : List (List Int)) (x : Nat) : ∀ (fuel y : Nat) (d : List (Int × Int)), m.length - y < fuel → x < y → y ≤ m.length → Ri m.length d x y → ∃ y' d', F_impl_Metric_spanningTree_L2 m x fuel (d, y) = .next (d', y') ∧ Ri m.length d' (x + 1) 0 := by
  intro fuel
  induction fuel with
  | zero => intro y d h; omega
  | succ f ih =>
    intro y d h hx hy hr
    rw [F_impl_Metric_spanningTree_L2_s]
    by_cases hl : y < m.length
    · rw [bif_pos (decide_eq_true (by omega))]
      exact ih (y + 1) _ (by omega) (by omega) (by omega) (hr.step hx hl)
    · rw [bif_neg (decide_eq_false (by omega))]
      refine ⟨y, d, rfl, hr.conv (fun p hp => ?_)⟩
      have := hp.c
      have := hp.a
      have := hp.b
      omega
theorem rw_L1 (m : List (List Int)) : ∀ (fuel x : Nat) (d : List (Int × Int)), m.length - x < fuel → x ≤ m.length → Ri m.length d x 0 → ∃ x' d', F_impl_Metric_spanningTree_L1 m fuel (d, x) = .next (d', x') ∧ Ri m.length d' m.length 0 := by
  intro fuel
  induction fuel with
  | zero => intro x d h; omega
  | succ f ih =>
    intro x d h hx hr
    rw [F_impl_Metric_spanningTree_L1_s]
    by_cases hl : x < m.length
    · rw [bif_pos (decide_eq_true (by omega))]
      obtain ⟨y', d1, h1, h2⟩ := rw_L2 m x (m.length - (x + 1) + 1) (x + 1) d (by omega) (by omega) (by omega) (hr.conv (fun p hp => by
        have := hp.a; have := hp.b; omega))
      rw [h1, elim_next]
      exact ih (x + 1) d1 (by omega) (by omega) h2
    · rw [bif_neg (decide_eq_false (by omega))]
      have : x = m.length := by omega
      subst this
      exact ⟨_, d, rfl, hr⟩
theorem rawE_i (m : List (List Int)) : (rawE m).Pairwise Lex ∧ ∀ p, p ∈ rawE m ↔ Vp m.length p := by
  obtain ⟨x', d, h1, h2⟩ := rw_L1 m (m.length - 0 + 1) 0 [] (by omega) (by omega) ⟨by simp, fun p => by
    constructor
    · intro h; cases h
    · rintro ⟨h1, h2⟩; have := h1.a; have := h1.b; omega⟩
  have hr : rawE m = d := by unfold rawE; rw [h1, elim_next]
  rw [hr]
  refine ⟨h2.o, fun p => ?_⟩
  rw [h2.e p]
  constructor
  · exact fun h => h.1
  · intro h; have := h.b; have := h.c; exact ⟨h, by omega⟩
/-- Rows of pairs by distance that end ahead of (z, x, y). -/
structure Ei (m : List (List Int)) (d : List (Int × Int)) (z x y : Nat) : Prop where
  o : d.Pairwise (Rs m)
  e : ∀ p, p ∈ d ↔ Vp m.length p ∧ 1 ≤ Dg m p ∧ (Dg m p < z ∨ Dg m p = z ∧ (p.1 < x ∨ p.1 = x ∧ p.2 < y))
theorem Ei.conv {m : List (List Int)} {d : List (Int × Int)} {z x y z' x' y' : Nat} (h : Ei m d z x y) (hc : ∀ p : Int × Int, Vp m.length p → ((Dg m p < z ∨ Dg m p = z ∧ (p.1 < x ∨ p.1 = x ∧ p.2 < y)) ↔ (Dg m p < z' ∨ Dg m p = z' ∧ (p.1 < x' ∨ p.1 = x' ∧ p.2 < y')))) : Ei m d z' x' y' := by
  refine ⟨h.o, fun p => ?_⟩
  rw [h.e p]
  constructor
  · rintro ⟨h1, h2, h3⟩; exact ⟨h1, h2, (hc p h1).1 h3⟩
  · rintro ⟨h1, h2, h3⟩; exact ⟨h1, h2, (hc p h1).2 h3⟩
theorem Ei.step {m : List (List Int)} {d : List (Int × Int)} {z x y : Nat} (h : Ei m d z x y) (hz : 1 ≤ z) (hx : x < y) (hy : y < m.length) (hd : (m.getD x []).getD y 0 = (z : Int)) : Ei m (d ++ [((x : Int), (y : Int))]) z x (y + 1) := by
  have hD : Dg m ((x : Int), (y : Int)) = z := by unfold Dg; simpa using hd
  refine ⟨pw_app h.o (fun p hp => ?_), fun p => ?_⟩
  · have := ((h.e p).1 hp).2.2
    unfold Rs Lex
    rw [hD]
    dsimp only
    omega
  · rw [List.mem_append, List.mem_singleton, h.e p]
    constructor
    · rintro (⟨h1, h0, h2⟩ | h1)
      · exact ⟨h1, h0, by omega⟩
      · subst h1; exact ⟨⟨by dsimp only; omega, by dsimp only; omega, by dsimp only; omega⟩, by omega, by dsimp only; omega⟩
    · rintro ⟨h1, h0, h2⟩
      by_cases e : p.1 = x ∧ p.2 = y
      · exact Or.inr (Prod.ext e.1 e.2)
      · exact Or.inl ⟨h1, h0, by omega⟩
theorem Ei.skip {m : List (List Int)} {d : List (Int × Int)} {z x y : Nat} (h : Ei m d z x y) (hd : ¬ (m.getD x []).getD y 0 = (z : Int)) : Ei m d z x (y + 1) := h.conv (fun p hp => by
  constructor
  · intro h; omega
  · rintro (h | ⟨h5, h6⟩)
    · exact Or.inl h
    · by_cases e : p.1 = x ∧ p.2 = y
      · refine absurd ?_ hd
        unfold Dg at h5
        rw [e.1, e.2] at h5
        simpa using h5
      · exact Or.inr ⟨h5, by omega⟩)
theorem ee_L3 (m : List (List Int)) (z x : Nat) (hz : 1 ≤ z) : ∀ (fuel y : Nat) (d : List (Int × Int)), m.length - y < fuel → x < y → y ≤ m.length → Ei m d z x y → ∃ y' d', F_spec_l6Edges_L3 m z x fuel (d, y) = .next (d', y') ∧ Ei m d' z (x + 1) 0 := by
  intro fuel
  induction fuel with
  | zero => intro y d h; omega
  | succ f ih =>
    intro y d h hx hy hr
    rw [F_spec_l6Edges_L3_s]
    by_cases hl : y < m.length
    · rw [bif_pos (decide_eq_true (by omega))]
      by_cases hd : (m.getD x []).getD y 0 = (z : Int)
      · rw [bif_pos (decide_eq_true hd)]
        exact ih (y + 1) _ (by omega) (by omega) (by omega) (hr.step hz hx hl hd)
      · rw [bif_neg (decide_eq_false hd)]
        exact ih (y + 1) _ (by omega) (by omega) (by omega) (hr.skip hd)
    · rw [bif_neg (decide_eq_false (by omega))]
      refine ⟨y, d, rfl, hr.conv (fun p hp => ?_)⟩
      have := hp.c
      have := hp.a
      have := hp.b
      omega
theorem ee_L2 (m : List (List Int)) (z : Nat) (hz : 1 ≤ z) : ∀ (fuel x : Nat) (d : List (Int × Int)), m.length - x < fuel → x ≤ m.length → Ei m d z x 0 → ∃ x' d', F_spec_l6Edges_L2 m z fuel (d, x) = .next (d', x') ∧ Ei m d' (z + 1) 0 0 := by
  intro fuel
  induction fuel with
  | zero => intro x d h; omega
  | succ f ih =>
    intro x d h hx hr
    rw [F_spec_l6Edges_L2_s]
    by_cases hl : x < m.length
    · rw [bif_pos (decide_eq_true (by omega))]
      obtain ⟨y', d1, h1, h2⟩ := ee_L3 m z x hz (m.length - (x + 1) + 1) (x + 1) d (by omega) (by omega) (by omega) (hr.conv (fun p hp => by
        have := hp.a; have := hp.b; omega))
      rw [h1, elim_next]
      exact ih (x + 1) d1 (by omega) (by omega) h2
    · rw [bif_neg (decide_eq_false (by omega))]
      refine ⟨x, d, rfl, hr.conv (fun p hp => ?_)⟩
      have := hp.a
      have := hp.b
      have := hp.c
      omega
theorem ee_L1 (m : List (List Int)) : ∀ (fuel z : Nat) (d : List (Int × Int)), 100 - z < fuel → 1 ≤ z → z ≤ 100 → Ei m d z 0 0 → ∃ z' d', F_spec_l6Edges_L1 m fuel (d, z) = .next (d', z') ∧ Ei m d' 100 0 0 := by
  intro fuel
  induction fuel with
  | zero => intro z d h; omega
  | succ f ih =>
    intro z d h hz hz2 hr
    rw [F_spec_l6Edges_L1_s]
    by_cases hl : (z : Int) ≤ 99
    · rw [bif_pos (decide_eq_true hl)]
      obtain ⟨x', d1, h1, h2⟩ := ee_L2 m z hz (m.length - 0 + 1) 0 d (by omega) (by omega) hr
      rw [h1, elim_next]
      exact ih (z + 1) d1 (by omega) (by omega) (by omega) h2
    · rw [bif_neg (decide_eq_false hl)]
      have : z = 100 := by omega
      subst this
      exact ⟨_, d, rfl, hr⟩
theorem edges_i {m : List (List Int)} (h : TabP false m) : (F_spec_l6Edges m).Pairwise (Rs m) ∧ ∀ p, p ∈ F_spec_l6Edges m ↔ Vp m.length p := by
  obtain ⟨z', d, h1, h2⟩ := ee_L1 m (100 - 1 + 1) 1 [] (by omega) (by omega) (by omega) ⟨by simp, fun p => by
    constructor
    · intro h; cases h
    · rintro ⟨h1, h0, h2⟩; have := h1.a; have := h1.b; omega⟩
  have hr : F_spec_l6Edges m = d := by unfold F_spec_l6Edges; rw [h1, elim_next]
  rw [hr]
  refine ⟨h2.o, fun p => ?_⟩
  rw [h2.e p]
  constructor
  · exact fun h => h.1
  · intro hp
    have ha := hp.a
    have hb := hp.b
    have hc := hp.c
    have hk := h.ok p.1.toNat p.2.toNat (by omega) (by omega)
    rcases hk.2.2 (by omega) with hk2 | hk2
    · exact ⟨hp, hk2.1, Or.inl (by have := hk2.2; unfold Dg; unfold el at this; omega)⟩
    · cases hk2.1
/-- Insertion from the right. -/
theorem in_L2 (m : List (List Int)) (x : Int × Int) (Q : List (Int × Int)) : ∀ (fuel : Nat) (P : List (Int × Int)), P.length < fuel → ∀ Q : List (Int × Int),
    ∃ j' A B, F_slices_insertionSortCmpFunc_2_int_L2 0 (fun a b => F_impl_Metric_spanningTree_1 a b m) fuel ((P.length : Int), P ++ x :: Q) = .next (j', A ++ x :: (B ++ Q)) ∧ P = A ++ B ∧ (∀ b ∈ B, Dg m x < Dg m b) ∧ (∀ a, A.getLast? = some a → Dg m a ≤ Dg m x) := by
  intro fuel
  induction fuel with
  | zero => intro P h; omega
  | succ f ih =>
    intro P h Q
    rw [F_slices_insertionSortCmpFunc_2_int_L2_s]
    rcases List.eq_nil_or_concat P with e | ⟨P', y, e⟩
    · subst e
      rw [bif_neg (by simp)]
      exact ⟨_, [], [], rfl, rfl, (fun b hb => by cases hb), (fun a ha => by cases ha)⟩
    · rw [List.concat_eq_append] at e
      subst e
      have g1 : (((P' ++ [y]).length : Int)).toNat = P'.length + 1 := by simp
      have g2 : (((P' ++ [y]).length : Int) - 1).toNat = P'.length := by simp
      have g3 : (P' ++ [y] ++ x :: Q).getD (P'.length + 1) (0, 0) = x := by simp [List.getD_eq_getElem?_getD]
      have g4 : (P' ++ [y] ++ x :: Q).getD P'.length (0, 0) = y := by simp [List.getD_eq_getElem?_getD]
      rw [g1, g2, g3, g4]
      by_cases hc : Dg m x < Dg m y
      · rw [bif_pos (by
          refine gand (decide_eq_true (by rw [List.length_append, List.length_singleton]; omega)) (decide_eq_true ?_)
          unfold F_impl_Metric_spanningTree_1; unfold Dg at hc; omega)]
        have g5 : ((P' ++ [y] ++ x :: Q).set (P'.length + 1) y).set P'.length x = P' ++ x :: ([y] ++ Q) := by
          rw [List.append_assoc, List.set_append_right _ _ (by omega)]
          rw [List.set_append_right _ _ (by omega)]
          simp
        rw [show ((P' ++ [y]).length : Int) - 1 = (P'.length : Int) by simp]
        rw [g5]
        obtain ⟨j', A, B, h1, h2, h3, h4⟩ := ih P' (by simp at h; omega) ([y] ++ Q)
        refine ⟨j', A, B ++ [y], ?_, ?_, ?_, h4⟩
        · rw [h1]; simp
        · rw [h2]; simp
        · intro b hb
          rcases List.mem_append.1 hb with hb | hb
          · exact h3 b hb
          · rw [List.mem_singleton.1 hb]; exact hc
      · rw [bif_neg (by
          have : ¬ (F_impl_Metric_spanningTree_1 x y m < 0) := by
            unfold F_impl_Metric_spanningTree_1; unfold Dg at hc; omega
          rw [decide_eq_false this, Bool.and_false])]
        exact ⟨((P' ++ [y]).length : Int), P' ++ [y], [], by rw [List.nil_append], by rw [List.append_nil], fun b hb => (by cases hb), fun a ha => (by
          rw [List.getLast?_concat] at ha
          cases ha
          omega)⟩
theorem last_le {m : List (List Int)} {A : List (Int × Int)} {x : Int × Int} (h : A.Pairwise (Rs m)) (hl : ∀ a, A.getLast? = some a → Dg m a ≤ Dg m x) : ∀ a ∈ A, Dg m a ≤ Dg m x := by
  rcases List.eq_nil_or_concat A with e | ⟨A', y, e⟩
  · subst e; intro a ha; cases ha
  · rw [List.concat_eq_append] at e
    subst e
    have hy := hl y (by rw [List.getLast?_concat])
    rw [List.pairwise_append] at h
    intro a ha
    rcases List.mem_append.1 ha with ha | ha
    · have := h.2.2 a ha y (by simp)
      unfold Rs at this
      omega
    · rw [List.mem_singleton.1 ha]; exact hy
theorem in_L1 (m : List (List Int)) : ∀ (S P : List (Int × Int)) (fuel : Nat), S.length < fuel → P.Pairwise (Rs m) → S.Pairwise Lex → (∀ p ∈ P, ∀ s ∈ S, Lex p s) →
    ∃ i' d', F_slices_insertionSortCmpFunc_2_int_L1 0 ((P ++ S).length : Int) (fun a b => F_impl_Metric_spanningTree_1 a b m) fuel ((P.length : Int), P ++ S) = .next (i', d') ∧ d'.Pairwise (Rs m) ∧ ∀ p, p ∈ d' ↔ p ∈ P ++ S
  | [], P, 0, h, _, _, _ => by simp at h
  | [], P, f + 1, _, hP, _, _ => by
    rw [F_slices_insertionSortCmpFunc_2_int_L1_s, bif_neg (by simp)]
    exact ⟨_, P ++ [], rfl, by simpa using hP, fun p => Iff.rfl⟩
  | x :: S, P, 0, h, _, _, _ => by simp at h
  | x :: S, P, f + 1, hf, hP, hS, hPS => by
    rw [F_slices_insertionSortCmpFunc_2_int_L1_s, bif_pos (decide_eq_true (by simp; omega))]
    obtain ⟨j', A, B, h1, h2, h3, h4⟩ := in_L2 m x S (((P.length : Int) - 0).toNat + 1) P (by omega) S
    rw [h1, elim_next]
    dsimp only
    subst h2
    rw [List.pairwise_append] at hP
    rw [List.pairwise_cons] at hS
    have hA := last_le hP.1 h4
    have hP2 : (A ++ x :: B).Pairwise (Rs m) := by
      rw [List.pairwise_append, List.pairwise_cons]
      refine ⟨hP.1, ⟨fun b hb => Or.inl (h3 b hb), hP.2.1⟩, fun a ha b hb => ?_⟩
      rcases List.mem_cons.1 hb with e | e
      · subst e
        have q1 := hA a ha
        have q2 := hPS a (by simp [ha]) b (by simp)
        unfold Rs
        by_cases e : Dg m a = Dg m b
        · exact Or.inr ⟨e, q2⟩
        · exact Or.inl (by omega)
      · exact hP.2.2 a ha b e
    obtain ⟨i', d', q1, q2, q3⟩ := in_L1 m S (A ++ x :: B) f (by simp at hf; omega) hP2 hS.2 (fun p hp s hs => by
      rcases List.mem_append.1 hp with e | e
      · exact hPS p (by simp [e]) s (by simp [hs])
      · rcases List.mem_cons.1 e with e | e
        · subst e; exact hS.1 s hs
        · exact hPS p (by simp [e]) s (by simp [hs]))
    refine ⟨i', d', ?_, q2, fun p => ?_⟩
    · rw [← q1]
      have e1 : A ++ x :: (B ++ S) = A ++ x :: B ++ S := by simp
      have e2 : (A ++ B ++ x :: S).length = (A ++ x :: B ++ S).length := by simp; omega
      have e3 : ((A ++ B).length : Int) + 1 = ((A ++ x :: B).length : Int) := by simp; omega
      rw [e1, e2, e3]
    · rw [q3 p]
      simp only [List.mem_append, List.mem_cons]
      constructor
      · rintro ((h | h | h) | h) <;> simp [h]
      · rintro ((h | h) | h | h) <;> simp [h]
theorem srt_good {m : List (List Int)} (h : TabP false m) : SrtE m := by
  unfold SrtE F_slices_SortStableFunc_S_2_int_2_int
  rw [stable_eq]
  unfold F_slices_insertionSortCmpFunc_2_int
  obtain ⟨r1, r2⟩ := rawE_i m
  obtain ⟨e1, e2⟩ := edges_i h
  rcases hE : rawE m with _ | ⟨x, S⟩
  · rw [hE] at r2
    have : F_spec_l6Edges m = [] := by
      rcases hF : F_spec_l6Edges m with _ | ⟨a, u⟩
      · rfl
      · have h3 := (e2 a).1 (by rw [hF]; simp)
        have := (r2 a).2 h3
        cases this
    rw [this]
    rfl
  · rw [hE, List.pairwise_cons] at r1
    obtain ⟨i', d', q1, q2, q3⟩ := in_L1 m S [x] ((((x :: S).length : Int) - (0 + 1)).toNat + 1) (by simp) (by simp) r1.2 (fun p hp s hs => by
      rw [List.mem_singleton.1 hp]; exact r1.1 s hs)
    have e5 : F_slices_insertionSortCmpFunc_2_int_L1 0 ((x :: S).length : Int) (fun a b => F_impl_Metric_spanningTree_1 a b m) ((((x :: S).length : Int) - (0 + 1)).toNat + 1) (0 + 1, x :: S) = .next (i', d') := q1
    rw [e5, elim_next]
    refine uniq _ _ q2 e1 (fun p => ?_)
    rw [q3 p, e2 p, ← r2 p, hE]
    rfl
theorem st_len1 (m : List (List Int)) : (F_impl_SpanningTree m).1.length ≤ 1000 := by
  unfold F_impl_SpanningTree
  cases hg : F_impl_IsMetric m
  · simp
  · obtain ⟨k', h3⟩ := sm_L1 m ((F_impl_Metric_spanningTree m).length - 0 + 1) 0 0 (by omega) (by omega) rfl
    rw [Bool.not_true, cond_false, h3, elim_next]
    exact (st_bd (isMetric_t hg)).1
theorem mA_len (a : List (Int × Int)) (k : Int) : (F_laws_markIntA2S a k).2.length = a.length := (mA_eq a k).2.1
theorem tree_both (m : List (List Int)) : F_impl_SpanningTree m = F_spec_SpanningTree m := st_both m (fun h => srt_good ((l6Good_iff m).1 h).1)
end Go.Proofs.Ytcmhgkcifejgcaa
namespace Go.Proofs.Ytcmhgkcifejgcaa
set_option linter.unusedVariables false
set_option linter.unusedSimpArgs false
open Go Go.RowKit
set_option linter.unusedVariables false

def F_laws_FnExactSpanningTree (m : List (List Int)) : Bool := (bif decide ((F_laws_szMetric m 1048576) < 0) then true else (bif (((!(F_laws_eqIntA2S ((F_impl_SpanningTree (F_laws_toMetric m)).1) ((F_spec_SpanningTree (F_laws_toMetric m)).1))) || (!decide ((F_impl_SpanningTree (F_laws_toMetric m)).2.1 = (F_spec_SpanningTree (F_laws_toMetric m)).2.1))) || (((F_impl_SpanningTree (F_laws_toMetric m)).2.2) != ((F_spec_SpanningTree (F_laws_toMetric m)).2.2))) then false else (bif !(F_laws_eqMetric (F_laws_toMetric m) (F_laws_toMetric m)) then false else (bif ((((decide ((F_laws_markMetric (F_laws_toMetric m) 1).1 < 0)) || (!(F_laws_eqIntA2S ((F_impl_SpanningTree (F_laws_toMetric m)).1) ((F_spec_SpanningTree (F_laws_toMetric m)).1)))) || (!decide ((F_impl_SpanningTree (F_laws_toMetric m)).2.1 = (F_spec_SpanningTree (F_laws_toMetric m)).2.1))) || (((F_impl_SpanningTree (F_laws_toMetric m)).2.2) != ((F_spec_SpanningTree (F_laws_toMetric m)).2.2))) then false else (bif decide ((F_laws_heldIntA2S ((F_laws_markIntA2S ((F_impl_SpanningTree (F_laws_toMetric m)).1) 1).2) 1) < 0) then false else (bif !decide ((F_laws_heldIntA2S ((F_laws_markIntA2S ((F_impl_SpanningTree (F_laws_toMetric m)).1) 1).2) 1) = (F_laws_markIntA2S ((F_impl_SpanningTree (F_laws_toMetric m)).1) 1).1) then false else true))))))


end Go.Proofs.Ytcmhgkcifejgcaa
namespace Go.Proofs.Ytcmhgkcifejgcaa
set_option linter.unusedVariables false
set_option linter.unusedSimpArgs false
open Go Go.RowKit
set_option linter.unusedVariables false

set_option maxRecDepth 4000 in
set_option maxHeartbeats 1000000 in
theorem laws_eqIntS_ok (w : World) (va : Value) (a : List Int) (ha : RI w va a) (vb : Value) (b : List Int) (hb : RI w vb b)  :
    Calls Try.prog 53 ([va, vb] : List Value).toArray w (Ret (.bool (F_laws_eqIntS a b)) (Hp w [])) := by
  obtain ⟨rz, hF⟩ : ∃ rz, (F_laws_eqIntS a b) = rz := ⟨_, rfl⟩
  rw [hF]
  unfold F_laws_eqIntS at hF
  have hlen_a := arg_len ha
  have hlen_b := arg_len hb
  refine calls_tc Try.func53 rfl rfl rfl ?_
  change TC _ _ _ _ (Hp w []) [(0, va), (1, vb)]
  refine TC.seq ?_
  refine TC.region ?_
  refine TL.op (yq (y_assign ev_c)) rfl rfl rfl ?_
  refine TL.nil ?_
  refine TN.seq ?_
  refine TC.seq ?_
  refine TC.seq ?_
  refine TC.region ?_
  refine TL.op (yq (y_move (ev_t rfl))) rfl rfl rfl ?_
  refine TL.op (yq (y_len (ev_t rfl) Try.underlying34 (fun w hw => ((ri_arg ha) w hw).ln))) rfl rfl rfl ?_
  refine TL.op (yq (y_move (ev_t rfl))) rfl rfl rfl ?_
  refine TL.op (yq (y_len (ev_t rfl) Try.underlying34 (fun w hw => ((ri_arg hb) w hw).ln))) rfl rfl rfl ?_
  refine TL.op (yq (y_neq (ev_t rfl) (ev_t rfl))) rfl rfl rfl ?_
  refine TL.nil ?_
  refine TN.seq ?_
  refine TC.cond (b := !decide ((a.length : Int) = (b.length : Int))) (ev_t rfl) (fun h15 => ?_) (fun h15 => ?_)
  · rw [bif_pos h15] at hF
    have q16 := (of_decide_eq_false (not_t h15))
    refine TC.seq ?_
    refine TC.region ?_
    refine TL.op (yq (y_assign ev_c)) rfl rfl rfl ?_
    refine TL.nil ?_
    refine TN.seq ?_
    refine TC.ret ?_
    refine TN.thenR ?_
    subst hF
    exact TN.ret1 rfl (ev_t rfl) (fun w' hw => ⟨rfl, hw⟩)
  · rw [bif_neg h15] at hF
    have q16 := (of_decide_eq_true (not_f h15))
    refine TC.skip ?_
    refine TN.seq ?_
    refine TC.seq ?_
    refine TC.seq ?_
    refine TC.region ?_
    refine TL.op (yq (y_assign ev_c)) rfl rfl rfl ?_
    refine TL.nil ?_
    refine TN.seq ?_
    refine TC.block ?_
    obtain ⟨c17, hc18⟩ : ∃ c, F_laws_eqIntS_L1 a b ((a.length - 0) + 1) 0 = c := ⟨_, rfl⟩
    rw [hc18] at hF
    refine TC.loop (ι := Nat × Nat) (fun (fu1, i1) => [(0, va), (1, vb), (5, (.int .i64 (i1 : Int)))]) (fun (fu1, i1) => Hp w []) (fun (fu1, i1) => (i1 ≤ a.length) ∧ a.length - i1 < fu1 ∧ F_laws_eqIntS_L1 a b fu1 i1 = c17) (fun (fu1, i1) => fu1) ((a.length - 0) + 1, 0) ⟨(by first | omega | (simp [-List.getD_eq_getElem?_getD] <;> omega)), (by omega), hc18⟩ ⟨rfl, rfl, rfl, trivial⟩ (fun w hw => hw) ?_
    rintro ⟨fu1, i1⟩ hJ1
    obtain ⟨hi1_0, hmu1, hL1⟩ : (i1 ≤ a.length) ∧ a.length - i1 < fu1 ∧ F_laws_eqIntS_L1 a b fu1 i1 = c17 := hJ1
    change TC _ _ _ _ (Hp w []) [(0, va), (1, vb), (5, (.int .i64 (i1 : Int)))]
    obtain ⟨mf1, rfl⟩ : ∃ m, fu1 = m + 1 := ⟨fu1 - 1, by omega⟩
    rw [F_laws_eqIntS_L1_s] at hL1
    refine TC.seq ?_
    refine TC.seq ?_
    refine TC.region ?_
    refine TL.op (yq (y_move (ev_t rfl))) rfl rfl rfl ?_
    refine TL.op (yq (y_move (ev_t rfl))) rfl rfl rfl ?_
    refine TL.op (yq (y_len (ev_t rfl) Try.underlying34 (fun w hw => ((ri_arg ha) w hw).ln))) rfl rfl rfl ?_
    refine TL.op (yq (y_lss (ev_t rfl) (ev_t rfl))) rfl rfl rfl ?_
    refine TL.nil ?_
    refine TN.seq ?_
    refine TC.cond (b := decide ((i1 : Int) < (a.length : Int))) (ev_t rfl) (fun h19 => ?_) (fun h19 => ?_)
    · rw [bif_pos h19] at hL1
      have q20 := (of_decide_eq_true h19)
      refine TC.skip ?_
      refine TN.seq ?_
      refine TC.seq ?_
      refine TC.block ?_
      refine TC.seq ?_
      refine TC.regionQ (by kernel_rfl) (by kernel_rfl) dr_hp ?_
      refine TQ.op (yq (y_move (ev_t rfl))) rfl rfl rfl ?_
      refine TQ.op (yq (y_move (ev_t rfl))) rfl rfl rfl ?_
      have hb21 : i1 < a.length := (by first | omega | (simp only [List.length_set, List.length_append, List.length_cons, List.length_nil, List.length_replicate]; omega) | (rw [sortI_length]; simp only [List.length_cons, List.length_nil]; omega))
      refine TQ.op (yq (y_idx (k := i1) (ev_t rfl) (ev_t rfl) (by first | omega | simp) slT_34 (ri_arg ha) hb21)) rfl rfl rfl ?_
      refine TQ.op (yq (y_ldi (ev_t rfl) one_3 (ri_arg ha) hb21)) rfl rfl rfl ?_
      refine TQ.op (yq (y_move (ev_t rfl))) rfl rfl rfl ?_
      refine TQ.op (yq (y_move (ev_t rfl))) rfl rfl rfl ?_
      have hb22 : i1 < b.length := (by first | omega | (simp only [List.length_set, List.length_append, List.length_cons, List.length_nil, List.length_replicate]; omega) | (rw [sortI_length]; simp only [List.length_cons, List.length_nil]; omega))
      refine TQ.op (yq (y_idx (k := i1) (ev_t rfl) (ev_t rfl) (by first | omega | simp) slT_34 (ri_arg hb) hb22)) rfl rfl rfl ?_
      refine TQ.op (yq (y_ldi (ev_t rfl) one_3 (ri_arg hb) hb22)) rfl rfl rfl ?_
      refine TQ.op (yq (y_neq (ev_t rfl) (ev_t rfl))) rfl rfl rfl ?_
      refine TQ.nil ?_
      refine TN.seq ?_
      refine TC.cond (b := !decide ((a.getD i1 0) = (b.getD i1 0))) (ev_t rfl) (fun h23 => ?_) (fun h23 => ?_)
      · rw [bif_pos h23] at hL1
        have q24 := (of_decide_eq_false (not_t h23))
        refine TC.seq ?_
        refine TC.region ?_
        refine TL.op (yq (y_assign ev_c)) rfl rfl rfl ?_
        refine TL.nil ?_
        refine TN.seq ?_
        refine TC.ret ?_
        refine TN.blockR ?_
        refine TN.thenR ?_
        refine TN.thenR ?_
        rw [← hL1, elim_ret] at hF
        refine TN.blockR ?_
        refine TN.thenR ?_
        subst hF
        exact TN.ret1 rfl (ev_t rfl) (fun w' hw => ⟨rfl, hw⟩)
      · rw [bif_neg h23] at hL1
        have q24 := (of_decide_eq_true (not_f h23))
        refine TC.skip ?_
        refine TN.blockN ?_
        refine TN.seq ?_
        refine TC.region ?_
        refine TL.op (yq (y_move (ev_t rfl))) rfl rfl rfl ?_
        refine TL.op (yq (y_add (ev_t rfl) ev_c (by unfold In64; constructor <;> omega))) rfl rfl rfl ?_
        refine TL.op (yq (y_assign (ev_t rfl))) rfl rfl rfl ?_
        refine TL.nil ?_
        exact TN.hand (mf1, (i1 + 1)) ⟨(by first | omega | (simp [-List.getD_eq_getElem?_getD] <;> omega)), (by omega), hL1⟩ (Nat.lt_succ_self _) ⟨rfl, rfl, rfl, trivial⟩ (fun w hw => hw)
    · rw [bif_neg h19] at hL1
      have q20 := (of_decide_eq_false h19)
      refine TC.exit ?_
      refine TN.thenE ?_
      refine TN.thenE ?_
      rw [← hL1, elim_next] at hF
      try dsimp only at hF
      refine TN.blockH ?_
      refine TN.seq ?_
      refine TC.seq ?_
      refine TC.region ?_
      refine TL.op (yq (y_assign ev_c)) rfl rfl rfl ?_
      refine TL.nil ?_
      refine TN.seq ?_
      refine TC.ret ?_
      subst hF
      exact TN.ret1 rfl (ev_t rfl) (fun w' hw => ⟨rfl, hw⟩)

set_option maxRecDepth 4000 in
set_option maxHeartbeats 1000000 in
theorem laws_toIntS_ok (w : World) (va : Value) (a : List Int) (ha : RI w va a) (hp0 : a.length ≤ 1048576) :
    Calls Try.prog 51 ([va] : List Value).toArray w (fun e w' => ∃ i : Value, e = .returned i ∧ Hp w [rowI 3 i (F_laws_toIntS a)] w') := by
  obtain ⟨rz, hF⟩ : ∃ rz, (F_laws_toIntS a) = rz := ⟨_, rfl⟩
  rw [hF]
  unfold F_laws_toIntS at hF
  have hlen_a := arg_len ha
  refine calls_tc Try.func51 rfl rfl rfl ?_
  change TC _ _ _ _ (Hp w []) [(0, va)]
  refine TC.seq ?_
  refine TC.region ?_
  refine TL.op (yq (y_assign ev_c)) rfl rfl rfl ?_
  refine TL.nil ?_
  refine TN.seq ?_
  refine TC.seq ?_
  refine TC.region ?_
  refine TL.op (yq (y_move (ev_t rfl))) rfl rfl rfl ?_
  refine TL.op (yq (y_len (ev_t rfl) Try.underlying34 (fun w hw => ((ri_arg ha) w hw).ln))) rfl rfl rfl ?_
  refine TL.makeSlice (n := a.length) (ev_t rfl) (ev_t rfl) (by omega) slT_34 rfl (by omega) (by unfold maxLen; omega) rfl (fun v1_2 => ?_)
  refine TL.cls (fun w hw => hw.zeros) ?_
  refine TL.op (yq (y_assign (ev_t rfl))) rfl rfl rfl ?_
  refine TL.nil ?_
  refine TN.seq ?_
  refine TC.seq ?_
  refine TC.seq ?_
  refine TC.region ?_
  refine TL.op (yq (y_assign ev_c)) rfl rfl rfl ?_
  refine TL.nil ?_
  refine TN.seq ?_
  refine TC.block ?_
  obtain ⟨c13, hc14⟩ : ∃ c, F_laws_toIntS_L1 a ((a.length - 0) + 1) (0, (List.replicate a.length (0 : Int))) = c := ⟨_, rfl⟩
  rw [hc14] at hF
  refine TC.loop (ι := Nat × Nat × List Int) (fun (fu1, i1, out1) => [(0, va), (3, v1_2), (4, (.int .i64 (i1 : Int)))]) (fun (fu1, i1, out1) => Hp w [rowI 3 v1_2 out1]) (fun (fu1, i1, out1) => (i1 ≤ a.length) ∧ (out1.length = a.length) ∧ a.length - i1 < fu1 ∧ F_laws_toIntS_L1 a fu1 (i1, out1) = c13) (fun (fu1, i1, out1) => fu1) ((a.length - 0) + 1, 0, (List.replicate a.length (0 : Int))) ⟨(by first | omega | (simp [-List.getD_eq_getElem?_getD] <;> omega)), (by first | omega | (simp [-List.getD_eq_getElem?_getD] <;> omega)), (by omega), hc14⟩ ⟨rfl, rfl, rfl, trivial⟩ (fun w hw => hw) ?_
  rintro ⟨fu1, i1, out1⟩ hJ1
  obtain ⟨hi1_0, hi1_1, hmu1, hL1⟩ : (i1 ≤ a.length) ∧ (out1.length = a.length) ∧ a.length - i1 < fu1 ∧ F_laws_toIntS_L1 a fu1 (i1, out1) = c13 := hJ1
  change TC _ _ _ _ (Hp w [rowI 3 v1_2 out1]) [(0, va), (3, v1_2), (4, (.int .i64 (i1 : Int)))]
  obtain ⟨mf1, rfl⟩ : ∃ m, fu1 = m + 1 := ⟨fu1 - 1, by omega⟩
  rw [F_laws_toIntS_L1_s] at hL1
  refine TC.seq ?_
  refine TC.seq ?_
  refine TC.region ?_
  refine TL.op (yq (y_move (ev_t rfl))) rfl rfl rfl ?_
  refine TL.op (yq (y_move (ev_t rfl))) rfl rfl rfl ?_
  refine TL.op (yq (y_len (ev_t rfl) Try.underlying34 (fun w hw => ((ri_arg ha) w hw).ln))) rfl rfl rfl ?_
  refine TL.op (yq (y_lss (ev_t rfl) (ev_t rfl))) rfl rfl rfl ?_
  refine TL.nil ?_
  refine TN.seq ?_
  refine TC.cond (b := decide ((i1 : Int) < (a.length : Int))) (ev_t rfl) (fun h15 => ?_) (fun h15 => ?_)
  · rw [bif_pos h15] at hL1
    have q16 := (of_decide_eq_true h15)
    refine TC.skip ?_
    refine TN.seq ?_
    refine TC.seq ?_
    refine TC.block ?_
    refine TC.region ?_
    refine TL.op (yq (y_move (ev_t rfl))) rfl rfl rfl ?_
    refine TL.op (yq (y_move (ev_t rfl))) rfl rfl rfl ?_
    refine TL.op (yq (y_move (ev_t rfl))) rfl rfl rfl ?_
    refine TL.op (yq (y_move (ev_t rfl))) rfl rfl rfl ?_
    have hb17 : i1 < a.length := (by first | omega | (simp only [List.length_set, List.length_append, List.length_cons, List.length_nil, List.length_replicate]; omega) | (rw [sortI_length]; simp only [List.length_cons, List.length_nil]; omega))
    refine TL.op (yq (y_idx (k := i1) (ev_t rfl) (ev_t rfl) (by first | omega | simp) slT_34 (ri_arg ha) hb17)) rfl rfl rfl ?_
    refine TL.op (yq (y_ldi (ev_t rfl) one_3 (ri_arg ha) hb17)) rfl rfl rfl ?_
    have hb18 : i1 < out1.length := (by first | omega | (simp only [List.length_set, List.length_append, List.length_cons, List.length_nil, List.length_replicate]; omega) | (rw [sortI_length]; simp only [List.length_cons, List.length_nil]; omega))
    refine TL.op (yq (y_idx (k := i1) (ev_t rfl) (ev_t rfl) (by first | omega | simp) slT_34 (ri_row 0 rfl) hb18)) rfl rfl rfl ?_
    refine TL.storeI 0 (ev_t rfl) (ev_t rfl) one_3 rfl hb18 ?_
    refine TL.nil ?_
    refine TN.blockN ?_
    refine TN.seq ?_
    refine TC.region ?_
    refine TL.op (yq (y_move (ev_t rfl))) rfl rfl rfl ?_
    refine TL.op (yq (y_add (ev_t rfl) ev_c (by unfold In64; constructor <;> omega))) rfl rfl rfl ?_
    refine TL.op (yq (y_assign (ev_t rfl))) rfl rfl rfl ?_
    refine TL.nil ?_
    exact TN.hand (mf1, (i1 + 1), (out1.set i1 (a.getD i1 0))) ⟨(by first | omega | (simp [-List.getD_eq_getElem?_getD] <;> omega)), (by first | omega | (simp [-List.getD_eq_getElem?_getD] <;> omega)), (by omega), hL1⟩ (Nat.lt_succ_self _) ⟨rfl, rfl, rfl, trivial⟩ (fun w hw => hw)
  · rw [bif_neg h15] at hL1
    have q16 := (of_decide_eq_false h15)
    refine TC.exit ?_
    refine TN.thenE ?_
    refine TN.thenE ?_
    rw [← hL1, elim_next] at hF
    try dsimp only at hF
    refine TN.blockH ?_
    refine TN.seq ?_
    refine TC.seq ?_
    refine TC.region ?_
    refine TL.op (yq (y_move (ev_t rfl))) rfl rfl rfl ?_
    refine TL.op (yq (y_assign (ev_t rfl))) rfl rfl rfl ?_
    refine TL.nil ?_
    refine TN.seq ?_
    refine TC.ret ?_
    subst hF
    exact TN.ret1 rfl (ev_t rfl) (fun w' hw => ⟨v1_2, rfl, hw⟩)

set_option maxRecDepth 4000 in
set_option maxHeartbeats 1000000 in
theorem laws_eqIntSS_ok (w : World) (va : Value) (ua : List Value) (a : List (List Int)) (ha : RII w va ua a) (vb : Value) (ub : List Value) (b : List (List Int)) (hb : RII w vb ub b)  :
    Calls Try.prog 47 ([va, vb] : List Value).toArray w (Ret (.bool (F_laws_eqIntSS a b)) (Hp w [])) := by
  obtain ⟨rz, hF⟩ : ∃ rz, (F_laws_eqIntSS a b) = rz := ⟨_, rfl⟩
  rw [hF]
  unfold F_laws_eqIntSS at hF
  have hlen_a := argT_len ha
  have hlen_b := argT_len hb
  refine calls_tc Try.func47 rfl rfl rfl ?_
  change TC _ _ _ _ (Hp w []) [(0, va), (1, vb)]
  refine TC.seq ?_
  refine TC.region ?_
  refine TL.op (yq (y_assign ev_c)) rfl rfl rfl ?_
  refine TL.nil ?_
  refine TN.seq ?_
  refine TC.seq ?_
  refine TC.seq ?_
  refine TC.region ?_
  refine TL.op (yq (y_move (ev_t rfl))) rfl rfl rfl ?_
  refine TL.op (yq (y_len (ev_t rfl) Try.underlying49 (fun w hw => ((fun w hw => ((rii_arg ha) w hw).1) w hw).ln))) rfl rfl rfl ?_
  refine TL.op (yq (y_move (ev_t rfl))) rfl rfl rfl ?_
  refine TL.op (yq (y_len (ev_t rfl) Try.underlying49 (fun w hw => ((fun w hw => ((rii_arg hb) w hw).1) w hw).ln))) rfl rfl rfl ?_
  refine TL.op (yq (y_neq (ev_t rfl) (ev_t rfl))) rfl rfl rfl ?_
  refine TL.nil ?_
  refine TN.seq ?_
  refine TC.cond (b := !decide ((a.length : Int) = (b.length : Int))) (ev_t rfl) (fun h19 => ?_) (fun h19 => ?_)
  · rw [bif_pos h19] at hF
    have q20 := (of_decide_eq_false (not_t h19))
    refine TC.seq ?_
    refine TC.region ?_
    refine TL.op (yq (y_assign ev_c)) rfl rfl rfl ?_
    refine TL.nil ?_
    refine TN.seq ?_
    refine TC.ret ?_
    refine TN.thenR ?_
    subst hF
    exact TN.ret1 rfl (ev_t rfl) (fun w' hw => ⟨rfl, hw⟩)
  · rw [bif_neg h19] at hF
    have q20 := (of_decide_eq_true (not_f h19))
    refine TC.skip ?_
    refine TN.seq ?_
    refine TC.seq ?_
    refine TC.seq ?_
    refine TC.region ?_
    refine TL.op (yq (y_assign ev_c)) rfl rfl rfl ?_
    refine TL.nil ?_
    refine TN.seq ?_
    refine TC.block ?_
    obtain ⟨c21, hc22⟩ : ∃ c, F_laws_eqIntSS_L1 a b ((a.length - 0) + 1) 0 = c := ⟨_, rfl⟩
    rw [hc22] at hF
    refine TC.loop (ι := Nat × Nat) (fun (fu1, i1) => [(0, va), (1, vb), (5, (.int .i64 (i1 : Int)))]) (fun (fu1, i1) => Hp w []) (fun (fu1, i1) => (i1 ≤ a.length) ∧ a.length - i1 < fu1 ∧ F_laws_eqIntSS_L1 a b fu1 i1 = c21) (fun (fu1, i1) => fu1) ((a.length - 0) + 1, 0) ⟨(by first | omega | (simp [-List.getD_eq_getElem?_getD] <;> omega)), (by omega), hc22⟩ ⟨rfl, rfl, rfl, trivial⟩ (fun w hw => hw) ?_
    rintro ⟨fu1, i1⟩ hJ1
    obtain ⟨hi1_0, hmu1, hL1⟩ : (i1 ≤ a.length) ∧ a.length - i1 < fu1 ∧ F_laws_eqIntSS_L1 a b fu1 i1 = c21 := hJ1
    change TC _ _ _ _ (Hp w []) [(0, va), (1, vb), (5, (.int .i64 (i1 : Int)))]
    obtain ⟨mf1, rfl⟩ : ∃ m, fu1 = m + 1 := ⟨fu1 - 1, by omega⟩
    rw [F_laws_eqIntSS_L1_s] at hL1
    refine TC.seq ?_
    refine TC.seq ?_
    refine TC.region ?_
    refine TL.op (yq (y_move (ev_t rfl))) rfl rfl rfl ?_
    refine TL.op (yq (y_move (ev_t rfl))) rfl rfl rfl ?_
    refine TL.op (yq (y_len (ev_t rfl) Try.underlying49 (fun w hw => ((fun w hw => ((rii_arg ha) w hw).1) w hw).ln))) rfl rfl rfl ?_
    refine TL.op (yq (y_lss (ev_t rfl) (ev_t rfl))) rfl rfl rfl ?_
    refine TL.nil ?_
    refine TN.seq ?_
    refine TC.cond (b := decide ((i1 : Int) < (a.length : Int))) (ev_t rfl) (fun h23 => ?_) (fun h23 => ?_)
    · rw [bif_pos h23] at hL1
      have q24 := (of_decide_eq_true h23)
      refine TC.skip ?_
      refine TN.seq ?_
      refine TC.seq ?_
      refine TC.block ?_
      refine TC.seq ?_
      refine TC.regionQ (by kernel_rfl) (by kernel_rfl) dr_hp ?_
      refine TQ.op (yq (y_move (ev_t rfl))) rfl rfl rfl ?_
      refine TQ.op (yq (y_move (ev_t rfl))) rfl rfl rfl ?_
      have hb25 : i1 < a.length := (by first | omega | (simp only [List.length_set, List.length_append, List.length_cons, List.length_nil, List.length_replicate]; omega) | (rw [sortI_length]; simp only [List.length_cons, List.length_nil]; omega))
      refine TQ.op (yq (y_idx (k := i1) (ev_t rfl) (ev_t rfl) (by first | omega | simp) slT_49 (fun w hw => ((rii_arg ha) w hw).1) hb25)) rfl rfl rfl ?_
      have ha26 := ha.row (i := i1) hb25
      refine TQ.op (yq (y_ldA (ev_t rfl) one_34 (rii_arg ha) hb25)) rfl rfl rfl ?_
      refine TQ.op (yq (y_move (ev_t rfl))) rfl rfl rfl ?_
      refine TQ.op (yq (y_move (ev_t rfl))) rfl rfl rfl ?_
      have hb27 : i1 < b.length := (by first | omega | (simp only [List.length_set, List.length_append, List.length_cons, List.length_nil, List.length_replicate]; omega) | (rw [sortI_length]; simp only [List.length_cons, List.length_nil]; omega))
      refine TQ.op (yq (y_idx (k := i1) (ev_t rfl) (ev_t rfl) (by first | omega | simp) slT_49 (fun w hw => ((rii_arg hb) w hw).1) hb27)) rfl rfl rfl ?_
      have ha28 := hb.row (i := i1) hb27
      refine TQ.op (yq (y_ldA (ev_t rfl) one_34 (rii_arg hb) hb27)) rfl rfl rfl ?_
      refine TQ.op (y_call (vs := [(ua.getD i1 undef), (ub.getD i1 undef)]) (v := (.bool (F_laws_eqIntS (a.getD i1 []) (b.getD i1 [])))) en_53 ⟨(ev_t rfl), (ev_t rfl), trivial⟩ (fun w hw => laws_eqIntS_ok w (ua.getD i1 undef) (a.getD i1 []) ((ri_arg ha26) w hw) (ub.getD i1 undef) (b.getD i1 []) ((ri_arg ha28) w hw))) rfl rfl rfl ?_
      refine TQ.op (yq (y_not (ev_t rfl))) rfl rfl rfl ?_
      refine TQ.nil ?_
      refine TN.seq ?_
      refine TC.cond (b := !(F_laws_eqIntS (a.getD i1 []) (b.getD i1 []))) (ev_t rfl) (fun h29 => ?_) (fun h29 => ?_)
      · rw [bif_pos h29] at hL1
        have q30 := (not_t h29)
        refine TC.seq ?_
        refine TC.region ?_
        refine TL.op (yq (y_assign ev_c)) rfl rfl rfl ?_
        refine TL.nil ?_
        refine TN.seq ?_
        refine TC.ret ?_
        refine TN.blockR ?_
        refine TN.thenR ?_
        refine TN.thenR ?_
        rw [← hL1, elim_ret] at hF
        refine TN.blockR ?_
        refine TN.thenR ?_
        subst hF
        exact TN.ret1 rfl (ev_t rfl) (fun w' hw => ⟨rfl, hw⟩)
      · rw [bif_neg h29] at hL1
        have q30 := (not_f h29)
        refine TC.skip ?_
        refine TN.blockN ?_
        refine TN.seq ?_
        refine TC.region ?_
        refine TL.op (yq (y_move (ev_t rfl))) rfl rfl rfl ?_
        refine TL.op (yq (y_add (ev_t rfl) ev_c (by unfold In64; constructor <;> omega))) rfl rfl rfl ?_
        refine TL.op (yq (y_assign (ev_t rfl))) rfl rfl rfl ?_
        refine TL.nil ?_
        exact TN.hand (mf1, (i1 + 1)) ⟨(by first | omega | (simp [-List.getD_eq_getElem?_getD] <;> omega)), (by omega), hL1⟩ (Nat.lt_succ_self _) ⟨rfl, rfl, rfl, trivial⟩ (fun w hw => hw)
    · rw [bif_neg h23] at hL1
      have q24 := (of_decide_eq_false h23)
      refine TC.exit ?_
      refine TN.thenE ?_
      refine TN.thenE ?_
      rw [← hL1, elim_next] at hF
      try dsimp only at hF
      refine TN.blockH ?_
      refine TN.seq ?_
      refine TC.seq ?_
      refine TC.region ?_
      refine TL.op (yq (y_assign ev_c)) rfl rfl rfl ?_
      refine TL.nil ?_
      refine TN.seq ?_
      refine TC.ret ?_
      subst hF
      exact TN.ret1 rfl (ev_t rfl) (fun w' hw => ⟨rfl, hw⟩)

set_option maxRecDepth 4000 in
set_option maxHeartbeats 1000000 in
theorem laws_markIntS_ok (w0 w : World) (fr : List Ck) (va : Value) (a : List Int) (hw : Hp w0 (rowI 3 va a :: fr) w) (k : Int) (hp0 : 0 ≤ k) (hp1 : k + a.length ≤ 4611686018427387904) :
    Calls Try.prog 56 ([va, (.int .i64 k)] : List Value).toArray w (fun e w' => ∃ _i : Unit, e = .returned (.int .i64 ((F_laws_markIntS a k).1)) ∧ Hp w0 (rowI 3 va ((F_laws_markIntS a k).2) :: fr) w') := by
  obtain ⟨rz, hF⟩ : ∃ rz, (F_laws_markIntS a k) = rz := ⟨_, rfl⟩
  rw [hF]
  unfold F_laws_markIntS at hF
  have hlen_a : a.length ≤ 9223372036854775807 := (hw.get 0 rfl).maxn
  refine calls_tcm Try.func56 rfl rfl rfl hw ?_
  change TC _ _ _ _ (Hp w0 ([rowI 3 va a] ++ fr)) [(0, va), (1, (.int .i64 k))]
  refine TC.seq ?_
  refine TC.region ?_
  refine TL.op (yq (y_assign ev_c)) rfl rfl rfl ?_
  refine TL.nil ?_
  refine TN.seq ?_
  refine TC.seq ?_
  refine TC.seq ?_
  refine TC.region ?_
  refine TL.op (yq (y_assign ev_c)) rfl rfl rfl ?_
  refine TL.nil ?_
  refine TN.seq ?_
  refine TC.block ?_
  obtain ⟨c10, hc11⟩ : ∃ c, F_laws_markIntS_L1  ((a.length - 0) + 1) (k, 0, a) = c := ⟨_, rfl⟩
  rw [hc11] at hF
  refine TC.loop (ι := Nat × Int × Nat × List Int) (fun (fu1, k1, i1, a1) => [(0, va), (1, (.int .i64 k1)), (5, (.int .i64 (i1 : Int)))]) (fun (fu1, k1, i1, a1) => Hp w0 ([rowI 3 va a1] ++ fr)) (fun (fu1, k1, i1, a1) => (a1.length = a.length) ∧ (i1 ≤ a.length) ∧ (k1 = k + i1) ∧ a.length - i1 < fu1 ∧ F_laws_markIntS_L1  fu1 (k1, i1, a1) = c10) (fun (fu1, k1, i1, a1) => fu1) ((a.length - 0) + 1, k, 0, a) ⟨(by first | omega | (simp [-List.getD_eq_getElem?_getD] <;> omega)), (by first | omega | (simp [-List.getD_eq_getElem?_getD] <;> omega)), (by first | omega | (simp [-List.getD_eq_getElem?_getD] <;> omega)), (by omega), hc11⟩ ⟨rfl, rfl, rfl, trivial⟩ (fun w hw => hw) ?_
  rintro ⟨fu1, k1, i1, a1⟩ hJ1
  obtain ⟨hi1_0, hi1_1, hi1_2, hmu1, hL1⟩ : (a1.length = a.length) ∧ (i1 ≤ a.length) ∧ (k1 = k + i1) ∧ a.length - i1 < fu1 ∧ F_laws_markIntS_L1  fu1 (k1, i1, a1) = c10 := hJ1
  change TC _ _ _ _ (Hp w0 ([rowI 3 va a1] ++ fr)) [(0, va), (1, (.int .i64 k1)), (5, (.int .i64 (i1 : Int)))]
  obtain ⟨mf1, rfl⟩ : ∃ m, fu1 = m + 1 := ⟨fu1 - 1, by omega⟩
  rw [F_laws_markIntS_L1_s] at hL1
  refine TC.seq ?_
  refine TC.seq ?_
  refine TC.region ?_
  refine TL.op (yq (y_move (ev_t rfl))) rfl rfl rfl ?_
  refine TL.op (yq (y_move (ev_t rfl))) rfl rfl rfl ?_
  refine TL.op (yq (y_len (ev_t rfl) Try.underlying34 (fun w hw => ((ri_row 0 rfl) w hw).ln))) rfl rfl rfl ?_
  refine TL.op (yq (y_lss (ev_t rfl) (ev_t rfl))) rfl rfl rfl ?_
  refine TL.nil ?_
  refine TN.seq ?_
  refine TC.cond (b := decide ((i1 : Int) < (a1.length : Int))) (ev_t rfl) (fun h12 => ?_) (fun h12 => ?_)
  · rw [bif_pos h12] at hL1
    have q13 := (of_decide_eq_true h12)
    refine TC.skip ?_
    refine TN.seq ?_
    refine TC.seq ?_
    refine TC.block ?_
    refine TC.seq ?_
    refine TC.region ?_
    refine TL.op (yq (y_move (ev_t rfl))) rfl rfl rfl ?_
    refine TL.op (yq (y_move (ev_t rfl))) rfl rfl rfl ?_
    refine TL.op (yq (y_move (ev_t rfl))) rfl rfl rfl ?_
    have hb14 : i1 < a1.length := (by first | omega | (simp only [List.length_set, List.length_append, List.length_cons, List.length_nil, List.length_replicate]; omega) | (rw [sortI_length]; simp only [List.length_cons, List.length_nil]; omega))
    refine TL.op (yq (y_idx (k := i1) (ev_t rfl) (ev_t rfl) (by first | omega | simp) slT_34 (ri_row 0 rfl) hb14)) rfl rfl rfl ?_
    refine TL.storeI 0 (ev_t rfl) (ev_t rfl) one_3 rfl hb14 ?_
    refine TL.nil ?_
    refine TN.seq ?_
    refine TC.region ?_
    refine TL.op (yq (y_move (ev_t rfl))) rfl rfl rfl ?_
    refine TL.op (yq (y_add (ev_t rfl) ev_c (by unfold In64; constructor <;> omega))) rfl rfl rfl ?_
    refine TL.op (yq (y_assign (ev_t rfl))) rfl rfl rfl ?_
    refine TL.nil ?_
    refine TN.blockN ?_
    refine TN.seq ?_
    refine TC.region ?_
    refine TL.op (yq (y_move (ev_t rfl))) rfl rfl rfl ?_
    refine TL.op (yq (y_add (ev_t rfl) ev_c (by unfold In64; constructor <;> omega))) rfl rfl rfl ?_
    refine TL.op (yq (y_assign (ev_t rfl))) rfl rfl rfl ?_
    refine TL.nil ?_
    exact TN.hand (mf1, k1 + 1, (i1 + 1), (a1.set i1 k1)) ⟨(by first | omega | (simp [-List.getD_eq_getElem?_getD] <;> omega)), (by first | omega | (simp [-List.getD_eq_getElem?_getD] <;> omega)), (by first | omega | (simp [-List.getD_eq_getElem?_getD] <;> omega)), (by omega), hL1⟩ (Nat.lt_succ_self _) ⟨rfl, rfl, rfl, trivial⟩ (fun w hw => hw)
  · rw [bif_neg h12] at hL1
    have q13 := (of_decide_eq_false h12)
    refine TC.exit ?_
    refine TN.thenE ?_
    refine TN.thenE ?_
    rw [← hL1, elim_next] at hF
    try dsimp only at hF
    refine TN.blockH ?_
    refine TN.seq ?_
    refine TC.seq ?_
    refine TC.region ?_
    refine TL.op (yq (y_move (ev_t rfl))) rfl rfl rfl ?_
    refine TL.op (yq (y_assign (ev_t rfl))) rfl rfl rfl ?_
    refine TL.nil ?_
    refine TN.seq ?_
    refine TC.ret ?_
    subst hF
    exact TN.ret1 rfl (ev_t rfl) (fun w' hw => ⟨(), rfl, hw⟩)

set_option maxRecDepth 4000 in
set_option maxHeartbeats 1000000 in
theorem laws_markIntSS_ok (w0 w : World) (fr : List Ck) (va : Value) (ua : List Value) (a : List (List Int)) (hw : Hp w0 (tabI 34 3 va ua a :: fr) w) (k : Int) (hp0 : 0 ≤ k) (hp1 : k + total a ≤ 1000000000) :
    Calls Try.prog 48 ([va, (.int .i64 k)] : List Value).toArray w (fun e w' => ∃ _i : Unit, e = .returned (.int .i64 ((F_laws_markIntSS a k).1)) ∧ Hp w0 (tabI 34 3 va ua ((F_laws_markIntSS a k).2) :: fr) w') := by
  obtain ⟨rz, hF⟩ : ∃ rz, (F_laws_markIntSS a k) = rz := ⟨_, rfl⟩
  rw [hF]
  unfold F_laws_markIntSS at hF
  have htot := totalFrom_zero a
  have hlen_a : a.length ≤ 9223372036854775807 := (hw.get 0 rfl).maxn
  refine calls_tcm Try.func48 rfl rfl rfl hw ?_
  change TC _ _ _ _ (Hp w0 ([tabI 34 3 va ua a] ++ fr)) [(0, va), (1, (.int .i64 k))]
  refine TC.seq ?_
  refine TC.region ?_
  refine TL.op (yq (y_assign ev_c)) rfl rfl rfl ?_
  refine TL.nil ?_
  refine TN.seq ?_
  refine TC.seq ?_
  refine TC.seq ?_
  refine TC.region ?_
  refine TL.op (yq (y_assign ev_c)) rfl rfl rfl ?_
  refine TL.nil ?_
  refine TN.seq ?_
  refine TC.block ?_
  obtain ⟨c10, hc11⟩ : ∃ c, F_laws_markIntSS_L1  ((a.length - 0) + 1) (k, 0, a) = c := ⟨_, rfl⟩
  rw [hc11] at hF
  refine TC.loop (ι := Nat × Int × Nat × List (List Int)) (fun (fu1, k1, i1, a1) => [(0, va), (1, (.int .i64 k1)), (5, (.int .i64 (i1 : Int)))]) (fun (fu1, k1, i1, a1) => Hp w0 ([tabI 34 3 va ua a1] ++ fr)) (fun (fu1, k1, i1, a1) => (a1.length = a.length) ∧ (i1 ≤ a.length) ∧ (0 ≤ k1) ∧ (k1 + totalFrom a i1 ≤ 1000000000) ∧ (∀ j, i1 ≤ j → a1.getD j [] = a.getD j []) ∧ a.length - i1 < fu1 ∧ F_laws_markIntSS_L1  fu1 (k1, i1, a1) = c10) (fun (fu1, k1, i1, a1) => fu1) ((a.length - 0) + 1, k, 0, a) ⟨(by first | omega | (simp [-List.getD_eq_getElem?_getD] <;> omega)), (by first | omega | (simp [-List.getD_eq_getElem?_getD] <;> omega)), (by first | omega | (simp [-List.getD_eq_getElem?_getD] <;> omega)), (by first | omega | (simp [-List.getD_eq_getElem?_getD] <;> omega)), (fun _ _ => rfl), (by omega), hc11⟩ ⟨rfl, rfl, rfl, trivial⟩ (fun w hw => hw) ?_
  rintro ⟨fu1, k1, i1, a1⟩ hJ1
  obtain ⟨hi1_0, hi1_1, hi1_2, hi1_3, hi1_4, hmu1, hL1⟩ : (a1.length = a.length) ∧ (i1 ≤ a.length) ∧ (0 ≤ k1) ∧ (k1 + totalFrom a i1 ≤ 1000000000) ∧ (∀ j, i1 ≤ j → a1.getD j [] = a.getD j []) ∧ a.length - i1 < fu1 ∧ F_laws_markIntSS_L1  fu1 (k1, i1, a1) = c10 := hJ1
  change TC _ _ _ _ (Hp w0 ([tabI 34 3 va ua a1] ++ fr)) [(0, va), (1, (.int .i64 k1)), (5, (.int .i64 (i1 : Int)))]
  obtain ⟨mf1, rfl⟩ : ∃ m, fu1 = m + 1 := ⟨fu1 - 1, by omega⟩
  rw [F_laws_markIntSS_L1_s] at hL1
  have hst := totalFrom_step a i1
  have hg := congrArg List.length (hi1_4 i1 (Nat.le_refl _))
  have hmk := markIntS_fst (a1.getD i1 []) k1
  refine TC.seq ?_
  refine TC.seq ?_
  refine TC.region ?_
  refine TL.op (yq (y_move (ev_t rfl))) rfl rfl rfl ?_
  refine TL.op (yq (y_move (ev_t rfl))) rfl rfl rfl ?_
  refine TL.op (yq (y_len (ev_t rfl) Try.underlying49 (fun w hw => ((fun w hw => ((rii_tab 0 rfl) w hw).1) w hw).ln))) rfl rfl rfl ?_
  refine TL.op (yq (y_lss (ev_t rfl) (ev_t rfl))) rfl rfl rfl ?_
  refine TL.nil ?_
  refine TN.seq ?_
  refine TC.cond (b := decide ((i1 : Int) < (a1.length : Int))) (ev_t rfl) (fun h12 => ?_) (fun h12 => ?_)
  · rw [bif_pos h12] at hL1
    have q13 := (of_decide_eq_true h12)
    refine TC.skip ?_
    refine TN.seq ?_
    refine TC.seq ?_
    refine TC.block ?_
    refine TC.region ?_
    refine TL.op (yq (y_move (ev_t rfl))) rfl rfl rfl ?_
    refine TL.op (yq (y_move (ev_t rfl))) rfl rfl rfl ?_
    have hb14 : i1 < a1.length := (by first | omega | (simp only [List.length_set, List.length_append, List.length_cons, List.length_nil, List.length_replicate]; omega) | (rw [sortI_length]; simp only [List.length_cons, List.length_nil]; omega))
    refine TL.op (yq (y_idx (k := i1) (ev_t rfl) (ev_t rfl) (by first | omega | simp) slT_49 (fun w hw => ((rii_tab 0 rfl) w hw).1) hb14)) rfl rfl rfl ?_
    refine TL.op (yq (y_ldT 0 (ev_t rfl) one_34 rfl hb14)) rfl rfl rfl ?_
    refine TL.op (yq (y_move (ev_t rfl))) rfl rfl rfl ?_
    refine TL.callmT 0 i1 (vs := [(ua.getD i1 undef), (.int .i64 k1)]) (.int .i64 ((F_laws_markIntS (a1.getD i1 []) k1).1)) ((F_laws_markIntS (a1.getD i1 []) k1).2) en_56 ⟨(ev_t rfl), (ev_t rfl), trivial⟩ rfl rfl hb14 (fun w1 fr1 hw => laws_markIntS_ok w0 w1 _ (ua.getD i1 undef) (a1.getD i1 []) hw k1 (by first | assumption | omega | grind) (by first | assumption | omega | grind)) ?_
    refine TL.op (yq (y_assign (ev_t rfl))) rfl rfl rfl ?_
    refine TL.nil ?_
    refine TN.blockN ?_
    refine TN.seq ?_
    refine TC.region ?_
    refine TL.op (yq (y_move (ev_t rfl))) rfl rfl rfl ?_
    refine TL.op (yq (y_add (ev_t rfl) ev_c (by unfold In64; constructor <;> omega))) rfl rfl rfl ?_
    refine TL.op (yq (y_assign (ev_t rfl))) rfl rfl rfl ?_
    refine TL.nil ?_
    exact TN.hand (mf1, (F_laws_markIntS (a1.getD i1 []) k1).1, (i1 + 1), (a1.set i1 ((F_laws_markIntS (a1.getD i1 []) k1).2))) ⟨(by first | omega | (simp [-List.getD_eq_getElem?_getD] <;> omega)), (by first | omega | (simp [-List.getD_eq_getElem?_getD] <;> omega)), (by first | omega | (simp [-List.getD_eq_getElem?_getD] <;> omega)), (by first | omega | (simp [-List.getD_eq_getElem?_getD] <;> omega)), (fun j hj => by rw [getD_set_ne _ _ _ _ _ (by omega)]; exact hi1_4 j (by omega)), (by omega), hL1⟩ (Nat.lt_succ_self _) ⟨rfl, rfl, rfl, trivial⟩ (fun w hw => hw)
  · rw [bif_neg h12] at hL1
    have q13 := (of_decide_eq_false h12)
    refine TC.exit ?_
    refine TN.thenE ?_
    refine TN.thenE ?_
    rw [← hL1, elim_next] at hF
    try dsimp only at hF
    refine TN.blockH ?_
    refine TN.seq ?_
    refine TC.seq ?_
    refine TC.region ?_
    refine TL.op (yq (y_move (ev_t rfl))) rfl rfl rfl ?_
    refine TL.op (yq (y_assign (ev_t rfl))) rfl rfl rfl ?_
    refine TL.nil ?_
    refine TN.seq ?_
    refine TC.ret ?_
    subst hF
    exact TN.ret1 rfl (ev_t rfl) (fun w' hw => ⟨(), rfl, hw⟩)

set_option maxRecDepth 4000 in
set_option maxHeartbeats 1000000 in
theorem laws_szIntS_ok (w : World) (va : Value) (a : List Int) (ha : RI w va a) (left : Int) (hp0 : 0 ≤ left) (hp1 : left ≤ 1048576) :
    Calls Try.prog 125 ([va, (.int .i64 left)] : List Value).toArray w (Ret (.int .i64 (F_laws_szIntS a left)) (Hp w [])) := by
  obtain ⟨rz, hF⟩ : ∃ rz, (F_laws_szIntS a left) = rz := ⟨_, rfl⟩
  rw [hF]
  unfold F_laws_szIntS at hF
  have hlen_a := arg_len ha
  refine calls_tc Try.func125 rfl rfl rfl ?_
  change TC _ _ _ _ (Hp w []) [(0, va), (1, (.int .i64 left))]
  refine TC.seq ?_
  refine TC.region ?_
  refine TL.op (yq (y_assign ev_c)) rfl rfl rfl ?_
  refine TL.nil ?_
  refine TN.seq ?_
  refine TC.seq ?_
  refine TC.region ?_
  refine TL.op (yq (y_move (ev_t rfl))) rfl rfl rfl ?_
  refine TL.op (yq (y_move (ev_t rfl))) rfl rfl rfl ?_
  refine TL.op (yq (y_len (ev_t rfl) Try.underlying34 (fun w hw => ((ri_arg ha) w hw).ln))) rfl rfl rfl ?_
  refine TL.op (yq (y_sub (ev_t rfl) (ev_t rfl) (by unfold In64; constructor <;> omega))) rfl rfl rfl ?_
  refine TL.op (yq (y_assign (ev_t rfl))) rfl rfl rfl ?_
  refine TL.nil ?_
  refine TN.seq ?_
  refine TC.seq ?_
  refine TC.seq ?_
  refine TC.region ?_
  refine TL.op (yq (y_move (ev_t rfl))) rfl rfl rfl ?_
  refine TL.op (yq (y_lss (ev_t rfl) ev_c)) rfl rfl rfl ?_
  refine TL.nil ?_
  refine TN.seq ?_
  refine TC.cond (b := decide (left - (a.length : Int) < 0)) (ev_t rfl) (fun h3 => ?_) (fun h3 => ?_)
  · rw [bif_pos h3] at hF
    have q4 := (of_decide_eq_true h3)
    refine TC.seq ?_
    refine TC.region ?_
    refine TL.op (yq (y_assign ev_c)) rfl rfl rfl ?_
    refine TL.nil ?_
    refine TN.seq ?_
    refine TC.ret ?_
    refine TN.thenR ?_
    subst hF
    exact TN.ret1 rfl (ev_t rfl) (fun w' hw => ⟨rfl, hw⟩)
  · rw [bif_neg h3] at hF
    have q4 := (of_decide_eq_false h3)
    refine TC.skip ?_
    refine TN.seq ?_
    refine TC.seq ?_
    refine TC.region ?_
    refine TL.op (yq (y_move (ev_t rfl))) rfl rfl rfl ?_
    refine TL.op (yq (y_assign (ev_t rfl))) rfl rfl rfl ?_
    refine TL.nil ?_
    refine TN.seq ?_
    refine TC.ret ?_
    subst hF
    exact TN.ret1 rfl (ev_t rfl) (fun w' hw => ⟨rfl, hw⟩)

set_option maxRecDepth 4000 in
set_option maxHeartbeats 1000000 in
theorem laws_szIntSS_ok (w : World) (va : Value) (ua : List Value) (a : List (List Int)) (ha : RII w va ua a) (left : Int) (hp0 : 0 ≤ left) (hp1 : left ≤ 1048576) :
    Calls Try.prog 87 ([va, (.int .i64 left)] : List Value).toArray w (Ret (.int .i64 (F_laws_szIntSS a left)) (Hp w [])) := by
  obtain ⟨rz, hF⟩ : ∃ rz, (F_laws_szIntSS a left) = rz := ⟨_, rfl⟩
  rw [hF]
  unfold F_laws_szIntSS at hF
  have hlen_a := argT_len ha
  refine calls_tc Try.func87 rfl rfl rfl ?_
  change TC _ _ _ _ (Hp w []) [(0, va), (1, (.int .i64 left))]
  refine TC.seq ?_
  refine TC.region ?_
  refine TL.op (yq (y_assign ev_c)) rfl rfl rfl ?_
  refine TL.nil ?_
  refine TN.seq ?_
  refine TC.seq ?_
  refine TC.region ?_
  refine TL.op (yq (y_move (ev_t rfl))) rfl rfl rfl ?_
  refine TL.op (yq (y_move (ev_t rfl))) rfl rfl rfl ?_
  refine TL.op (yq (y_len (ev_t rfl) Try.underlying49 (fun w hw => ((fun w hw => ((rii_arg ha) w hw).1) w hw).ln))) rfl rfl rfl ?_
  refine TL.op (yq (y_sub (ev_t rfl) (ev_t rfl) (by unfold In64; constructor <;> omega))) rfl rfl rfl ?_
  refine TL.op (yq (y_assign (ev_t rfl))) rfl rfl rfl ?_
  refine TL.nil ?_
  refine TN.seq ?_
  refine TC.seq ?_
  refine TC.seq ?_
  refine TC.region ?_
  refine TL.op (yq (y_move (ev_t rfl))) rfl rfl rfl ?_
  refine TL.op (yq (y_lss (ev_t rfl) ev_c)) rfl rfl rfl ?_
  refine TL.nil ?_
  refine TN.seq ?_
  refine TC.cond (b := decide (left - (a.length : Int) < 0)) (ev_t rfl) (fun h15 => ?_) (fun h15 => ?_)
  · rw [bif_pos h15] at hF
    have q16 := (of_decide_eq_true h15)
    refine TC.seq ?_
    refine TC.region ?_
    refine TL.op (yq (y_assign ev_c)) rfl rfl rfl ?_
    refine TL.nil ?_
    refine TN.seq ?_
    refine TC.ret ?_
    refine TN.thenR ?_
    subst hF
    exact TN.ret1 rfl (ev_t rfl) (fun w' hw => ⟨rfl, hw⟩)
  · rw [bif_neg h15] at hF
    have q16 := (of_decide_eq_false h15)
    refine TC.skip ?_
    refine TN.seq ?_
    refine TC.seq ?_
    refine TC.seq ?_
    refine TC.region ?_
    refine TL.op (yq (y_assign ev_c)) rfl rfl rfl ?_
    refine TL.nil ?_
    refine TN.seq ?_
    refine TC.block ?_
    obtain ⟨c17, hc18⟩ : ∃ c, F_laws_szIntSS_L1 a ((a.length - 0) + 1) ((left - (a.length : Int)), 0) = c := ⟨_, rfl⟩
    rw [hc18] at hF
    refine TC.loop (ι := Nat × Int × Nat) (fun (fu1, left1, i1) => [(0, va), (1, (.int .i64 left1)), (5, (.int .i64 (i1 : Int)))]) (fun (fu1, left1, i1) => Hp w []) (fun (fu1, left1, i1) => (i1 ≤ a.length) ∧ (0 ≤ left1) ∧ (left1 ≤ 1048576) ∧ a.length - i1 < fu1 ∧ F_laws_szIntSS_L1 a fu1 (left1, i1) = c17) (fun (fu1, left1, i1) => fu1) ((a.length - 0) + 1, left - (a.length : Int), 0) ⟨(by first | omega | (simp [-List.getD_eq_getElem?_getD] <;> omega)), (by first | omega | (simp [-List.getD_eq_getElem?_getD] <;> omega)), (by first | omega | (simp [-List.getD_eq_getElem?_getD] <;> omega)), (by omega), hc18⟩ ⟨rfl, rfl, rfl, trivial⟩ (fun w hw => hw) ?_
    rintro ⟨fu1, left1, i1⟩ hJ1
    obtain ⟨hi1_0, hi1_1, hi1_2, hmu1, hL1⟩ : (i1 ≤ a.length) ∧ (0 ≤ left1) ∧ (left1 ≤ 1048576) ∧ a.length - i1 < fu1 ∧ F_laws_szIntSS_L1 a fu1 (left1, i1) = c17 := hJ1
    change TC _ _ _ _ (Hp w []) [(0, va), (1, (.int .i64 left1)), (5, (.int .i64 (i1 : Int)))]
    obtain ⟨mf1, rfl⟩ : ∃ m, fu1 = m + 1 := ⟨fu1 - 1, by omega⟩
    rw [F_laws_szIntSS_L1_s] at hL1
    have hsz := szIntS_le (a.getD i1 []) left1 (by omega)
    refine TC.seq ?_
    refine TC.seq ?_
    refine TC.region ?_
    refine TL.op (yq (y_move (ev_t rfl))) rfl rfl rfl ?_
    refine TL.op (yq (y_move (ev_t rfl))) rfl rfl rfl ?_
    refine TL.op (yq (y_len (ev_t rfl) Try.underlying49 (fun w hw => ((fun w hw => ((rii_arg ha) w hw).1) w hw).ln))) rfl rfl rfl ?_
    refine TL.op (yq (y_lss (ev_t rfl) (ev_t rfl))) rfl rfl rfl ?_
    refine TL.nil ?_
    refine TN.seq ?_
    refine TC.cond (b := decide ((i1 : Int) < (a.length : Int))) (ev_t rfl) (fun h19 => ?_) (fun h19 => ?_)
    · rw [bif_pos h19] at hL1
      have q20 := (of_decide_eq_true h19)
      refine TC.skip ?_
      refine TN.seq ?_
      refine TC.seq ?_
      refine TC.block ?_
      refine TC.seq ?_
      refine TC.region ?_
      refine TL.op (yq (y_move (ev_t rfl))) rfl rfl rfl ?_
      refine TL.op (yq (y_move (ev_t rfl))) rfl rfl rfl ?_
      have hb21 : i1 < a.length := (by first | omega | (simp only [List.length_set, List.length_append, List.length_cons, List.length_nil, List.length_replicate]; omega) | (rw [sortI_length]; simp only [List.length_cons, List.length_nil]; omega))
      refine TL.op (yq (y_idx (k := i1) (ev_t rfl) (ev_t rfl) (by first | omega | simp) slT_49 (fun w hw => ((rii_arg ha) w hw).1) hb21)) rfl rfl rfl ?_
      have ha22 := ha.row (i := i1) hb21
      refine TL.op (yq (y_ldA (ev_t rfl) one_34 (rii_arg ha) hb21)) rfl rfl rfl ?_
      refine TL.op (yq (y_move (ev_t rfl))) rfl rfl rfl ?_
      refine TL.op (y_call (vs := [(ua.getD i1 undef), (.int .i64 left1)]) (v := (.int .i64 (F_laws_szIntS (a.getD i1 []) left1))) en_125 ⟨(ev_t rfl), (ev_t rfl), trivial⟩ (fun w hw => laws_szIntS_ok w (ua.getD i1 undef) (a.getD i1 []) ((ri_arg ha22) w hw) left1 (by first | assumption | omega | grind) (by first | assumption | omega | grind))) rfl rfl rfl ?_
      refine TL.op (yq (y_assign (ev_t rfl))) rfl rfl rfl ?_
      refine TL.nil ?_
      refine TN.seq ?_
      refine TC.seq ?_
      refine TC.region ?_
      refine TL.op (yq (y_move (ev_t rfl))) rfl rfl rfl ?_
      refine TL.op (yq (y_lss (ev_t rfl) ev_c)) rfl rfl rfl ?_
      refine TL.nil ?_
      refine TN.seq ?_
      refine TC.cond (b := decide ((F_laws_szIntS (a.getD i1 []) left1) < 0)) (ev_t rfl) (fun h23 => ?_) (fun h23 => ?_)
      · rw [bif_pos h23] at hL1
        have q24 := (of_decide_eq_true h23)
        refine TC.seq ?_
        refine TC.region ?_
        refine TL.op (yq (y_assign ev_c)) rfl rfl rfl ?_
        refine TL.nil ?_
        refine TN.seq ?_
        refine TC.ret ?_
        refine TN.blockR ?_
        refine TN.thenR ?_
        refine TN.thenR ?_
        rw [← hL1, elim_ret] at hF
        refine TN.blockR ?_
        refine TN.thenR ?_
        subst hF
        exact TN.ret1 rfl (ev_t rfl) (fun w' hw => ⟨rfl, hw⟩)
      · rw [bif_neg h23] at hL1
        have q24 := (of_decide_eq_false h23)
        refine TC.skip ?_
        refine TN.blockN ?_
        refine TN.seq ?_
        refine TC.region ?_
        refine TL.op (yq (y_move (ev_t rfl))) rfl rfl rfl ?_
        refine TL.op (yq (y_add (ev_t rfl) ev_c (by unfold In64; constructor <;> omega))) rfl rfl rfl ?_
        refine TL.op (yq (y_assign (ev_t rfl))) rfl rfl rfl ?_
        refine TL.nil ?_
        exact TN.hand (mf1, (F_laws_szIntS (a.getD i1 []) left1), (i1 + 1)) ⟨(by first | omega | (simp [-List.getD_eq_getElem?_getD] <;> omega)), (by first | omega | (simp [-List.getD_eq_getElem?_getD] <;> omega)), (by first | omega | (simp [-List.getD_eq_getElem?_getD] <;> omega)), (by omega), hL1⟩ (Nat.lt_succ_self _) ⟨rfl, rfl, rfl, trivial⟩ (fun w hw => hw)
    · rw [bif_neg h19] at hL1
      have q20 := (of_decide_eq_false h19)
      refine TC.exit ?_
      refine TN.thenE ?_
      refine TN.thenE ?_
      rw [← hL1, elim_next] at hF
      try dsimp only at hF
      refine TN.blockH ?_
      refine TN.seq ?_
      refine TC.seq ?_
      refine TC.region ?_
      refine TL.op (yq (y_move (ev_t rfl))) rfl rfl rfl ?_
      refine TL.op (yq (y_assign (ev_t rfl))) rfl rfl rfl ?_
      refine TL.nil ?_
      refine TN.seq ?_
      refine TC.ret ?_
      subst hF
      exact TN.ret1 rfl (ev_t rfl) (fun w' hw => ⟨rfl, hw⟩)

set_option maxRecDepth 4000 in
set_option maxHeartbeats 1000000 in
theorem laws_szMetric_ok (w : World) (vm : Value) (um : List Value) (m : List (List Int)) (hm : RII w vm um m) (left : Int) (hp0 : 0 ≤ left) (hp1 : left ≤ 1048576) :
    Calls Try.prog 36 ([(.agg #[vm]), (.int .i64 left)] : List Value).toArray w (Ret (.int .i64 (F_laws_szMetric m left)) (Hp w [])) := by
  obtain ⟨rz, hF⟩ : ∃ rz, (F_laws_szMetric m left) = rz := ⟨_, rfl⟩
  rw [hF]
  unfold F_laws_szMetric at hF
  have hlen_m := argT_len hm
  refine calls_tc Try.func36 rfl rfl rfl ?_
  change TC _ _ _ _ (Hp w []) [(0, (.agg #[vm])), (1, (.int .i64 left))]
  refine TC.seq ?_
  refine TC.region ?_
  refine TL.box (ev_t rfl) rfl (fun g0_0 => ?_)
  refine TL.op (yq (y_assign ev_c)) rfl rfl rfl ?_
  refine TL.nil ?_
  refine TN.seq ?_
  refine TC.seq ?_
  refine TC.region ?_
  refine TL.op (yq (y_fa (fa_51_0 g0_0) (ev_t rfl))) rfl rfl rfl ?_
  refine TL.op (yq (y_ldb 0 (ev_t rfl) one_49 rfl rfl)) rfl rfl rfl ?_
  refine TL.op (yq (y_move (ev_t rfl))) rfl rfl rfl ?_
  refine TL.op (y_call (vs := [vm, (.int .i64 left)]) (v := (.int .i64 (F_laws_szIntSS m left))) en_87 ⟨(ev_t rfl), (ev_t rfl), trivial⟩ (fun w hw => laws_szIntSS_ok w vm um m ((rii_arg hm) w hw) left (by first | assumption | omega | grind) (by first | assumption | omega | grind))) rfl rfl rfl ?_
  refine TL.op (yq (y_assign (ev_t rfl))) rfl rfl rfl ?_
  refine TL.nil ?_
  refine TN.seq ?_
  refine TC.seq ?_
  refine TC.seq ?_
  refine TC.region ?_
  refine TL.op (yq (y_move (ev_t rfl))) rfl rfl rfl ?_
  refine TL.op (yq (y_lss (ev_t rfl) ev_c)) rfl rfl rfl ?_
  refine TL.nil ?_
  refine TN.seq ?_
  refine TC.cond (b := decide ((F_laws_szIntSS m left) < 0)) (ev_t rfl) (fun h3 => ?_) (fun h3 => ?_)
  · rw [bif_pos h3] at hF
    have q4 := (of_decide_eq_true h3)
    refine TC.seq ?_
    refine TC.region ?_
    refine TL.op (yq (y_assign ev_c)) rfl rfl rfl ?_
    refine TL.nil ?_
    refine TN.seq ?_
    refine TC.ret ?_
    refine TN.thenR ?_
    subst hF
    exact TN.ret1 rfl (ev_t rfl) (fun w' hw => ⟨rfl, Hp.sublist hw (List.nil_sublist _)⟩)
  · rw [bif_neg h3] at hF
    have q4 := (of_decide_eq_false h3)
    have hss := szIntSS_t m left (by omega)
    have hss1 : ∀ i, (m.getD i []).length ≤ 1048576 := fun i => by have := row_le_total m i; omega
    refine TC.skip ?_
    refine TN.seq ?_
    refine TC.seq ?_
    refine TC.region ?_
    refine TL.op (yq (y_move (ev_t rfl))) rfl rfl rfl ?_
    refine TL.op (yq (y_assign (ev_t rfl))) rfl rfl rfl ?_
    refine TL.nil ?_
    refine TN.seq ?_
    refine TC.ret ?_
    subst hF
    exact TN.ret1 rfl (ev_t rfl) (fun w' hw => ⟨rfl, Hp.sublist hw (List.nil_sublist _)⟩)

set_option maxRecDepth 4000 in
set_option maxHeartbeats 1000000 in
theorem laws_toIntSS_ok (w : World) (va : Value) (ua : List Value) (a : List (List Int)) (ha : RII w va ua a) (hp0 : a.length ≤ 1048576) (hp1 : ∀ i, (a.getD i []).length ≤ 1048576) :
    Calls Try.prog 90 ([va] : List Value).toArray w (fun e w' => ∃ i : Value × List Value, e = .returned i.1 ∧ Hp w [tabI 34 3 i.1 i.2 (F_laws_toIntSS a)] w') := by
  obtain ⟨rz, hF⟩ : ∃ rz, (F_laws_toIntSS a) = rz := ⟨_, rfl⟩
  rw [hF]
  unfold F_laws_toIntSS at hF
  have hlen_a := argT_len ha
  refine calls_tc Try.func90 rfl rfl rfl ?_
  change TC _ _ _ _ (Hp w []) [(0, va)]
  refine TC.seq ?_
  refine TC.region ?_
  refine TL.op (yq (y_assign ev_c)) rfl rfl rfl ?_
  refine TL.nil ?_
  refine TN.seq ?_
  refine TC.seq ?_
  refine TC.region ?_
  refine TL.op (yq (y_move (ev_t rfl))) rfl rfl rfl ?_
  refine TL.op (yq (y_len (ev_t rfl) Try.underlying49 (fun w hw => ((fun w hw => ((rii_arg ha) w hw).1) w hw).ln))) rfl rfl rfl ?_
  refine TL.makeSlice (n := a.length) (ev_t rfl) (ev_t rfl) (by omega) slT_49 rfl (by omega) (by unfold maxLen; omega) rfl (fun v1_2 => ?_)
  refine TL.cls (fun w hw => hw.madeTab 3) ?_
  refine TL.op (yq (y_assign (ev_t rfl))) rfl rfl rfl ?_
  refine TL.nil ?_
  refine TN.seq ?_
  refine TC.seq ?_
  refine TC.seq ?_
  refine TC.region ?_
  refine TL.op (yq (y_assign ev_c)) rfl rfl rfl ?_
  refine TL.nil ?_
  refine TN.seq ?_
  refine TC.block ?_
  obtain ⟨c16, hc17⟩ : ∃ c, F_laws_toIntSS_L1 a ((a.length - 0) + 1) (0, (List.replicate a.length ([] : List Int))) = c := ⟨_, rfl⟩
  rw [hc17] at hF
  refine TC.loop (ι := Nat × Nat × List (List Int) × List Value) (fun (fu1, i1, out1, uout1) => [(0, va), (3, v1_2), (4, (.int .i64 (i1 : Int)))]) (fun (fu1, i1, out1, uout1) => Hp w [tabI 34 3 v1_2 uout1 out1]) (fun (fu1, i1, out1, uout1) => (i1 ≤ a.length) ∧ (out1.length = a.length) ∧ a.length - i1 < fu1 ∧ F_laws_toIntSS_L1 a fu1 (i1, out1) = c16) (fun (fu1, i1, out1, uout1) => fu1) ((a.length - 0) + 1, 0, (List.replicate a.length ([] : List Int)), (List.replicate a.length (.slice none 0 0))) ⟨(by first | omega | (simp [-List.getD_eq_getElem?_getD] <;> omega)), (by first | omega | (simp [-List.getD_eq_getElem?_getD] <;> omega)), (by omega), hc17⟩ ⟨rfl, rfl, rfl, trivial⟩ (fun w hw => hw) ?_
  rintro ⟨fu1, i1, out1, uout1⟩ hJ1
  obtain ⟨hi1_0, hi1_1, hmu1, hL1⟩ : (i1 ≤ a.length) ∧ (out1.length = a.length) ∧ a.length - i1 < fu1 ∧ F_laws_toIntSS_L1 a fu1 (i1, out1) = c16 := hJ1
  change TC _ _ _ _ (Hp w [tabI 34 3 v1_2 uout1 out1]) [(0, va), (3, v1_2), (4, (.int .i64 (i1 : Int)))]
  obtain ⟨mf1, rfl⟩ : ∃ m, fu1 = m + 1 := ⟨fu1 - 1, by omega⟩
  rw [F_laws_toIntSS_L1_s] at hL1
  have hrow := hp1 i1
  refine TC.seq ?_
  refine TC.seq ?_
  refine TC.region ?_
  refine TL.op (yq (y_move (ev_t rfl))) rfl rfl rfl ?_
  refine TL.op (yq (y_move (ev_t rfl))) rfl rfl rfl ?_
  refine TL.op (yq (y_len (ev_t rfl) Try.underlying49 (fun w hw => ((fun w hw => ((rii_arg ha) w hw).1) w hw).ln))) rfl rfl rfl ?_
  refine TL.op (yq (y_lss (ev_t rfl) (ev_t rfl))) rfl rfl rfl ?_
  refine TL.nil ?_
  refine TN.seq ?_
  refine TC.cond (b := decide ((i1 : Int) < (a.length : Int))) (ev_t rfl) (fun h18 => ?_) (fun h18 => ?_)
  · rw [bif_pos h18] at hL1
    have q19 := (of_decide_eq_true h18)
    refine TC.skip ?_
    refine TN.seq ?_
    refine TC.seq ?_
    refine TC.block ?_
    refine TC.region ?_
    refine TL.op (yq (y_move (ev_t rfl))) rfl rfl rfl ?_
    refine TL.op (yq (y_move (ev_t rfl))) rfl rfl rfl ?_
    refine TL.op (yq (y_move (ev_t rfl))) rfl rfl rfl ?_
    refine TL.op (yq (y_move (ev_t rfl))) rfl rfl rfl ?_
    have hb20 : i1 < a.length := (by first | omega | (simp only [List.length_set, List.length_append, List.length_cons, List.length_nil, List.length_replicate]; omega) | (rw [sortI_length]; simp only [List.length_cons, List.length_nil]; omega))
    refine TL.op (yq (y_idx (k := i1) (ev_t rfl) (ev_t rfl) (by first | omega | simp) slT_49 (fun w hw => ((rii_arg ha) w hw).1) hb20)) rfl rfl rfl ?_
    have ha21 := ha.row (i := i1) hb20
    refine TL.op (yq (y_ldA (ev_t rfl) one_34 (rii_arg ha) hb20)) rfl rfl rfl ?_
    refine TL.callr (ι := Value) (vs := [(ua.getD i1 undef)]) (fun i => i) (fun i => [rowI 3 i (F_laws_toIntS (a.getD i1 []))]) en_51 ⟨(ev_t rfl), trivial⟩ rfl (fun w hw => laws_toIntS_ok w (ua.getD i1 undef) (a.getD i1 []) ((ri_arg ha21) w hw) (by first | assumption | omega | grind)) (fun r5_6 => ?_)
    have hb22 : i1 < out1.length := (by first | omega | (simp only [List.length_set, List.length_append, List.length_cons, List.length_nil, List.length_replicate]; omega) | (rw [sortI_length]; simp only [List.length_cons, List.length_nil]; omega))
    refine TL.op (yq (y_idx (k := i1) (ev_t rfl) (ev_t rfl) (by first | omega | simp) slT_49 (fun w hw => ((rii_tab 1 rfl) w hw).1) hb22)) rfl rfl rfl ?_
    refine TL.storeU 1 0 rfl (ev_t rfl) (ev_t rfl) one_34 rfl rfl hb22 ?_
    refine TL.nil ?_
    refine TN.blockN ?_
    refine TN.seq ?_
    refine TC.region ?_
    refine TL.op (yq (y_move (ev_t rfl))) rfl rfl rfl ?_
    refine TL.op (yq (y_add (ev_t rfl) ev_c (by unfold In64; constructor <;> omega))) rfl rfl rfl ?_
    refine TL.op (yq (y_assign (ev_t rfl))) rfl rfl rfl ?_
    refine TL.nil ?_
    exact TN.hand (mf1, (i1 + 1), (out1.set i1 (F_laws_toIntS (a.getD i1 []))), (uout1.set i1 r5_6)) ⟨(by first | omega | (simp [-List.getD_eq_getElem?_getD] <;> omega)), (by first | omega | (simp [-List.getD_eq_getElem?_getD] <;> omega)), (by omega), hL1⟩ (Nat.lt_succ_self _) ⟨rfl, rfl, rfl, trivial⟩ (fun w hw => Hp.sublist hw (.cons _ (.cons_cons _ .slnil)))
  · rw [bif_neg h18] at hL1
    have q19 := (of_decide_eq_false h18)
    refine TC.exit ?_
    refine TN.thenE ?_
    refine TN.thenE ?_
    rw [← hL1, elim_next] at hF
    try dsimp only at hF
    refine TN.blockH ?_
    refine TN.seq ?_
    refine TC.seq ?_
    refine TC.region ?_
    refine TL.op (yq (y_move (ev_t rfl))) rfl rfl rfl ?_
    refine TL.op (yq (y_assign (ev_t rfl))) rfl rfl rfl ?_
    refine TL.nil ?_
    refine TN.seq ?_
    refine TC.ret ?_
    subst hF
    exact TN.ret1 rfl (ev_t rfl) (fun w' hw => ⟨(v1_2, uout1), rfl, hw⟩)

set_option maxRecDepth 4000 in
set_option maxHeartbeats 1000000 in
theorem laws_toMetric_ok (w : World) (vm : Value) (um : List Value) (m : List (List Int)) (hm : RII w vm um m) (hp0 : m.length ≤ 1048576) (hp1 : ∀ i, (m.getD i []).length ≤ 1048576) :
    Calls Try.prog 38 ([(.agg #[vm])] : List Value).toArray w (fun e w' => ∃ i : Value × List Value, e = .returned (.agg #[i.1]) ∧ Hp w [tabI 34 3 i.1 i.2 (F_laws_toMetric m)] w') := by
  obtain ⟨rz, hF⟩ : ∃ rz, (F_laws_toMetric m) = rz := ⟨_, rfl⟩
  rw [hF]
  unfold F_laws_toMetric at hF
  have hlen_m := argT_len hm
  refine calls_tc Try.func38 rfl rfl rfl ?_
  change TC _ _ _ _ (Hp w []) [(0, (.agg #[vm]))]
  refine TC.seq ?_
  refine TC.region ?_
  refine TL.box (ev_t rfl) rfl (fun g0_0 => ?_)
  refine TL.alloc (u := (.agg #[(.slice none 0 0)])) (by kernel_rfl) rfl (fun g0_1 => ?_)
  refine TL.nil ?_
  refine TN.seq ?_
  refine TC.seq ?_
  refine TC.region ?_
  refine TL.alloc (u := (.agg #[(.slice none 0 0)])) (by kernel_rfl) rfl (fun g1_0 => ?_)
  refine TL.nil ?_
  refine TN.seq ?_
  refine TC.seq ?_
  refine TC.region ?_
  refine TL.op (yq (y_fa (fa_51_0 g0_0) (ev_t rfl))) rfl rfl rfl ?_
  refine TL.op (yq (y_ldb 2 (ev_t rfl) one_49 rfl rfl)) rfl rfl rfl ?_
  refine TL.callr (ι := Value × List Value) (vs := [vm]) (fun i => i.1) (fun i => [tabI 34 3 i.1 i.2 (F_laws_toIntSS m)]) en_90 ⟨(ev_t rfl), trivial⟩ rfl (fun w hw => laws_toIntSS_ok w vm um m ((rii_arg hm) w hw) (by first | assumption | omega | grind) (by first | assumption | omega | grind)) (fun r2_2 => ?_)
  refine TL.op (yq (y_fa (fa_55_0 g1_0) (ev_t rfl))) rfl rfl rfl ?_
  refine TL.storeB 1 (ev_t rfl) (ev_t rfl) one_49 rfl (by first | decide | simp) (fun w hw => (ln_one ((fun w hw => ((rii_tab 0 rfl) w hw).1) w hw).ln)) ?_
  refine TL.nil ?_
  refine TN.seq ?_
  refine TC.seq ?_
  refine TC.region ?_
  refine TL.op (yq (y_ldagg (cs := [r2_2.1]) 1 (ev_t rfl) agg_55 rfl)) rfl rfl rfl ?_
  refine TL.storeAgg (cs := [(.slice none 0 0)]) (us := [r2_2.1]) 2 (ev_t rfl) (ev_t rfl) agg_55 rfl rfl (fun w hw => (ocs_cons (ln_one ((fun w hw => ((rii_tab 0 rfl) w hw).1) w hw).ln) ocs_nil)) ?_
  refine TL.nil ?_
  refine TN.seq ?_
  refine TC.ret ?_
  subst hF
  exact TN.retC (cs := [r2_2.1]) 2 (by simp) rfl (ev_t rfl) agg_55 rfl (fun w' hw => ⟨(r2_2.1, r2_2.2), rfl, Hp.sublist hw (.cons_cons _ (.cons _ (.cons _ (.cons _ .slnil))))⟩)

set_option maxRecDepth 4000 in
set_option maxHeartbeats 1000000 in
theorem laws_eqMetric_ok (w : World) (va : Value) (ua : List Value) (a : List (List Int)) (ha : RII w va ua a) (vb : Value) (ub : List Value) (b : List (List Int)) (hb : RII w vb ub b)  :
    Calls Try.prog 41 ([(.agg #[va]), (.agg #[vb])] : List Value).toArray w (Ret (.bool (F_laws_eqMetric a b)) (Hp w [])) := by
  obtain ⟨rz, hF⟩ : ∃ rz, (F_laws_eqMetric a b) = rz := ⟨_, rfl⟩
  rw [hF]
  unfold F_laws_eqMetric at hF
  have hlen_a := argT_len ha
  have hlen_b := argT_len hb
  refine calls_tc Try.func41 rfl rfl rfl ?_
  change TC _ _ _ _ (Hp w []) [(0, (.agg #[va])), (1, (.agg #[vb]))]
  refine TC.seq ?_
  refine TC.region ?_
  refine TL.box (ev_t rfl) rfl (fun g0_0 => ?_)
  refine TL.box (ev_t rfl) rfl (fun g0_1 => ?_)
  refine TL.op (yq (y_assign ev_c)) rfl rfl rfl ?_
  refine TL.nil ?_
  refine TN.seq ?_
  refine TC.seq ?_
  refine TC.seq ?_
  refine TC.region ?_
  refine TL.op (yq (y_fa (fa_55_0 g0_0) (ev_t rfl))) rfl rfl rfl ?_
  refine TL.op (yq (y_ldb 1 (ev_t rfl) one_49 rfl rfl)) rfl rfl rfl ?_
  refine TL.op (yq (y_fa (fa_55_0 g0_1) (ev_t rfl))) rfl rfl rfl ?_
  refine TL.op (yq (y_ldb 0 (ev_t rfl) one_49 rfl rfl)) rfl rfl rfl ?_
  refine TL.op (y_call (vs := [va, vb]) (v := (.bool (F_laws_eqIntSS a b))) en_47 ⟨(ev_t rfl), (ev_t rfl), trivial⟩ (fun w hw => laws_eqIntSS_ok w va ua a ((rii_arg ha) w hw) vb ub b ((rii_arg hb) w hw))) rfl rfl rfl ?_
  refine TL.op (yq (y_not (ev_t rfl))) rfl rfl rfl ?_
  refine TL.nil ?_
  refine TN.seq ?_
  refine TC.cond (b := !(F_laws_eqIntSS a b)) (ev_t rfl) (fun h3 => ?_) (fun h3 => ?_)
  · rw [bif_pos h3] at hF
    have q4 := (not_t h3)
    refine TC.seq ?_
    refine TC.region ?_
    refine TL.op (yq (y_assign ev_c)) rfl rfl rfl ?_
    refine TL.nil ?_
    refine TN.seq ?_
    refine TC.ret ?_
    refine TN.thenR ?_
    subst hF
    exact TN.ret1 rfl (ev_t rfl) (fun w' hw => ⟨rfl, Hp.sublist hw (List.nil_sublist _)⟩)
  · rw [bif_neg h3] at hF
    have q4 := (not_f h3)
    refine TC.skip ?_
    refine TN.seq ?_
    refine TC.seq ?_
    refine TC.region ?_
    refine TL.op (yq (y_assign ev_c)) rfl rfl rfl ?_
    refine TL.nil ?_
    refine TN.seq ?_
    refine TC.ret ?_
    subst hF
    exact TN.ret1 rfl (ev_t rfl) (fun w' hw => ⟨rfl, Hp.sublist hw (List.nil_sublist _)⟩)

set_option maxRecDepth 4000 in
set_option maxHeartbeats 1000000 in
theorem laws_markMetric_ok (w0 w : World) (fr : List Ck) (va : Value) (ua : List Value) (a : List (List Int)) (hw : Hp w0 (tabI 34 3 va ua a :: fr) w) (k : Int) (hp0 : 0 ≤ k) (hp1 : k + total a ≤ 1000000000) :
    Calls Try.prog 42 ([(.agg #[va]), (.int .i64 k)] : List Value).toArray w (fun e w' => ∃ _i : Unit, e = .returned (.int .i64 ((F_laws_markMetric a k).1)) ∧ Hp w0 (tabI 34 3 va ua ((F_laws_markMetric a k).2) :: fr) w') := by
  obtain ⟨rz, hF⟩ : ∃ rz, (F_laws_markMetric a k) = rz := ⟨_, rfl⟩
  rw [hF]
  unfold F_laws_markMetric at hF
  have hlen_a : a.length ≤ 9223372036854775807 := (hw.get 0 rfl).maxn
  refine calls_tcm Try.func42 rfl rfl rfl hw ?_
  change TC _ _ _ _ (Hp w0 ([tabI 34 3 va ua a] ++ fr)) [(0, (.agg #[va])), (1, (.int .i64 k))]
  refine TC.seq ?_
  refine TC.region ?_
  refine TL.box (ev_t rfl) rfl (fun g0_0 => ?_)
  refine TL.op (yq (y_assign ev_c)) rfl rfl rfl ?_
  refine TL.nil ?_
  refine TN.seq ?_
  refine TC.seq ?_
  refine TC.region ?_
  refine TL.op (yq (y_fa (fa_55_0 g0_0) (ev_t rfl))) rfl rfl rfl ?_
  refine TL.op (yq (y_ldb 0 (ev_t rfl) one_49 rfl rfl)) rfl rfl rfl ?_
  refine TL.op (yq (y_move (ev_t rfl))) rfl rfl rfl ?_
  refine TL.callm (ι := Unit) 1 (vs := [va, (.int .i64 k)]) (fun _ => (.int .i64 ((F_laws_markIntSS a k).1))) (fun _ => tabI 34 3 va ua ((F_laws_markIntSS a k).2)) en_48 ⟨(ev_t rfl), (ev_t rfl), trivial⟩ rfl rfl (fun w1 fr1 hw => laws_markIntSS_ok w0 w1 _ va ua a hw k (by first | assumption | omega | grind) (by first | assumption | omega | grind)) (fun _ => ?_)
  refine TL.op (yq (y_assign (ev_t rfl))) rfl rfl rfl ?_
  refine TL.nil ?_
  refine TN.seq ?_
  refine TC.seq ?_
  refine TC.region ?_
  refine TL.op (yq (y_move (ev_t rfl))) rfl rfl rfl ?_
  refine TL.op (yq (y_assign (ev_t rfl))) rfl rfl rfl ?_
  refine TL.nil ?_
  refine TN.seq ?_
  refine TC.ret ?_
  subst hF
  exact TN.ret1 rfl (ev_t rfl) (fun w' hw => ⟨(), rfl, Hp.sublist hw (.cons _ (.cons_cons _ (List.Sublist.refl _)))⟩)

set_option maxRecDepth 4000 in
set_option maxHeartbeats 1000000 in
theorem laws_eqIntA2_ok (w : World) (a : Int × Int) (b : Int × Int)  :
    Calls Try.prog 93 ([(.agg #[(.int .i64 a.1), (.int .i64 a.2)]), (.agg #[(.int .i64 b.1), (.int .i64 b.2)])] : List Value).toArray w (Ret (.bool (F_laws_eqIntA2 a b)) (Hp w [])) := by
  obtain ⟨rz, hF⟩ : ∃ rz, (F_laws_eqIntA2 a b) = rz := ⟨_, rfl⟩
  rw [hF]
  unfold F_laws_eqIntA2 at hF
  refine calls_tc Try.func93 rfl rfl rfl ?_
  change TC _ _ _ _ (Hp w []) [(0, (.agg #[(.int .i64 a.1), (.int .i64 a.2)])), (1, (.agg #[(.int .i64 b.1), (.int .i64 b.2)]))]
  refine TC.seq ?_
  refine TC.region ?_
  refine TL.box (ev_t rfl) rfl (fun g0_0 => ?_)
  refine TL.box (ev_t rfl) rfl (fun g0_1 => ?_)
  refine TL.op (yq (y_assign ev_c)) rfl rfl rfl ?_
  refine TL.nil ?_
  refine TN.seq ?_
  refine TC.seq ?_
  refine TC.seq ?_
  refine TC.region ?_
  refine TL.op (yq (y_assign ev_c)) rfl rfl rfl ?_
  refine TL.nil ?_
  refine TN.seq ?_
  refine TC.block ?_
  obtain ⟨c9, hc10⟩ : ∃ c, F_laws_eqIntA2_L1 a b ((2 - 0) + 1) 0 = c := ⟨_, rfl⟩
  rw [hc10] at hF
  refine TC.loop (ι := Nat × Nat) (fun (fu1, i1) => [(2, (.pointer (some ⟨g0_0, 0, none⟩))), (3, (.pointer (some ⟨g0_1, 0, none⟩))), (5, (.int .i64 (i1 : Int)))]) (fun (fu1, i1) => Hp w [.blk g0_1 85 [(.int .i64 b.1), (.int .i64 b.2)], .blk g0_0 85 [(.int .i64 a.1), (.int .i64 a.2)]]) (fun (fu1, i1) => (i1 ≤ 2) ∧ 2 - i1 < fu1 ∧ F_laws_eqIntA2_L1 a b fu1 i1 = c9) (fun (fu1, i1) => fu1) ((2 - 0) + 1, 0) ⟨(by first | omega | (simp [-List.getD_eq_getElem?_getD] <;> omega)), (by omega), hc10⟩ ⟨rfl, rfl, rfl, trivial⟩ (fun w hw => hw) ?_
  rintro ⟨fu1, i1⟩ hJ1
  obtain ⟨hi1_0, hmu1, hL1⟩ : (i1 ≤ 2) ∧ 2 - i1 < fu1 ∧ F_laws_eqIntA2_L1 a b fu1 i1 = c9 := hJ1
  change TC _ _ _ _ (Hp w [.blk g0_1 85 [(.int .i64 b.1), (.int .i64 b.2)], .blk g0_0 85 [(.int .i64 a.1), (.int .i64 a.2)]]) [(2, (.pointer (some ⟨g0_0, 0, none⟩))), (3, (.pointer (some ⟨g0_1, 0, none⟩))), (5, (.int .i64 (i1 : Int)))]
  obtain ⟨mf1, rfl⟩ : ∃ m, fu1 = m + 1 := ⟨fu1 - 1, by omega⟩
  rw [F_laws_eqIntA2_L1_s] at hL1
  refine TC.seq ?_
  refine TC.seq ?_
  refine TC.region ?_
  refine TL.op (yq (y_move (ev_t rfl))) rfl rfl rfl ?_
  refine TL.op (yq (y_lss (ev_t rfl) ev_c)) rfl rfl rfl ?_
  refine TL.nil ?_
  refine TN.seq ?_
  refine TC.cond (b := decide ((i1 : Int) < 2)) (ev_t rfl) (fun h11 => ?_) (fun h11 => ?_)
  · rw [bif_pos h11] at hL1
    have q12 := (of_decide_eq_true h11)
    refine TC.skip ?_
    refine TN.seq ?_
    refine TC.seq ?_
    refine TC.block ?_
    refine TC.seq ?_
    refine TC.regionQ (by kernel_rfl) (by kernel_rfl) dr_hp ?_
    refine TQ.op (yq (y_move (ev_t rfl))) rfl rfl rfl ?_
    refine TQ.op (yq (y_ixb (c := i1) (ev_t rfl) (ev_t rfl) (by first | rfl | omega) arT_85 (by omega))) rfl rfl rfl ?_
    refine TQ.op (yq (y_ldv 1 (c := i1) (ev_t rfl) one_3 rfl (by omega))) rfl rfl rfl ?_
    refine TQ.op (yq (y_move (ev_t rfl))) rfl rfl rfl ?_
    refine TQ.op (yq (y_ixb (c := i1) (ev_t rfl) (ev_t rfl) (by first | rfl | omega) arT_85 (by omega))) rfl rfl rfl ?_
    refine TQ.op (yq (y_ldv 0 (c := i1) (ev_t rfl) one_3 rfl (by omega))) rfl rfl rfl ?_
    refine TQ.op (yq (y_neq (ev_t rfl) (ev_t rfl))) rfl rfl rfl ?_
    refine TQ.nil ?_
    refine TN.seq ?_
    refine TC.cond (b := !decide ((pk a.1 a.2 i1) = (pk b.1 b.2 i1))) (ev_t rfl) (fun h13 => ?_) (fun h13 => ?_)
    · rw [bif_pos h13] at hL1
      have q14 := (of_decide_eq_false (not_t h13))
      refine TC.seq ?_
      refine TC.region ?_
      refine TL.op (yq (y_assign ev_c)) rfl rfl rfl ?_
      refine TL.nil ?_
      refine TN.seq ?_
      refine TC.ret ?_
      refine TN.blockR ?_
      refine TN.thenR ?_
      refine TN.thenR ?_
      rw [← hL1, elim_ret] at hF
      refine TN.blockR ?_
      refine TN.thenR ?_
      subst hF
      exact TN.ret1 rfl (ev_t rfl) (fun w' hw => ⟨rfl, Hp.sublist hw (List.nil_sublist _)⟩)
    · rw [bif_neg h13] at hL1
      have q14 := (of_decide_eq_true (not_f h13))
      refine TC.skip ?_
      refine TN.blockN ?_
      refine TN.seq ?_
      refine TC.region ?_
      refine TL.op (yq (y_move (ev_t rfl))) rfl rfl rfl ?_
      refine TL.op (yq (y_add (ev_t rfl) ev_c (by unfold In64; constructor <;> omega))) rfl rfl rfl ?_
      refine TL.op (yq (y_assign (ev_t rfl))) rfl rfl rfl ?_
      refine TL.nil ?_
      exact TN.hand (mf1, (i1 + 1)) ⟨(by first | omega | (simp [-List.getD_eq_getElem?_getD] <;> omega)), (by omega), hL1⟩ (Nat.lt_succ_self _) ⟨rfl, rfl, rfl, trivial⟩ (fun w hw => hw)
  · rw [bif_neg h11] at hL1
    have q12 := (of_decide_eq_false h11)
    refine TC.exit ?_
    refine TN.thenE ?_
    refine TN.thenE ?_
    rw [← hL1, elim_next] at hF
    try dsimp only at hF
    refine TN.blockH ?_
    refine TN.seq ?_
    refine TC.seq ?_
    refine TC.region ?_
    refine TL.op (yq (y_assign ev_c)) rfl rfl rfl ?_
    refine TL.nil ?_
    refine TN.seq ?_
    refine TC.ret ?_
    subst hF
    exact TN.ret1 rfl (ev_t rfl) (fun w' hw => ⟨rfl, Hp.sublist hw (List.nil_sublist _)⟩)

set_option maxRecDepth 4000 in
set_option maxHeartbeats 1000000 in
theorem laws_eqIntA2S_ok (w : World) (va : Value) (a : List (Int × Int)) (ha : RP w va a) (vb : Value) (b : List (Int × Int)) (hb : RP w vb b)  :
    Calls Try.prog 40 ([va, vb] : List Value).toArray w (Ret (.bool (F_laws_eqIntA2S a b)) (Hp w [])) := by
  obtain ⟨rz, hF⟩ : ∃ rz, (F_laws_eqIntA2S a b) = rz := ⟨_, rfl⟩
  rw [hF]
  unfold F_laws_eqIntA2S at hF
  have hlen_a := argP_len ha
  have hlen_b := argP_len hb
  refine calls_tc Try.func40 rfl rfl rfl ?_
  change TC _ _ _ _ (Hp w []) [(0, va), (1, vb)]
  refine TC.seq ?_
  refine TC.region ?_
  refine TL.op (yq (y_assign ev_c)) rfl rfl rfl ?_
  refine TL.nil ?_
  refine TN.seq ?_
  refine TC.seq ?_
  refine TC.seq ?_
  refine TC.region ?_
  refine TL.op (yq (y_move (ev_t rfl))) rfl rfl rfl ?_
  refine TL.op (yq (y_len (ev_t rfl) Try.underlying37 (fun w hw => ((rp_arg ha) w hw).ln))) rfl rfl rfl ?_
  refine TL.op (yq (y_move (ev_t rfl))) rfl rfl rfl ?_
  refine TL.op (yq (y_len (ev_t rfl) Try.underlying37 (fun w hw => ((rp_arg hb) w hw).ln))) rfl rfl rfl ?_
  refine TL.op (yq (y_neq (ev_t rfl) (ev_t rfl))) rfl rfl rfl ?_
  refine TL.nil ?_
  refine TN.seq ?_
  refine TC.cond (b := !decide ((a.length : Int) = (b.length : Int))) (ev_t rfl) (fun h15 => ?_) (fun h15 => ?_)
  · rw [bif_pos h15] at hF
    have q16 := (of_decide_eq_false (not_t h15))
    refine TC.seq ?_
    refine TC.region ?_
    refine TL.op (yq (y_assign ev_c)) rfl rfl rfl ?_
    refine TL.nil ?_
    refine TN.seq ?_
    refine TC.ret ?_
    refine TN.thenR ?_
    subst hF
    exact TN.ret1 rfl (ev_t rfl) (fun w' hw => ⟨rfl, hw⟩)
  · rw [bif_neg h15] at hF
    have q16 := (of_decide_eq_true (not_f h15))
    refine TC.skip ?_
    refine TN.seq ?_
    refine TC.seq ?_
    refine TC.seq ?_
    refine TC.region ?_
    refine TL.op (yq (y_assign ev_c)) rfl rfl rfl ?_
    refine TL.nil ?_
    refine TN.seq ?_
    refine TC.block ?_
    obtain ⟨c17, hc18⟩ : ∃ c, F_laws_eqIntA2S_L1 a b ((a.length - 0) + 1) 0 = c := ⟨_, rfl⟩
    rw [hc18] at hF
    refine TC.loop (ι := Nat × Nat) (fun (fu1, i1) => [(0, va), (1, vb), (5, (.int .i64 (i1 : Int)))]) (fun (fu1, i1) => Hp w []) (fun (fu1, i1) => (i1 ≤ a.length) ∧ a.length - i1 < fu1 ∧ F_laws_eqIntA2S_L1 a b fu1 i1 = c17) (fun (fu1, i1) => fu1) ((a.length - 0) + 1, 0) ⟨(by first | omega | (simp [-List.getD_eq_getElem?_getD] <;> omega)), (by omega), hc18⟩ ⟨rfl, rfl, rfl, trivial⟩ (fun w hw => hw) ?_
    rintro ⟨fu1, i1⟩ hJ1
    obtain ⟨hi1_0, hmu1, hL1⟩ : (i1 ≤ a.length) ∧ a.length - i1 < fu1 ∧ F_laws_eqIntA2S_L1 a b fu1 i1 = c17 := hJ1
    change TC _ _ _ _ (Hp w []) [(0, va), (1, vb), (5, (.int .i64 (i1 : Int)))]
    obtain ⟨mf1, rfl⟩ : ∃ m, fu1 = m + 1 := ⟨fu1 - 1, by omega⟩
    rw [F_laws_eqIntA2S_L1_s] at hL1
    refine TC.seq ?_
    refine TC.seq ?_
    refine TC.region ?_
    refine TL.op (yq (y_move (ev_t rfl))) rfl rfl rfl ?_
    refine TL.op (yq (y_move (ev_t rfl))) rfl rfl rfl ?_
    refine TL.op (yq (y_len (ev_t rfl) Try.underlying37 (fun w hw => ((rp_arg ha) w hw).ln))) rfl rfl rfl ?_
    refine TL.op (yq (y_lss (ev_t rfl) (ev_t rfl))) rfl rfl rfl ?_
    refine TL.nil ?_
    refine TN.seq ?_
    refine TC.cond (b := decide ((i1 : Int) < (a.length : Int))) (ev_t rfl) (fun h19 => ?_) (fun h19 => ?_)
    · rw [bif_pos h19] at hL1
      have q20 := (of_decide_eq_true h19)
      refine TC.skip ?_
      refine TN.seq ?_
      refine TC.seq ?_
      refine TC.block ?_
      refine TC.seq ?_
      refine TC.regionQ (by kernel_rfl) (by kernel_rfl) dr_hp ?_
      refine TQ.op (yq (y_move (ev_t rfl))) rfl rfl rfl ?_
      refine TQ.op (yq (y_move (ev_t rfl))) rfl rfl rfl ?_
      have hb21 : i1 < a.length := (by first | omega | (simp only [List.length_set, List.length_append, List.length_cons, List.length_nil, List.length_replicate]; omega) | (rw [sortI_length]; simp only [List.length_cons, List.length_nil]; omega))
      refine TQ.op (yq (y_idx (k := i1) (ev_t rfl) (ev_t rfl) (by first | omega | simp) slT_37 (rp_arg ha) hb21)) rfl rfl rfl ?_
      refine TQ.op (yq (y_ldpr (ev_t rfl) arT_85 (rp_arg ha) hb21)) rfl rfl rfl ?_
      refine TQ.op (yq (y_move (ev_t rfl))) rfl rfl rfl ?_
      refine TQ.op (yq (y_move (ev_t rfl))) rfl rfl rfl ?_
      have hb22 : i1 < b.length := (by first | omega | (simp only [List.length_set, List.length_append, List.length_cons, List.length_nil, List.length_replicate]; omega) | (rw [sortI_length]; simp only [List.length_cons, List.length_nil]; omega))
      refine TQ.op (yq (y_idx (k := i1) (ev_t rfl) (ev_t rfl) (by first | omega | simp) slT_37 (rp_arg hb) hb22)) rfl rfl rfl ?_
      refine TQ.op (yq (y_ldpr (ev_t rfl) arT_85 (rp_arg hb) hb22)) rfl rfl rfl ?_
      refine TQ.op (y_call (vs := [(.agg #[(.int .i64 ((a.getD i1 (0, 0)).1)), (.int .i64 ((a.getD i1 (0, 0)).2))]), (.agg #[(.int .i64 ((b.getD i1 (0, 0)).1)), (.int .i64 ((b.getD i1 (0, 0)).2))])]) (v := (.bool (F_laws_eqIntA2 (a.getD i1 (0, 0)) (b.getD i1 (0, 0))))) en_93 ⟨(ev_t rfl), (ev_t rfl), trivial⟩ (fun w hw => laws_eqIntA2_ok w (a.getD i1 (0, 0)) (b.getD i1 (0, 0)))) rfl rfl rfl ?_
      refine TQ.op (yq (y_not (ev_t rfl))) rfl rfl rfl ?_
      refine TQ.nil ?_
      refine TN.seq ?_
      refine TC.cond (b := !(F_laws_eqIntA2 (a.getD i1 (0, 0)) (b.getD i1 (0, 0)))) (ev_t rfl) (fun h23 => ?_) (fun h23 => ?_)
      · rw [bif_pos h23] at hL1
        have q24 := (not_t h23)
        refine TC.seq ?_
        refine TC.region ?_
        refine TL.op (yq (y_assign ev_c)) rfl rfl rfl ?_
        refine TL.nil ?_
        refine TN.seq ?_
        refine TC.ret ?_
        refine TN.blockR ?_
        refine TN.thenR ?_
        refine TN.thenR ?_
        rw [← hL1, elim_ret] at hF
        refine TN.blockR ?_
        refine TN.thenR ?_
        subst hF
        exact TN.ret1 rfl (ev_t rfl) (fun w' hw => ⟨rfl, hw⟩)
      · rw [bif_neg h23] at hL1
        have q24 := (not_f h23)
        refine TC.skip ?_
        refine TN.blockN ?_
        refine TN.seq ?_
        refine TC.region ?_
        refine TL.op (yq (y_move (ev_t rfl))) rfl rfl rfl ?_
        refine TL.op (yq (y_add (ev_t rfl) ev_c (by unfold In64; constructor <;> omega))) rfl rfl rfl ?_
        refine TL.op (yq (y_assign (ev_t rfl))) rfl rfl rfl ?_
        refine TL.nil ?_
        exact TN.hand (mf1, (i1 + 1)) ⟨(by first | omega | (simp [-List.getD_eq_getElem?_getD] <;> omega)), (by omega), hL1⟩ (Nat.lt_succ_self _) ⟨rfl, rfl, rfl, trivial⟩ (fun w hw => hw)
    · rw [bif_neg h19] at hL1
      have q20 := (of_decide_eq_false h19)
      refine TC.exit ?_
      refine TN.thenE ?_
      refine TN.thenE ?_
      rw [← hL1, elim_next] at hF
      try dsimp only at hF
      refine TN.blockH ?_
      refine TN.seq ?_
      refine TC.seq ?_
      refine TC.region ?_
      refine TL.op (yq (y_assign ev_c)) rfl rfl rfl ?_
      refine TL.nil ?_
      refine TN.seq ?_
      refine TC.ret ?_
      subst hF
      exact TN.ret1 rfl (ev_t rfl) (fun w' hw => ⟨rfl, hw⟩)

set_option maxRecDepth 4000 in
set_option maxHeartbeats 1000000 in
theorem laws_markIntA2S_ok (w0 w : World) (fr : List Ck) (va : Value) (a : List (Int × Int)) (hw : Hp w0 (rowP 85 va a :: fr) w) (k : Int) (hp0 : 0 ≤ k) (hp1 : a.length ≤ 1000) (hp2 : k ≤ 1000000) :
    Calls Try.prog 43 ([va, (.int .i64 k)] : List Value).toArray w (fun e w' => ∃ _i : Unit, e = .returned (.int .i64 ((F_laws_markIntA2S a k).1)) ∧ Hp w0 (rowP 85 va ((F_laws_markIntA2S a k).2) :: fr) w') := by
  obtain ⟨rz, hF⟩ : ∃ rz, (F_laws_markIntA2S a k) = rz := ⟨_, rfl⟩
  rw [hF]
  unfold F_laws_markIntA2S at hF
  have hlen_a : a.length ≤ 9223372036854775807 := (hw.get 0 rfl).maxn
  refine calls_tcm Try.func43 rfl rfl rfl hw ?_
  change TC _ _ _ _ (Hp w0 ([rowP 85 va a] ++ fr)) [(0, va), (1, (.int .i64 k))]
  refine TC.seq ?_
  refine TC.region ?_
  refine TL.op (yq (y_assign ev_c)) rfl rfl rfl ?_
  refine TL.nil ?_
  refine TN.seq ?_
  refine TC.seq ?_
  refine TC.seq ?_
  refine TC.region ?_
  refine TL.op (yq (y_assign ev_c)) rfl rfl rfl ?_
  refine TL.nil ?_
  refine TN.seq ?_
  refine TC.block ?_
  obtain ⟨c22, hc23⟩ : ∃ c, F_laws_markIntA2S_L1  ((a.length - 0) + 1) (k, 0, a) = c := ⟨_, rfl⟩
  rw [hc23] at hF
  refine TC.loop (ι := Nat × Int × Nat × List (Int × Int)) (fun (fu1, k1, i1, a1) => [(0, va), (1, (.int .i64 k1)), (5, (.int .i64 (i1 : Int)))]) (fun (fu1, k1, i1, a1) => Hp w0 ([rowP 85 va a1] ++ fr)) (fun (fu1, k1, i1, a1) => (a1.length = a.length) ∧ (i1 ≤ a.length) ∧ (k1 = k + 2 * i1) ∧ a.length - i1 < fu1 ∧ F_laws_markIntA2S_L1  fu1 (k1, i1, a1) = c22) (fun (fu1, k1, i1, a1) => fu1) ((a.length - 0) + 1, k, 0, a) ⟨(by first | omega | (simp [-List.getD_eq_getElem?_getD] <;> omega)), (by first | omega | (simp [-List.getD_eq_getElem?_getD] <;> omega)), (by first | omega | (simp [-List.getD_eq_getElem?_getD] <;> omega)), (by omega), hc23⟩ ⟨rfl, rfl, rfl, trivial⟩ (fun w hw => hw) ?_
  rintro ⟨fu1, k1, i1, a1⟩ hJ1
  obtain ⟨hi1_0, hi1_1, hi1_2, hmu1, hL1⟩ : (a1.length = a.length) ∧ (i1 ≤ a.length) ∧ (k1 = k + 2 * i1) ∧ a.length - i1 < fu1 ∧ F_laws_markIntA2S_L1  fu1 (k1, i1, a1) = c22 := hJ1
  change TC _ _ _ _ (Hp w0 ([rowP 85 va a1] ++ fr)) [(0, va), (1, (.int .i64 k1)), (5, (.int .i64 (i1 : Int)))]
  obtain ⟨mf1, rfl⟩ : ∃ m, fu1 = m + 1 := ⟨fu1 - 1, by omega⟩
  rw [F_laws_markIntA2S_L1_s] at hL1
  refine TC.seq ?_
  refine TC.seq ?_
  refine TC.region ?_
  refine TL.op (yq (y_move (ev_t rfl))) rfl rfl rfl ?_
  refine TL.op (yq (y_move (ev_t rfl))) rfl rfl rfl ?_
  refine TL.op (yq (y_len (ev_t rfl) Try.underlying37 (fun w hw => ((rp_row 0 rfl) w hw).ln))) rfl rfl rfl ?_
  refine TL.op (yq (y_lss (ev_t rfl) (ev_t rfl))) rfl rfl rfl ?_
  refine TL.nil ?_
  refine TN.seq ?_
  refine TC.cond (b := decide ((i1 : Int) < (a1.length : Int))) (ev_t rfl) (fun h24 => ?_) (fun h24 => ?_)
  · rw [bif_pos h24] at hL1
    have q25 := (of_decide_eq_true h24)
    refine TC.skip ?_
    refine TN.seq ?_
    refine TC.seq ?_
    refine TC.block ?_
    refine TC.seq ?_
    refine TC.region ?_
    refine TL.op (yq (y_assign ev_c)) rfl rfl rfl ?_
    refine TL.nil ?_
    refine TN.seq ?_
    refine TC.block ?_
    obtain ⟨c26, hc27⟩ : ∃ c, F_laws_markIntA2S_L2 i1 ((2 - 0) + 1) (k1, 0, a1) = c := ⟨_, rfl⟩
    rw [hc27] at hL1
    refine TC.loop (ι := Nat × Int × Nat × List (Int × Int)) (fun (fu2, k2, j2, a2) => [(0, va), (1, (.int .i64 k2)), (5, (.int .i64 (i1 : Int))), (6, (.int .i64 (j2 : Int)))]) (fun (fu2, k2, j2, a2) => Hp w0 ([rowP 85 va a2] ++ fr)) (fun (fu2, k2, j2, a2) => (j2 ≤ 2) ∧ (a2.length = a.length) ∧ (k2 = k1 + j2) ∧ (j2 ≤ 2) ∧ 2 - j2 < fu2 ∧ F_laws_markIntA2S_L2 i1 fu2 (k2, j2, a2) = c26) (fun (fu2, k2, j2, a2) => fu2) ((2 - 0) + 1, k1, 0, a1) ⟨(by first | omega | (simp [-List.getD_eq_getElem?_getD] <;> omega)), (by first | omega | (simp [-List.getD_eq_getElem?_getD] <;> omega)), (by first | omega | (simp [-List.getD_eq_getElem?_getD] <;> omega)), (by first | omega | (simp [-List.getD_eq_getElem?_getD] <;> omega)), (by omega), hc27⟩ ⟨rfl, rfl, rfl, rfl, trivial⟩ (fun w hw => hw) ?_
    rintro ⟨fu2, k2, j2, a2⟩ hJ2
    obtain ⟨hi2_0, hi2_1, hi2_2, hi2_3, hmu2, hL2⟩ : (j2 ≤ 2) ∧ (a2.length = a.length) ∧ (k2 = k1 + j2) ∧ (j2 ≤ 2) ∧ 2 - j2 < fu2 ∧ F_laws_markIntA2S_L2 i1 fu2 (k2, j2, a2) = c26 := hJ2
    change TC _ _ _ _ (Hp w0 ([rowP 85 va a2] ++ fr)) [(0, va), (1, (.int .i64 k2)), (5, (.int .i64 (i1 : Int))), (6, (.int .i64 (j2 : Int)))]
    obtain ⟨mf2, rfl⟩ : ∃ m, fu2 = m + 1 := ⟨fu2 - 1, by omega⟩
    rw [F_laws_markIntA2S_L2_s] at hL2
    refine TC.seq ?_
    refine TC.seq ?_
    refine TC.region ?_
    refine TL.op (yq (y_move (ev_t rfl))) rfl rfl rfl ?_
    refine TL.op (yq (y_lss (ev_t rfl) ev_c)) rfl rfl rfl ?_
    refine TL.nil ?_
    refine TN.seq ?_
    refine TC.cond (b := decide ((j2 : Int) < 2)) (ev_t rfl) (fun h28 => ?_) (fun h28 => ?_)
    · rw [bif_pos h28] at hL2
      have q29 := (of_decide_eq_true h28)
      refine TC.skip ?_
      refine TN.seq ?_
      refine TC.seq ?_
      refine TC.block ?_
      refine TC.seq ?_
      refine TC.region ?_
      refine TL.op (yq (y_move (ev_t rfl))) rfl rfl rfl ?_
      refine TL.op (yq (y_move (ev_t rfl))) rfl rfl rfl ?_
      refine TL.op (yq (y_move (ev_t rfl))) rfl rfl rfl ?_
      refine TL.op (yq (y_move (ev_t rfl))) rfl rfl rfl ?_
      have hb30 : i1 < a2.length := (by first | omega | (simp only [List.length_set, List.length_append, List.length_cons, List.length_nil, List.length_replicate]; omega) | (rw [sortI_length]; simp only [List.length_cons, List.length_nil]; omega))
      refine TL.op (yq (y_idx (k := i1) (ev_t rfl) (ev_t rfl) (by first | omega | simp) slT_37 (rp_row 0 rfl) hb30)) rfl rfl rfl ?_
      refine TL.op (yq (y_ixa (c := j2) (ev_t rfl) (ev_t rfl) (by first | rfl | omega) arT_85 (rp_row 0 rfl) hb30 (by omega))) rfl rfl rfl ?_
      refine TL.storePk 0 (c := j2) (ev_t rfl) (ev_t rfl) one_3 rfl hb30 (by omega) ?_
      refine TL.nil ?_
      refine TN.seq ?_
      refine TC.region ?_
      refine TL.op (yq (y_move (ev_t rfl))) rfl rfl rfl ?_
      refine TL.op (yq (y_add (ev_t rfl) ev_c (by unfold In64; constructor <;> omega))) rfl rfl rfl ?_
      refine TL.op (yq (y_assign (ev_t rfl))) rfl rfl rfl ?_
      refine TL.nil ?_
      refine TN.blockN ?_
      refine TN.seq ?_
      refine TC.region ?_
      refine TL.op (yq (y_move (ev_t rfl))) rfl rfl rfl ?_
      refine TL.op (yq (y_add (ev_t rfl) ev_c (by unfold In64; constructor <;> omega))) rfl rfl rfl ?_
      refine TL.op (yq (y_assign (ev_t rfl))) rfl rfl rfl ?_
      refine TL.nil ?_
      exact TN.hand (mf2, k2 + 1, (j2 + 1), (a2.set i1 (pset (a2.getD i1 (0, 0)) j2 k2))) ⟨(by first | omega | (simp [-List.getD_eq_getElem?_getD] <;> omega)), (by first | omega | (simp [-List.getD_eq_getElem?_getD] <;> omega)), (by first | omega | (simp [-List.getD_eq_getElem?_getD] <;> omega)), (by first | omega | (simp [-List.getD_eq_getElem?_getD] <;> omega)), (by omega), hL2⟩ (Nat.lt_succ_self _) ⟨rfl, rfl, rfl, rfl, trivial⟩ (fun w hw => hw)
    · rw [bif_neg h28] at hL2
      have q29 := (of_decide_eq_false h28)
      refine TC.exit ?_
      refine TN.thenE ?_
      refine TN.thenE ?_
      rw [← hL2, elim_next] at hL1
      try dsimp only at hL1
      refine TN.blockH ?_
      refine TN.blockN ?_
      refine TN.seq ?_
      refine TC.region ?_
      refine TL.op (yq (y_move (ev_t rfl))) rfl rfl rfl ?_
      refine TL.op (yq (y_add (ev_t rfl) ev_c (by unfold In64; constructor <;> omega))) rfl rfl rfl ?_
      refine TL.op (yq (y_assign (ev_t rfl))) rfl rfl rfl ?_
      refine TL.nil ?_
      exact TN.hand (mf1, k2, (i1 + 1), a2) ⟨(by first | omega | (simp [-List.getD_eq_getElem?_getD] <;> omega)), (by first | omega | (simp [-List.getD_eq_getElem?_getD] <;> omega)), (by first | omega | (simp [-List.getD_eq_getElem?_getD] <;> omega)), (by omega), hL1⟩ (Nat.lt_succ_self _) ⟨rfl, rfl, rfl, trivial⟩ (fun w hw => hw)
  · rw [bif_neg h24] at hL1
    have q25 := (of_decide_eq_false h24)
    refine TC.exit ?_
    refine TN.thenE ?_
    refine TN.thenE ?_
    rw [← hL1, elim_next] at hF
    try dsimp only at hF
    refine TN.blockH ?_
    refine TN.seq ?_
    refine TC.seq ?_
    refine TC.region ?_
    refine TL.op (yq (y_move (ev_t rfl))) rfl rfl rfl ?_
    refine TL.op (yq (y_assign (ev_t rfl))) rfl rfl rfl ?_
    refine TL.nil ?_
    refine TN.seq ?_
    refine TC.ret ?_
    subst hF
    exact TN.ret1 rfl (ev_t rfl) (fun w' hw => ⟨(), rfl, hw⟩)

set_option maxRecDepth 4000 in
set_option maxHeartbeats 1000000 in
theorem laws_heldIntA2S_ok (w : World) (va : Value) (a : List (Int × Int)) (ha : RP w va a) (k : Int) (hp0 : 0 ≤ k) (hp1 : a.length ≤ 1000) (hp2 : k ≤ 1000000) :
    Calls Try.prog 44 ([va, (.int .i64 k)] : List Value).toArray w (Ret (.int .i64 (F_laws_heldIntA2S a k)) (Hp w [])) := by
  obtain ⟨rz, hF⟩ : ∃ rz, (F_laws_heldIntA2S a k) = rz := ⟨_, rfl⟩
  rw [hF]
  unfold F_laws_heldIntA2S at hF
  have hlen_a := argP_len ha
  refine calls_tc Try.func44 rfl rfl rfl ?_
  change TC _ _ _ _ (Hp w []) [(0, va), (1, (.int .i64 k))]
  refine TC.seq ?_
  refine TC.region ?_
  refine TL.op (yq (y_assign ev_c)) rfl rfl rfl ?_
  refine TL.nil ?_
  refine TN.seq ?_
  refine TC.seq ?_
  refine TC.seq ?_
  refine TC.region ?_
  refine TL.op (yq (y_assign ev_c)) rfl rfl rfl ?_
  refine TL.nil ?_
  refine TN.seq ?_
  refine TC.block ?_
  obtain ⟨c20, hc21⟩ : ∃ c, F_laws_heldIntA2S_L1 a ((a.length - 0) + 1) (k, 0) = c := ⟨_, rfl⟩
  rw [hc21] at hF
  refine TC.loop (ι := Nat × Int × Nat) (fun (fu1, k1, i1) => [(0, va), (1, (.int .i64 k1)), (5, (.int .i64 (i1 : Int)))]) (fun (fu1, k1, i1) => Hp w []) (fun (fu1, k1, i1) => (i1 ≤ a.length) ∧ (k1 = k + 2 * i1) ∧ a.length - i1 < fu1 ∧ F_laws_heldIntA2S_L1 a fu1 (k1, i1) = c20) (fun (fu1, k1, i1) => fu1) ((a.length - 0) + 1, k, 0) ⟨(by first | omega | (simp [-List.getD_eq_getElem?_getD] <;> omega)), (by first | omega | (simp [-List.getD_eq_getElem?_getD] <;> omega)), (by omega), hc21⟩ ⟨rfl, rfl, rfl, trivial⟩ (fun w hw => hw) ?_
  rintro ⟨fu1, k1, i1⟩ hJ1
  obtain ⟨hi1_0, hi1_1, hmu1, hL1⟩ : (i1 ≤ a.length) ∧ (k1 = k + 2 * i1) ∧ a.length - i1 < fu1 ∧ F_laws_heldIntA2S_L1 a fu1 (k1, i1) = c20 := hJ1
  change TC _ _ _ _ (Hp w []) [(0, va), (1, (.int .i64 k1)), (5, (.int .i64 (i1 : Int)))]
  obtain ⟨mf1, rfl⟩ : ∃ m, fu1 = m + 1 := ⟨fu1 - 1, by omega⟩
  rw [F_laws_heldIntA2S_L1_s] at hL1
  refine TC.seq ?_
  refine TC.seq ?_
  refine TC.region ?_
  refine TL.op (yq (y_move (ev_t rfl))) rfl rfl rfl ?_
  refine TL.op (yq (y_move (ev_t rfl))) rfl rfl rfl ?_
  refine TL.op (yq (y_len (ev_t rfl) Try.underlying37 (fun w hw => ((rp_arg ha) w hw).ln))) rfl rfl rfl ?_
  refine TL.op (yq (y_lss (ev_t rfl) (ev_t rfl))) rfl rfl rfl ?_
  refine TL.nil ?_
  refine TN.seq ?_
  refine TC.cond (b := decide ((i1 : Int) < (a.length : Int))) (ev_t rfl) (fun h22 => ?_) (fun h22 => ?_)
  · rw [bif_pos h22] at hL1
    have q23 := (of_decide_eq_true h22)
    refine TC.skip ?_
    refine TN.seq ?_
    refine TC.seq ?_
    refine TC.block ?_
    refine TC.seq ?_
    refine TC.region ?_
    refine TL.op (yq (y_assign ev_c)) rfl rfl rfl ?_
    refine TL.nil ?_
    refine TN.seq ?_
    refine TC.block ?_
    obtain ⟨c24, hc25⟩ : ∃ c, F_laws_heldIntA2S_L2 a i1 ((2 - 0) + 1) (k1, 0) = c := ⟨_, rfl⟩
    rw [hc25] at hL1
    refine TC.loop (ι := Nat × Int × Nat) (fun (fu2, k2, j2) => [(0, va), (1, (.int .i64 k2)), (5, (.int .i64 (i1 : Int))), (6, (.int .i64 (j2 : Int)))]) (fun (fu2, k2, j2) => Hp w []) (fun (fu2, k2, j2) => (j2 ≤ 2) ∧ (k2 = k1 + j2) ∧ (j2 ≤ 2) ∧ 2 - j2 < fu2 ∧ F_laws_heldIntA2S_L2 a i1 fu2 (k2, j2) = c24) (fun (fu2, k2, j2) => fu2) ((2 - 0) + 1, k1, 0) ⟨(by first | omega | (simp [-List.getD_eq_getElem?_getD] <;> omega)), (by first | omega | (simp [-List.getD_eq_getElem?_getD] <;> omega)), (by first | omega | (simp [-List.getD_eq_getElem?_getD] <;> omega)), (by omega), hc25⟩ ⟨rfl, rfl, rfl, rfl, trivial⟩ (fun w hw => hw) ?_
    rintro ⟨fu2, k2, j2⟩ hJ2
    obtain ⟨hi2_0, hi2_1, hi2_2, hmu2, hL2⟩ : (j2 ≤ 2) ∧ (k2 = k1 + j2) ∧ (j2 ≤ 2) ∧ 2 - j2 < fu2 ∧ F_laws_heldIntA2S_L2 a i1 fu2 (k2, j2) = c24 := hJ2
    change TC _ _ _ _ (Hp w []) [(0, va), (1, (.int .i64 k2)), (5, (.int .i64 (i1 : Int))), (6, (.int .i64 (j2 : Int)))]
    obtain ⟨mf2, rfl⟩ : ∃ m, fu2 = m + 1 := ⟨fu2 - 1, by omega⟩
    rw [F_laws_heldIntA2S_L2_s] at hL2
    refine TC.seq ?_
    refine TC.seq ?_
    refine TC.region ?_
    refine TL.op (yq (y_move (ev_t rfl))) rfl rfl rfl ?_
    refine TL.op (yq (y_lss (ev_t rfl) ev_c)) rfl rfl rfl ?_
    refine TL.nil ?_
    refine TN.seq ?_
    refine TC.cond (b := decide ((j2 : Int) < 2)) (ev_t rfl) (fun h26 => ?_) (fun h26 => ?_)
    · rw [bif_pos h26] at hL2
      have q27 := (of_decide_eq_true h26)
      refine TC.skip ?_
      refine TN.seq ?_
      refine TC.seq ?_
      refine TC.block ?_
      refine TC.seq ?_
      refine TC.seq ?_
      refine TC.region ?_
      refine TL.op (yq (y_move (ev_t rfl))) rfl rfl rfl ?_
      refine TL.op (yq (y_move (ev_t rfl))) rfl rfl rfl ?_
      refine TL.op (yq (y_move (ev_t rfl))) rfl rfl rfl ?_
      have hb28 : i1 < a.length := (by first | omega | (simp only [List.length_set, List.length_append, List.length_cons, List.length_nil, List.length_replicate]; omega) | (rw [sortI_length]; simp only [List.length_cons, List.length_nil]; omega))
      refine TL.op (yq (y_idx (k := i1) (ev_t rfl) (ev_t rfl) (by first | omega | simp) slT_37 (rp_arg ha) hb28)) rfl rfl rfl ?_
      refine TL.op (yq (y_ixa (c := j2) (ev_t rfl) (ev_t rfl) (by first | rfl | omega) arT_85 (rp_arg ha) hb28 (by omega))) rfl rfl rfl ?_
      refine TL.op (yq (y_ldpk (c := j2) (ev_t rfl) one_3 (rp_arg ha) hb28 (by omega))) rfl rfl rfl ?_
      refine TL.op (yq (y_move (ev_t rfl))) rfl rfl rfl ?_
      refine TL.op (yq (y_neq (ev_t rfl) (ev_t rfl))) rfl rfl rfl ?_
      refine TL.nil ?_
      refine TN.seq ?_
      refine TC.cond (b := !decide ((pk (a.getD i1 (0, 0)).1 (a.getD i1 (0, 0)).2 j2) = k2)) (ev_t rfl) (fun h29 => ?_) (fun h29 => ?_)
      · rw [bif_pos h29] at hL2
        have q30 := (of_decide_eq_false (not_t h29))
        refine TC.seq ?_
        refine TC.region ?_
        refine TL.op (yq (y_assign ev_c)) rfl rfl rfl ?_
        refine TL.nil ?_
        refine TN.seq ?_
        refine TC.ret ?_
        refine TN.thenR ?_
        refine TN.blockR ?_
        refine TN.thenR ?_
        refine TN.thenR ?_
        rw [← hL2, elim_ret] at hL1
        refine TN.blockR ?_
        refine TN.blockR ?_
        refine TN.thenR ?_
        refine TN.thenR ?_
        rw [← hL1, elim_ret] at hF
        refine TN.blockR ?_
        refine TN.thenR ?_
        subst hF
        exact TN.ret1 rfl (ev_t rfl) (fun w' hw => ⟨rfl, hw⟩)
      · rw [bif_neg h29] at hL2
        have q30 := (of_decide_eq_true (not_f h29))
        refine TC.skip ?_
        refine TN.seq ?_
        refine TC.region ?_
        refine TL.op (yq (y_move (ev_t rfl))) rfl rfl rfl ?_
        refine TL.op (yq (y_add (ev_t rfl) ev_c (by unfold In64; constructor <;> omega))) rfl rfl rfl ?_
        refine TL.op (yq (y_assign (ev_t rfl))) rfl rfl rfl ?_
        refine TL.nil ?_
        refine TN.blockN ?_
        refine TN.seq ?_
        refine TC.region ?_
        refine TL.op (yq (y_move (ev_t rfl))) rfl rfl rfl ?_
        refine TL.op (yq (y_add (ev_t rfl) ev_c (by unfold In64; constructor <;> omega))) rfl rfl rfl ?_
        refine TL.op (yq (y_assign (ev_t rfl))) rfl rfl rfl ?_
        refine TL.nil ?_
        exact TN.hand (mf2, k2 + 1, (j2 + 1)) ⟨(by first | omega | (simp [-List.getD_eq_getElem?_getD] <;> omega)), (by first | omega | (simp [-List.getD_eq_getElem?_getD] <;> omega)), (by first | omega | (simp [-List.getD_eq_getElem?_getD] <;> omega)), (by omega), hL2⟩ (Nat.lt_succ_self _) ⟨rfl, rfl, rfl, rfl, trivial⟩ (fun w hw => hw)
    · rw [bif_neg h26] at hL2
      have q27 := (of_decide_eq_false h26)
      refine TC.exit ?_
      refine TN.thenE ?_
      refine TN.thenE ?_
      rw [← hL2, elim_next] at hL1
      try dsimp only at hL1
      refine TN.blockH ?_
      refine TN.blockN ?_
      refine TN.seq ?_
      refine TC.region ?_
      refine TL.op (yq (y_move (ev_t rfl))) rfl rfl rfl ?_
      refine TL.op (yq (y_add (ev_t rfl) ev_c (by unfold In64; constructor <;> omega))) rfl rfl rfl ?_
      refine TL.op (yq (y_assign (ev_t rfl))) rfl rfl rfl ?_
      refine TL.nil ?_
      exact TN.hand (mf1, k2, (i1 + 1)) ⟨(by first | omega | (simp [-List.getD_eq_getElem?_getD] <;> omega)), (by first | omega | (simp [-List.getD_eq_getElem?_getD] <;> omega)), (by omega), hL1⟩ (Nat.lt_succ_self _) ⟨rfl, rfl, rfl, trivial⟩ (fun w hw => hw)
  · rw [bif_neg h22] at hL1
    have q23 := (of_decide_eq_false h22)
    refine TC.exit ?_
    refine TN.thenE ?_
    refine TN.thenE ?_
    rw [← hL1, elim_next] at hF
    try dsimp only at hF
    refine TN.blockH ?_
    refine TN.seq ?_
    refine TC.seq ?_
    refine TC.region ?_
    refine TL.op (yq (y_move (ev_t rfl))) rfl rfl rfl ?_
    refine TL.op (yq (y_assign (ev_t rfl))) rfl rfl rfl ?_
    refine TL.nil ?_
    refine TN.seq ?_
    refine TC.ret ?_
    subst hF
    exact TN.ret1 rfl (ev_t rfl) (fun w' hw => ⟨rfl, hw⟩)

end Go.Proofs.Ytcmhgkcifejgcaa
namespace Go.Proofs.Ytcmhgkcifejgcaa
set_option linter.unusedVariables false
set_option linter.unusedSimpArgs false
open Go Go.RowKit
set_option linter.unusedVariables false

set_option maxRecDepth 4000 in
set_option maxHeartbeats 1000000 in
theorem slices_IndexFunc_SSint_Sint_ok (w : World) (vs : Value) (us : List Value) (s : List (List Int)) (hs : RII w vs us s) (kf : Nat) (cf : List Value) (f : List Int → Bool) (ef : En Try.prog kf) (hf : ∀ (w' : World) (_ : Below w.heap.size w w') (vx0 : Value) (x0 : List Int) (_ : RI w' vx0 x0), Calls Try.prog kf ([vx0] ++ cf : List Value).toArray w' (Ret (.bool (f x0)) (Hp w' [])))  :
    Calls Try.prog 175 ([vs, (.func (.func kf) #[] cf.toArray)] : List Value).toArray w (Ret (.int .i64 (F_slices_IndexFunc_SSint_Sint s f)) (Hp w [])) := by
  obtain ⟨rz, hF⟩ : ∃ rz, (F_slices_IndexFunc_SSint_Sint s f) = rz := ⟨_, rfl⟩
  rw [hF]
  unfold F_slices_IndexFunc_SSint_Sint at hF
  have hlen_s := argT_len hs
  refine calls_tc Try.func175 rfl rfl rfl ?_
  change TC _ _ _ _ (Hp w []) [(0, vs), (1, (.func (.func kf) #[] cf.toArray))]
  refine TC.seq ?_
  refine TC.region ?_
  refine TL.op (yq (y_assign ev_c)) rfl rfl rfl ?_
  refine TL.nil ?_
  refine TN.seq ?_
  refine TC.seq ?_
  refine TC.seq ?_
  refine TC.region ?_
  refine TL.op (yq (y_move (ev_t rfl))) rfl rfl rfl ?_
  refine TL.op (yq (y_len (ev_t rfl) Try.underlying49 (fun w hw => ((fun w hw => ((rii_arg hs) w hw).1) w hw).ln))) rfl rfl rfl ?_
  refine TL.op (yq (y_move ev_c)) rfl rfl rfl ?_
  refine TL.nil ?_
  refine TN.seq ?_
  refine TC.block ?_
  obtain ⟨c13, hc14⟩ : ∃ c, F_slices_IndexFunc_SSint_Sint_L1 s f ((s.length - 0) + 1) 0 = c := ⟨_, rfl⟩
  rw [hc14] at hF
  refine TC.loop (ι := Nat × Nat) (fun (fu1, k8_1) => [(0, vs), (1, (.func (.func kf) #[] cf.toArray)), (7, (.int .i64 (s.length : Int))), (8, (.int .i64 (k8_1 : Int)))]) (fun (fu1, k8_1) => Hp w []) (fun (fu1, k8_1) => (k8_1 ≤ s.length) ∧ s.length - k8_1 < fu1 ∧ F_slices_IndexFunc_SSint_Sint_L1 s f fu1 k8_1 = c13) (fun (fu1, k8_1) => fu1) ((s.length - 0) + 1, 0) ⟨(by first | omega | (simp [-List.getD_eq_getElem?_getD] <;> omega)), (by omega), hc14⟩ ⟨rfl, rfl, rfl, rfl, trivial⟩ (fun w hw => hw) ?_
  rintro ⟨fu1, k8_1⟩ hJ1
  obtain ⟨hi1_0, hmu1, hL1⟩ : (k8_1 ≤ s.length) ∧ s.length - k8_1 < fu1 ∧ F_slices_IndexFunc_SSint_Sint_L1 s f fu1 k8_1 = c13 := hJ1
  change TC _ _ _ _ (Hp w []) [(0, vs), (1, (.func (.func kf) #[] cf.toArray)), (7, (.int .i64 (s.length : Int))), (8, (.int .i64 (k8_1 : Int)))]
  obtain ⟨mf1, rfl⟩ : ∃ m, fu1 = m + 1 := ⟨fu1 - 1, by omega⟩
  rw [F_slices_IndexFunc_SSint_Sint_L1_s] at hL1
  refine TC.seq ?_
  refine TC.region ?_
  refine TL.op (yq (y_lss (ev_t rfl) (ev_t rfl))) rfl rfl rfl ?_
  refine TL.nil ?_
  refine TN.seq ?_
  refine TC.seq ?_
  refine TC.cond (b := decide ((k8_1 : Int) < (s.length : Int))) (ev_t rfl) (fun h15 => ?_) (fun h15 => ?_)
  · rw [bif_pos h15] at hL1
    have q16 := (of_decide_eq_true h15)
    refine TC.skip ?_
    refine TN.seq ?_
    refine TC.seq ?_
    refine TC.block ?_
    refine TC.seq ?_
    refine TC.region ?_
    refine TL.op (yq (y_move (ev_t rfl))) rfl rfl rfl ?_
    refine TL.op (yq (y_assign (ev_t rfl))) rfl rfl rfl ?_
    refine TL.nil ?_
    refine TN.seq ?_
    refine TC.seq ?_
    refine TC.region ?_
    refine TL.op (yq (y_move (ev_t rfl))) rfl rfl rfl ?_
    refine TL.op (yq (y_move (ev_t rfl))) rfl rfl rfl ?_
    refine TL.op (yq (y_move (ev_t rfl))) rfl rfl rfl ?_
    have hb17 : k8_1 < s.length := (by first | omega | (simp only [List.length_set, List.length_append, List.length_cons, List.length_nil, List.length_replicate]; omega) | (rw [sortI_length]; simp only [List.length_cons, List.length_nil]; omega))
    refine TL.op (yq (y_idx (k := k8_1) (ev_t rfl) (ev_t rfl) (by first | omega | simp) slT_49 (fun w hw => ((rii_arg hs) w hw).1) hb17)) rfl rfl rfl ?_
    have ha18 := hs.row (i := k8_1) hb17
    refine TL.op (yq (y_ldA (ev_t rfl) one_34 (rii_arg hs) hb17)) rfl rfl rfl ?_
    refine TL.op (y_callv (vs := [(us.getD k8_1 undef)]) (v := (.bool (f (s.getD k8_1 [])))) ef (ev_t rfl) ⟨(ev_t rfl), trivial⟩ (fun w hw => hf w hw.1 (us.getD k8_1 undef) (s.getD k8_1 []) ((ri_arg ha18) w hw))) rfl rfl rfl ?_
    refine TL.nil ?_
    refine TN.seq ?_
    refine TC.cond (b := (f (s.getD k8_1 []))) (ev_t rfl) (fun h19 => ?_) (fun h19 => ?_)
    · rw [bif_pos h19] at hL1
      have q20 := h19
      refine TC.seq ?_
      refine TC.region ?_
      refine TL.op (yq (y_move (ev_t rfl))) rfl rfl rfl ?_
      refine TL.op (yq (y_assign (ev_t rfl))) rfl rfl rfl ?_
      refine TL.nil ?_
      refine TN.seq ?_
      refine TC.ret ?_
      refine TN.blockR ?_
      refine TN.thenR ?_
      refine TN.thenR ?_
      rw [← hL1, elim_ret] at hF
      refine TN.blockR ?_
      refine TN.thenR ?_
      subst hF
      exact TN.ret1 rfl (ev_t rfl) (fun w' hw => ⟨rfl, hw⟩)
    · rw [bif_neg h19] at hL1
      have q20 := h19
      refine TC.skip ?_
      refine TN.blockN ?_
      refine TN.seq ?_
      refine TC.region ?_
      refine TL.op (yq (y_add (ev_t rfl) ev_c (by unfold In64; constructor <;> omega))) rfl rfl rfl ?_
      refine TL.op (yq (y_move (ev_t rfl))) rfl rfl rfl ?_
      refine TL.nil ?_
      exact TN.hand (mf1, (k8_1 + 1)) ⟨(by first | omega | (simp [-List.getD_eq_getElem?_getD] <;> omega)), (by omega), hL1⟩ (Nat.lt_succ_self _) ⟨rfl, rfl, rfl, rfl, trivial⟩ (fun w hw => hw)
  · rw [bif_neg h15] at hL1
    have q16 := (of_decide_eq_false h15)
    refine TC.exit ?_
    refine TN.thenE ?_
    refine TN.thenE ?_
    rw [← hL1, elim_next] at hF
    try dsimp only at hF
    refine TN.blockH ?_
    refine TN.seq ?_
    refine TC.seq ?_
    refine TC.region ?_
    refine TL.op (yq (y_assign ev_c)) rfl rfl rfl ?_
    refine TL.nil ?_
    refine TN.seq ?_
    refine TC.ret ?_
    subst hF
    exact TN.ret1 rfl (ev_t rfl) (fun w' hw => ⟨rfl, hw⟩)

set_option maxRecDepth 4000 in
set_option maxHeartbeats 1000000 in
theorem slices_ContainsFunc_SSint_Sint_ok (w : World) (vs : Value) (us : List Value) (s : List (List Int)) (hs : RII w vs us s) (kf : Nat) (cf : List Value) (f : List Int → Bool) (ef : En Try.prog kf) (hf : ∀ (w' : World) (_ : Below w.heap.size w w') (vx0 : Value) (x0 : List Int) (_ : RI w' vx0 x0), Calls Try.prog kf ([vx0] ++ cf : List Value).toArray w' (Ret (.bool (f x0)) (Hp w' [])))  :
    Calls Try.prog 159 ([vs, (.func (.func kf) #[] cf.toArray)] : List Value).toArray w (Ret (.bool (F_slices_ContainsFunc_SSint_Sint s f)) (Hp w [])) := by
  obtain ⟨rz, hF⟩ : ∃ rz, (F_slices_ContainsFunc_SSint_Sint s f) = rz := ⟨_, rfl⟩
  rw [hF]
  unfold F_slices_ContainsFunc_SSint_Sint at hF
  have hlen_s := argT_len hs
  refine calls_tc Try.func159 rfl rfl rfl ?_
  change TC _ _ _ _ (Hp w []) [(0, vs), (1, (.func (.func kf) #[] cf.toArray))]
  refine TC.seq ?_
  refine TC.region ?_
  refine TL.op (yq (y_assign ev_c)) rfl rfl rfl ?_
  refine TL.nil ?_
  refine TN.seq ?_
  refine TC.seq ?_
  refine TC.region ?_
  refine TL.op (yq (y_move (ev_t rfl))) rfl rfl rfl ?_
  refine TL.op (yq (y_move (ev_t rfl))) rfl rfl rfl ?_
  refine TL.op (y_call (vs := [vs, (.func (.func kf) #[] cf.toArray)]) (v := (.int .i64 (F_slices_IndexFunc_SSint_Sint s f))) en_175 ⟨(ev_t rfl), (ev_t rfl), trivial⟩ (fun w hw => slices_IndexFunc_SSint_Sint_ok w vs us s ((rii_arg hs) w hw) kf cf f ef (fun w2 hb => hf w2 (hw.1.trans (hb.mono hw.1.size))))) rfl rfl rfl ?_
  refine TL.op (yq (y_geq (ev_t rfl) ev_c)) rfl rfl rfl ?_
  refine TL.op (yq (y_assign (ev_t rfl))) rfl rfl rfl ?_
  refine TL.nil ?_
  refine TN.seq ?_
  refine TC.ret ?_
  subst hF
  exact TN.ret1 rfl (ev_t rfl) (fun w' hw => ⟨rfl, hw⟩)

set_option maxRecDepth 4000 in
set_option maxHeartbeats 1000000 in
theorem slices_Clone_Sint_int_ok (w : World) (vs : Value) (s : List Int) (hs : RI w vs s) (hp0 : s.length ≤ 1000000000) :
    Calls Try.prog 150 ([vs] : List Value).toArray w (fun e w' => ∃ i : Value, e = .returned i ∧ Hp w [rowI 3 i (F_slices_Clone_Sint_int s)] w') := by
  obtain ⟨rz, hF⟩ : ∃ rz, (F_slices_Clone_Sint_int s) = rz := ⟨_, rfl⟩
  rw [hF]
  unfold F_slices_Clone_Sint_int at hF
  have hlen_s := arg_len hs
  refine calls_tc Try.func150 rfl rfl rfl ?_
  change TC _ _ _ _ (Hp w []) [(0, vs)]
  refine TC.seq ?_
  refine TC.region ?_
  refine TL.op (yq (y_assign ev_c)) rfl rfl rfl ?_
  refine TL.nil ?_
  refine TN.seq ?_
  refine TC.seq ?_
  refine TC.seq ?_
  refine TC.region ?_
  refine TL.op (yq (y_move (ev_t rfl))) rfl rfl rfl ?_
  refine TL.op (yq (y_isnil (ev_t rfl) ev_c Try.underlying34 (fun w hw => ((ri_arg hs) w hw).ln))) rfl rfl rfl ?_
  refine TL.nil ?_
  refine TN.seq ?_
  refine TC.cond (b := isNilV vs) (ev_t rfl) (fun h3 => ?_) (fun h3 => ?_)
  · have q4 := ri_isnil hs h3
    subst q4
    refine TC.seq ?_
    refine TC.region ?_
    refine TL.op (yq (y_assign ev_c)) rfl rfl rfl ?_
    refine TL.nil ?_
    refine TN.seq ?_
    refine TC.ret ?_
    refine TN.thenR ?_
    subst hF
    refine TN.cls (fun w hw => hw.nil 3 1) ?_
    exact TN.ret1 rfl (ev_t rfl) (fun w' hw => ⟨(.slice none 0 0), rfl, hw⟩)
  · refine TC.skip ?_
    refine TN.seq ?_
    refine TC.seq ?_
    refine TC.region ?_
    refine TL.buildI (zs := []) (qs := []) slT_34 rfl trivial rfl (by decide) rfl (fun v3_0 => ?_)
    refine TL.op (yq (y_move (ev_t rfl))) rfl rfl rfl ?_
    refine TL.appendI 0 (ev_t rfl) (ev_t rfl) rfl slT_34 (ri_arg hs) (by first | omega | (simp [-List.getD_eq_getElem?_getD] <;> omega)) rfl (fun v3_2 => ?_)
    refine TL.op (yq (y_assign (ev_t rfl))) rfl rfl rfl ?_
    refine TL.nil ?_
    refine TN.seq ?_
    refine TC.ret ?_
    subst hF
    exact TN.ret1 rfl (ev_t rfl) (fun w' hw => ⟨v3_2, rfl, hw⟩)

set_option maxRecDepth 4000 in
set_option maxHeartbeats 1000000 in
theorem slices_Index_Sint_int_ok (w : World) (vs : Value) (s : List Int) (hs : RI w vs s) (v : Int)  :
    Calls Try.prog 145 ([vs, (.int .i64 v)] : List Value).toArray w (Ret (.int .i64 (F_slices_Index_Sint_int s v)) (Hp w [])) := by
  obtain ⟨rz, hF⟩ : ∃ rz, (F_slices_Index_Sint_int s v) = rz := ⟨_, rfl⟩
  rw [hF]
  unfold F_slices_Index_Sint_int at hF
  have hlen_s := arg_len hs
  refine calls_tc Try.func145 rfl rfl rfl ?_
  change TC _ _ _ _ (Hp w []) [(0, vs), (1, (.int .i64 v))]
  refine TC.seq ?_
  refine TC.region ?_
  refine TL.op (yq (y_assign ev_c)) rfl rfl rfl ?_
  refine TL.nil ?_
  refine TN.seq ?_
  refine TC.seq ?_
  refine TC.seq ?_
  refine TC.region ?_
  refine TL.op (yq (y_move (ev_t rfl))) rfl rfl rfl ?_
  refine TL.op (yq (y_len (ev_t rfl) Try.underlying34 (fun w hw => ((ri_arg hs) w hw).ln))) rfl rfl rfl ?_
  refine TL.op (yq (y_move ev_c)) rfl rfl rfl ?_
  refine TL.nil ?_
  refine TN.seq ?_
  refine TC.block ?_
  obtain ⟨c11, hc12⟩ : ∃ c, F_slices_Index_Sint_int_L1 s v ((s.length - 0) + 1) 0 = c := ⟨_, rfl⟩
  rw [hc12] at hF
  refine TC.loop (ι := Nat × Nat) (fun (fu1, k8_1) => [(0, vs), (1, (.int .i64 v)), (7, (.int .i64 (s.length : Int))), (8, (.int .i64 (k8_1 : Int)))]) (fun (fu1, k8_1) => Hp w []) (fun (fu1, k8_1) => (k8_1 ≤ s.length) ∧ s.length - k8_1 < fu1 ∧ F_slices_Index_Sint_int_L1 s v fu1 k8_1 = c11) (fun (fu1, k8_1) => fu1) ((s.length - 0) + 1, 0) ⟨(by first | omega | (simp [-List.getD_eq_getElem?_getD] <;> omega)), (by omega), hc12⟩ ⟨rfl, rfl, rfl, rfl, trivial⟩ (fun w hw => hw) ?_
  rintro ⟨fu1, k8_1⟩ hJ1
  obtain ⟨hi1_0, hmu1, hL1⟩ : (k8_1 ≤ s.length) ∧ s.length - k8_1 < fu1 ∧ F_slices_Index_Sint_int_L1 s v fu1 k8_1 = c11 := hJ1
  change TC _ _ _ _ (Hp w []) [(0, vs), (1, (.int .i64 v)), (7, (.int .i64 (s.length : Int))), (8, (.int .i64 (k8_1 : Int)))]
  obtain ⟨mf1, rfl⟩ : ∃ m, fu1 = m + 1 := ⟨fu1 - 1, by omega⟩
  rw [F_slices_Index_Sint_int_L1_s] at hL1
  refine TC.seq ?_
  refine TC.region ?_
  refine TL.op (yq (y_lss (ev_t rfl) (ev_t rfl))) rfl rfl rfl ?_
  refine TL.nil ?_
  refine TN.seq ?_
  refine TC.seq ?_
  refine TC.cond (b := decide ((k8_1 : Int) < (s.length : Int))) (ev_t rfl) (fun h13 => ?_) (fun h13 => ?_)
  · rw [bif_pos h13] at hL1
    have q14 := (of_decide_eq_true h13)
    refine TC.skip ?_
    refine TN.seq ?_
    refine TC.seq ?_
    refine TC.block ?_
    refine TC.seq ?_
    refine TC.region ?_
    refine TL.op (yq (y_move (ev_t rfl))) rfl rfl rfl ?_
    refine TL.op (yq (y_assign (ev_t rfl))) rfl rfl rfl ?_
    refine TL.nil ?_
    refine TN.seq ?_
    refine TC.seq ?_
    refine TC.region ?_
    refine TL.op (yq (y_move (ev_t rfl))) rfl rfl rfl ?_
    refine TL.op (yq (y_move (ev_t rfl))) rfl rfl rfl ?_
    refine TL.op (yq (y_move (ev_t rfl))) rfl rfl rfl ?_
    have hb15 : k8_1 < s.length := (by first | omega | (simp only [List.length_set, List.length_append, List.length_cons, List.length_nil, List.length_replicate]; omega) | (rw [sortI_length]; simp only [List.length_cons, List.length_nil]; omega))
    refine TL.op (yq (y_idx (k := k8_1) (ev_t rfl) (ev_t rfl) (by first | omega | simp) slT_34 (ri_arg hs) hb15)) rfl rfl rfl ?_
    refine TL.op (yq (y_ldi (ev_t rfl) one_3 (ri_arg hs) hb15)) rfl rfl rfl ?_
    refine TL.op (yq (y_eql (ev_t rfl) (ev_t rfl))) rfl rfl rfl ?_
    refine TL.nil ?_
    refine TN.seq ?_
    refine TC.cond (b := decide (v = (s.getD k8_1 0))) (ev_t rfl) (fun h16 => ?_) (fun h16 => ?_)
    · rw [bif_pos h16] at hL1
      have q17 := (of_decide_eq_true h16)
      refine TC.seq ?_
      refine TC.region ?_
      refine TL.op (yq (y_move (ev_t rfl))) rfl rfl rfl ?_
      refine TL.op (yq (y_assign (ev_t rfl))) rfl rfl rfl ?_
      refine TL.nil ?_
      refine TN.seq ?_
      refine TC.ret ?_
      refine TN.blockR ?_
      refine TN.thenR ?_
      refine TN.thenR ?_
      rw [← hL1, elim_ret] at hF
      refine TN.blockR ?_
      refine TN.thenR ?_
      subst hF
      exact TN.ret1 rfl (ev_t rfl) (fun w' hw => ⟨rfl, hw⟩)
    · rw [bif_neg h16] at hL1
      have q17 := (of_decide_eq_false h16)
      refine TC.skip ?_
      refine TN.blockN ?_
      refine TN.seq ?_
      refine TC.region ?_
      refine TL.op (yq (y_add (ev_t rfl) ev_c (by unfold In64; constructor <;> omega))) rfl rfl rfl ?_
      refine TL.op (yq (y_move (ev_t rfl))) rfl rfl rfl ?_
      refine TL.nil ?_
      exact TN.hand (mf1, (k8_1 + 1)) ⟨(by first | omega | (simp [-List.getD_eq_getElem?_getD] <;> omega)), (by omega), hL1⟩ (Nat.lt_succ_self _) ⟨rfl, rfl, rfl, rfl, trivial⟩ (fun w hw => hw)
  · rw [bif_neg h13] at hL1
    have q14 := (of_decide_eq_false h13)
    refine TC.exit ?_
    refine TN.thenE ?_
    refine TN.thenE ?_
    rw [← hL1, elim_next] at hF
    try dsimp only at hF
    refine TN.blockH ?_
    refine TN.seq ?_
    refine TC.seq ?_
    refine TC.region ?_
    refine TL.op (yq (y_assign ev_c)) rfl rfl rfl ?_
    refine TL.nil ?_
    refine TN.seq ?_
    refine TC.ret ?_
    subst hF
    exact TN.ret1 rfl (ev_t rfl) (fun w' hw => ⟨rfl, hw⟩)

set_option maxRecDepth 4000 in
set_option maxHeartbeats 1000000 in
theorem slices_Contains_Sint_int_ok (w : World) (vs : Value) (s : List Int) (hs : RI w vs s) (v : Int)  :
    Calls Try.prog 108 ([vs, (.int .i64 v)] : List Value).toArray w (Ret (.bool (F_slices_Contains_Sint_int s v)) (Hp w [])) := by
  obtain ⟨rz, hF⟩ : ∃ rz, (F_slices_Contains_Sint_int s v) = rz := ⟨_, rfl⟩
  rw [hF]
  unfold F_slices_Contains_Sint_int at hF
  have hlen_s := arg_len hs
  refine calls_tc Try.func108 rfl rfl rfl ?_
  change TC _ _ _ _ (Hp w []) [(0, vs), (1, (.int .i64 v))]
  refine TC.seq ?_
  refine TC.region ?_
  refine TL.op (yq (y_assign ev_c)) rfl rfl rfl ?_
  refine TL.nil ?_
  refine TN.seq ?_
  refine TC.seq ?_
  refine TC.region ?_
  refine TL.op (yq (y_move (ev_t rfl))) rfl rfl rfl ?_
  refine TL.op (yq (y_move (ev_t rfl))) rfl rfl rfl ?_
  refine TL.op (y_call (vs := [vs, (.int .i64 v)]) (v := (.int .i64 (F_slices_Index_Sint_int s v))) en_145 ⟨(ev_t rfl), (ev_t rfl), trivial⟩ (fun w hw => slices_Index_Sint_int_ok w vs s ((ri_arg hs) w hw) v)) rfl rfl rfl ?_
  refine TL.op (yq (y_geq (ev_t rfl) ev_c)) rfl rfl rfl ?_
  refine TL.op (yq (y_assign (ev_t rfl))) rfl rfl rfl ?_
  refine TL.nil ?_
  refine TN.seq ?_
  refine TC.ret ?_
  subst hF
  exact TN.ret1 rfl (ev_t rfl) (fun w' hw => ⟨rfl, hw⟩)

set_option maxRecDepth 4000 in
set_option maxHeartbeats 1000000 in
theorem slices_insertionSortCmpFunc_2_int_ok (w0 w : World) (fr : List Ck) (vdata : Value) (data : List (Int × Int)) (hw : Hp w0 (rowP 85 vdata data :: fr) w) (a : Int) (b : Int) (gn : Int) (kcmp : Nat) (ccmp : List Value) (cmp : Int × Int → Int × Int → Int) (ecmp : En Try.prog kcmp) (hcmp : ∀ (w' : World) (c : Ck) (_ : Hp w0 (c :: fr) w') (x0 : Int × Int) (x1 : Int × Int), Dm gn x0 → Dm gn x1 → Calls Try.prog kcmp ([(.agg #[.int .i64 x0.1, .int .i64 x0.2]), (.agg #[.int .i64 x1.1, .int .i64 x1.2])] ++ ccmp : List Value).toArray w' (Ret (.int .i64 (cmp x0 x1)) (Hp w' []))) (hp0 : 0 ≤ a ∧ a ≤ b ∧ b ≤ data.length) (hp1 : data.length ≤ 100) (hp2 : DmA gn data) :
    Calls Try.prog 176 ([vdata, (.int .i64 a), (.int .i64 b), (.func (.func kcmp) #[] ccmp.toArray)] : List Value).toArray w (fun e w' => ∃ _i : Unit, e = .returned (.tuple #[]) ∧ Hp w0 (rowP 85 vdata (F_slices_insertionSortCmpFunc_2_int data a b gn cmp) :: fr) w') := by
  obtain ⟨rz, hF⟩ : ∃ rz, (F_slices_insertionSortCmpFunc_2_int data a b gn cmp) = rz := ⟨_, rfl⟩
  rw [hF]
  unfold F_slices_insertionSortCmpFunc_2_int at hF
  have hlen_data : data.length ≤ 9223372036854775807 := (hw.get 0 rfl).maxn
  refine calls_tcm Try.func176 rfl rfl rfl hw ?_
  change TC _ _ _ _ (Hp w0 ([rowP 85 vdata data] ++ fr)) [(0, vdata), (1, (.int .i64 a)), (2, (.int .i64 b)), (3, (.func (.func kcmp) #[] ccmp.toArray))]
  refine TC.seq ?_
  refine TC.region ?_
  refine TL.op (yq (y_move (ev_t rfl))) rfl rfl rfl ?_
  refine TL.op (yq (y_add (ev_t rfl) ev_c (by unfold In64; constructor <;> omega))) rfl rfl rfl ?_
  refine TL.op (yq (y_assign (ev_t rfl))) rfl rfl rfl ?_
  refine TL.nil ?_
  refine TN.seq ?_
  refine TC.block ?_
  obtain ⟨c125, hc126⟩ : ∃ c, F_slices_insertionSortCmpFunc_2_int_L1 a b cmp (((b - (a + 1)).toNat) + 1) ((a + 1), data) = c := ⟨_, rfl⟩
  rw [hc126] at hF
  refine TC.loop (ι := Nat × Int × List (Int × Int)) (fun (fu1, i1, data1) => [(0, vdata), (1, (.int .i64 a)), (2, (.int .i64 b)), (3, (.func (.func kcmp) #[] ccmp.toArray)), (8, (.int .i64 i1))]) (fun (fu1, i1, data1) => Hp w0 ([rowP 85 vdata data1] ++ fr)) (fun (fu1, i1, data1) => (data1.length = data.length) ∧ (DmA gn data1) ∧ (a < i1) ∧ (b - i1).toNat < fu1 ∧ F_slices_insertionSortCmpFunc_2_int_L1 a b cmp fu1 (i1, data1) = c125) (fun (fu1, i1, data1) => fu1) (((b - (a + 1)).toNat) + 1, a + 1, data) ⟨(by first | omega | (simp [-List.getD_eq_getElem?_getD] <;> omega)), hp2, (by first | omega | (simp [-List.getD_eq_getElem?_getD] <;> omega)), (by omega), hc126⟩ ⟨rfl, rfl, rfl, rfl, rfl, trivial⟩ (fun w hw => hw) ?_
  rintro ⟨fu1, i1, data1⟩ hJ1
  obtain ⟨hi1_0, hi1_1, hi1_2, hmu1, hL1⟩ : (data1.length = data.length) ∧ (DmA gn data1) ∧ (a < i1) ∧ (b - i1).toNat < fu1 ∧ F_slices_insertionSortCmpFunc_2_int_L1 a b cmp fu1 (i1, data1) = c125 := hJ1
  change TC _ _ _ _ (Hp w0 ([rowP 85 vdata data1] ++ fr)) [(0, vdata), (1, (.int .i64 a)), (2, (.int .i64 b)), (3, (.func (.func kcmp) #[] ccmp.toArray)), (8, (.int .i64 i1))]
  obtain ⟨mf1, rfl⟩ : ∃ m, fu1 = m + 1 := ⟨fu1 - 1, by omega⟩
  rw [F_slices_insertionSortCmpFunc_2_int_L1_s] at hL1
  refine TC.seq ?_
  refine TC.seq ?_
  refine TC.region ?_
  refine TL.op (yq (y_move (ev_t rfl))) rfl rfl rfl ?_
  refine TL.op (yq (y_move (ev_t rfl))) rfl rfl rfl ?_
  refine TL.op (yq (y_lss (ev_t rfl) (ev_t rfl))) rfl rfl rfl ?_
  refine TL.nil ?_
  refine TN.seq ?_
  refine TC.cond (b := decide (i1 < b)) (ev_t rfl) (fun h127 => ?_) (fun h127 => ?_)
  · rw [bif_pos h127] at hL1
    have q128 := (of_decide_eq_true h127)
    refine TC.skip ?_
    refine TN.seq ?_
    refine TC.seq ?_
    refine TC.block ?_
    refine TC.seq ?_
    refine TC.region ?_
    refine TL.op (yq (y_move (ev_t rfl))) rfl rfl rfl ?_
    refine TL.op (yq (y_assign (ev_t rfl))) rfl rfl rfl ?_
    refine TL.nil ?_
    refine TN.seq ?_
    refine TC.block ?_
    obtain ⟨c129, hc130⟩ : ∃ c, F_slices_insertionSortCmpFunc_2_int_L2 a cmp (((i1 - a).toNat) + 1) (i1, data1) = c := ⟨_, rfl⟩
    rw [hc130] at hL1
    refine TC.loop (ι := Nat × Int × List (Int × Int)) (fun (fu2, j2, data2) => [(0, vdata), (1, (.int .i64 a)), (2, (.int .i64 b)), (3, (.func (.func kcmp) #[] ccmp.toArray)), (8, (.int .i64 i1)), (9, (.int .i64 j2))]) (fun (fu2, j2, data2) => Hp w0 ([rowP 85 vdata data2] ++ fr)) (fun (fu2, j2, data2) => (data2.length = data.length) ∧ (j2 ≤ i1) ∧ (DmA gn data2) ∧ (a ≤ j2) ∧ (j2 - a).toNat < fu2 ∧ F_slices_insertionSortCmpFunc_2_int_L2 a cmp fu2 (j2, data2) = c129) (fun (fu2, j2, data2) => fu2) (((i1 - a).toNat) + 1, i1, data1) ⟨(by first | omega | (simp [-List.getD_eq_getElem?_getD] <;> omega)), (by first | omega | (simp [-List.getD_eq_getElem?_getD] <;> omega)), hi1_1, (by first | omega | (simp [-List.getD_eq_getElem?_getD] <;> omega)), (by omega), hc130⟩ ⟨rfl, rfl, rfl, rfl, rfl, rfl, trivial⟩ (fun w hw => hw) ?_
    rintro ⟨fu2, j2, data2⟩ hJ2
    obtain ⟨hi2_0, hi2_1, hi2_2, hi2_3, hmu2, hL2⟩ : (data2.length = data.length) ∧ (j2 ≤ i1) ∧ (DmA gn data2) ∧ (a ≤ j2) ∧ (j2 - a).toNat < fu2 ∧ F_slices_insertionSortCmpFunc_2_int_L2 a cmp fu2 (j2, data2) = c129 := hJ2
    change TC _ _ _ _ (Hp w0 ([rowP 85 vdata data2] ++ fr)) [(0, vdata), (1, (.int .i64 a)), (2, (.int .i64 b)), (3, (.func (.func kcmp) #[] ccmp.toArray)), (8, (.int .i64 i1)), (9, (.int .i64 j2))]
    obtain ⟨mf2, rfl⟩ : ∃ m, fu2 = m + 1 := ⟨fu2 - 1, by omega⟩
    rw [F_slices_insertionSortCmpFunc_2_int_L2_s] at hL2
    refine TC.seq ?_
    refine TC.seq ?_
    refine TC.regionQ (by kernel_rfl) (by kernel_rfl) dr_hp ?_
    refine TQ.op (yq (y_move (ev_t rfl))) rfl rfl rfl ?_
    refine TQ.op (yq (y_move (ev_t rfl))) rfl rfl rfl ?_
    refine TQ.op (yq (y_gtr (ev_t rfl) (ev_t rfl))) rfl rfl rfl ?_
    refine TQ.op (yq (y_move (ev_t rfl))) rfl rfl rfl ?_
    refine TQ.opw (w_t rfl rfl rfl) (fun hg => yq (y_move (ev_t rfl))) rfl rfl ?_
    refine TQ.opw (w_t rfl rfl rfl) (fun hg => yq (y_move (ev_t rfl))) rfl rfl ?_
    refine TQ.opw (w_t rfl rfl rfl) (fun hg => yq (y_move (ev_t rfl))) rfl rfl ?_
    refine TQ.opw (w_t rfl rfl rfl) (fun hg => yq (y_idx (k := (j2).toNat) (ev_g rfl hg) (ev_g rfl hg) (by have hgf := (of_decide_eq_true hg); first | omega | simp) slT_37 (rp_row 0 rfl) (show (j2).toNat < data2.length by have hgf := (of_decide_eq_true hg); omega))) rfl rfl ?_
    refine TQ.opw (w_t rfl rfl rfl) (fun hg => yq (y_ldpr (ev_g rfl hg) arT_85 (rp_row 0 rfl) (show (j2).toNat < data2.length by have hgf := (of_decide_eq_true hg); omega))) rfl rfl ?_
    refine TQ.opw (w_t rfl rfl rfl) (fun hg => yq (y_move (ev_t rfl))) rfl rfl ?_
    refine TQ.opw (w_t rfl rfl rfl) (fun hg => yq (y_move (ev_t rfl))) rfl rfl ?_
    refine TQ.opw (w_t rfl rfl rfl) (fun hg => yq (y_sub (ev_g rfl hg) ev_c (by unfold In64; constructor <;> omega))) rfl rfl ?_
    refine TQ.opw (w_t rfl rfl rfl) (fun hg => yq (y_idx (k := (j2 - 1).toNat) (ev_g rfl hg) (ev_g rfl hg) (by have hgf := (of_decide_eq_true hg); first | omega | simp) slT_37 (rp_row 0 rfl) (show (j2 - 1).toNat < data2.length by have hgf := (of_decide_eq_true hg); omega))) rfl rfl ?_
    refine TQ.opw (w_t rfl rfl rfl) (fun hg => yq (y_ldpr (ev_g rfl hg) arT_85 (rp_row 0 rfl) (show (j2 - 1).toNat < data2.length by have hgf := (of_decide_eq_true hg); omega))) rfl rfl ?_
    refine TQ.opw (w_t rfl rfl rfl) (fun hg => y_callv (vs := [(.agg #[(.int .i64 ((data2.getD ((j2).toNat) (0, 0)).1)), (.int .i64 ((data2.getD ((j2).toNat) (0, 0)).2))]), (.agg #[(.int .i64 ((data2.getD ((j2 - 1).toNat) (0, 0)).1)), (.int .i64 ((data2.getD ((j2 - 1).toNat) (0, 0)).2))])]) (v := (.int .i64 (cmp (data2.getD ((j2).toNat) (0, 0)) (data2.getD ((j2 - 1).toNat) (0, 0))))) ecmp (ev_g rfl hg) ⟨(ev_g rfl hg), (ev_g rfl hg), trivial⟩ (fun w hw => hcmp w _ (hw) (data2.getD ((j2).toNat) (0, 0)) (data2.getD ((j2 - 1).toNat) (0, 0)) (by exact hi2_2 _) (by exact hi2_2 _))) rfl rfl ?_
    refine TQ.opw (w_t rfl rfl rfl) (fun hg => yq (y_lss (ev_g rfl hg) ev_c)) rfl rfl ?_
    refine TQ.op (yq (y_and (ev_t rfl) (fun hq => (ev_g rfl hq)))) rfl rfl rfl ?_
    refine TQ.nil ?_
    refine TN.seq ?_
    refine TC.cond (b := ((decide (a < j2)) && (decide ((cmp (data2.getD ((j2).toNat) (0, 0)) (data2.getD ((j2 - 1).toNat) (0, 0))) < 0)))) (ev_t rfl) (fun h131 => ?_) (fun h131 => ?_)
    · rw [bif_pos h131] at hL2
      have q132 := (and_imp (and_t h131) (fun h => (of_decide_eq_true h)) (fun h => (of_decide_eq_true h)))
      refine TC.skip ?_
      refine TN.seq ?_
      refine TC.seq ?_
      refine TC.block ?_
      refine TC.mid (fun a' w' => Slots 53 [(0, vdata), (1, (.int .i64 a)), (2, (.int .i64 b)), (3, (.func (.func kcmp) #[] ccmp.toArray)), (8, (.int .i64 i1)), (9, (.int .i64 j2))] a' ∧ Hp w0 ([rowP 85 vdata ((data2.set ((j2).toNat) ((data2.getD ((j2 - 1).toNat) (0, 0)).1, (data2.getD ((j2 - 1).toNat) (0, 0)).2)).set ((j2 - 1).toNat) ((data2.getD ((j2).toNat) (0, 0)).1, (data2.getD ((j2).toNat) (0, 0)).2))] ++ fr) w') ?_ ?_
      · refine TC.regionH 18 (Hp w0 ([] ++ fr)) rfl (by kernel_rfl) dr_hp (fun w hw => Hp.sublist hw (.cons _ (List.Sublist.refl _))) ?_
        refine TH.take 0 rfl (by kernel_rfl) (y_move (ev_t rfl)) rfl rfl rfl ?_
        refine TH.take 1 rfl (by kernel_rfl) (y_move (ev_t rfl)) rfl rfl rfl ?_
        refine TH.take 2 rfl (by kernel_rfl) (y_move (ev_t rfl)) rfl rfl rfl ?_
        refine TH.take 3 rfl (by kernel_rfl) (y_move (ev_t rfl)) rfl rfl rfl ?_
        refine TH.take 4 rfl (by kernel_rfl) (y_sub (ev_t rfl) ev_c (by unfold In64; constructor <;> omega)) rfl rfl rfl ?_
        refine TH.take 5 rfl (by kernel_rfl) (y_move (ev_t rfl)) rfl rfl rfl ?_
        refine TH.take 6 rfl (by kernel_rfl) (y_move (ev_t rfl)) rfl rfl rfl ?_
        refine TH.take 7 rfl (by kernel_rfl) (y_sub (ev_t rfl) ev_c (by unfold In64; constructor <;> omega)) rfl rfl rfl ?_
        refine TH.take 10 rfl (by kernel_rfl) (y_move (ev_t rfl)) rfl rfl rfl ?_
        refine TH.take 11 rfl (by kernel_rfl) (y_move (ev_t rfl)) rfl rfl rfl ?_
        refine TH.loud2 8 12 rfl rfl (by kernel_rfl) ?_ ?_
        · have hb136 : (j2 - 1).toNat < data2.length := (by first | omega | (simp only [List.length_set, List.length_append, List.length_cons, List.length_nil, List.length_replicate]; omega) | (rw [sortI_length]; simp only [List.length_cons, List.length_nil]; omega))
          refine TL.op (yq (y_idx (k := (j2 - 1).toNat) (ev_t rfl) (ev_t rfl) (by first | omega | simp) slT_37 (rp_row 0 rfl) hb136)) rfl rfl rfl ?_
          refine TL.nil ?_
          refine TH.back (fun w hw => Hp.sublist hw (.cons _ (List.Sublist.refl _))) ?_
          refine TH.loud2 9 12 rfl rfl (by kernel_rfl) ?_ ?_
          · refine TL.op (yq (y_ldpr (ev_t rfl) arT_85 (rp_row 0 rfl) hb136)) rfl rfl rfl ?_
            refine TL.nil ?_
            refine TH.back (fun w hw => Hp.sublist hw (.cons _ (List.Sublist.refl _))) ?_
            refine TH.loud 12 rfl (by kernel_rfl) ?_
            have hb137 : (j2).toNat < data2.length := (by first | omega | (simp only [List.length_set, List.length_append, List.length_cons, List.length_nil, List.length_replicate]; omega) | (rw [sortI_length]; simp only [List.length_cons, List.length_nil]; omega))
            refine TL.op (yq (y_idx (k := (j2).toNat) (ev_t rfl) (ev_t rfl) (by first | omega | simp) slT_37 (rp_row 0 rfl) hb137)) rfl rfl rfl ?_
            refine TL.nil ?_
            refine TH.back (fun w hw => Hp.sublist hw (.cons _ (List.Sublist.refl _))) ?_
            refine TH.loud 13 rfl (by kernel_rfl) ?_
            refine TL.op (yq (y_ldpr (ev_t rfl) arT_85 (rp_row 0 rfl) hb137)) rfl rfl rfl ?_
            refine TL.nil ?_
            refine TH.back (fun w hw => Hp.sublist hw (.cons _ (List.Sublist.refl _))) ?_
            refine TH.loud 14 rfl (by kernel_rfl) ?_
            have hb138 : (j2).toNat < data2.length := (by first | omega | (simp only [List.length_set, List.length_append, List.length_cons, List.length_nil, List.length_replicate]; omega) | (rw [sortI_length]; simp only [List.length_cons, List.length_nil]; omega))
            refine TL.op (yq (y_idx (k := (j2).toNat) (ev_t rfl) (ev_t rfl) (by first | omega | simp) slT_37 (rp_row 0 rfl) hb138)) rfl rfl rfl ?_
            refine TL.nil ?_
            refine TH.back (fun w hw => Hp.sublist hw (.cons _ (List.Sublist.refl _))) ?_
            refine TH.loud 15 rfl (by kernel_rfl) ?_
            refine TL.storePr 0 (u := ((data2.getD ((j2 - 1).toNat) (0, 0)).1, (data2.getD ((j2 - 1).toNat) (0, 0)).2)) (ev_t rfl) (ev_t rfl) arT_85 rfl hb138 ?_
            refine TL.nil ?_
            refine TH.back (fun w hw => Hp.sublist hw (.cons _ (List.Sublist.refl _))) ?_
            refine TH.loud 16 rfl (by kernel_rfl) ?_
            have hb139 : (j2 - 1).toNat < (data2.set ((j2).toNat) ((data2.getD ((j2 - 1).toNat) (0, 0)).1, (data2.getD ((j2 - 1).toNat) (0, 0)).2)).length := (by first | (simp only [List.length_set, List.length_append, List.length_cons, List.length_nil, List.length_replicate]; omega) | omega | (rw [sortI_length]; simp only [List.length_cons, List.length_nil]; omega))
            refine TL.op (yq (y_idx (k := (j2 - 1).toNat) (ev_t rfl) (ev_t rfl) (by first | omega | simp) slT_37 (rp_row 0 rfl) hb139)) rfl rfl rfl ?_
            refine TL.nil ?_
            refine TH.back (fun w hw => Hp.sublist hw (.cons _ (List.Sublist.refl _))) ?_
            refine TH.loud 17 rfl (by kernel_rfl) ?_
            refine TL.storePr 0 (u := ((data2.getD ((j2).toNat) (0, 0)).1, (data2.getD ((j2).toNat) (0, 0)).2)) (ev_t rfl) (ev_t rfl) arT_85 rfl hb139 ?_
            refine TL.nil ?_
            refine TH.back (fun w hw => Hp.sublist hw (.cons _ (List.Sublist.refl _))) ?_
            refine TH.done (by kernel_rfl) ?_
            exact fun a' w' hs hw => ⟨hs.sub ⟨rfl, rfl, rfl, rfl, rfl, rfl, trivial⟩, hw⟩
          · have hb140 : (j2).toNat < data2.length := (by first | omega | (simp only [List.length_set, List.length_append, List.length_cons, List.length_nil, List.length_replicate]; omega) | (rw [sortI_length]; simp only [List.length_cons, List.length_nil]; omega))
            refine TL.op (yq (y_idx (k := (j2).toNat) (ev_t rfl) (ev_t rfl) (by first | omega | simp) slT_37 (rp_row 0 rfl) hb140)) rfl rfl rfl ?_
            refine TL.nil ?_
            refine TH.back (fun w hw => Hp.sublist hw (.cons _ (List.Sublist.refl _))) ?_
            refine TH.loud2 9 13 rfl rfl (by kernel_rfl) ?_ ?_
            · refine TL.op (yq (y_ldpr (ev_t rfl) arT_85 (rp_row 0 rfl) hb136)) rfl rfl rfl ?_
              refine TL.nil ?_
              refine TH.back (fun w hw => Hp.sublist hw (.cons _ (List.Sublist.refl _))) ?_
              refine TH.loud 13 rfl (by kernel_rfl) ?_
              refine TL.op (yq (y_ldpr (ev_t rfl) arT_85 (rp_row 0 rfl) hb140)) rfl rfl rfl ?_
              refine TL.nil ?_
              refine TH.back (fun w hw => Hp.sublist hw (.cons _ (List.Sublist.refl _))) ?_
              refine TH.loud 14 rfl (by kernel_rfl) ?_
              have hb141 : (j2).toNat < data2.length := (by first | omega | (simp only [List.length_set, List.length_append, List.length_cons, List.length_nil, List.length_replicate]; omega) | (rw [sortI_length]; simp only [List.length_cons, List.length_nil]; omega))
              refine TL.op (yq (y_idx (k := (j2).toNat) (ev_t rfl) (ev_t rfl) (by first | omega | simp) slT_37 (rp_row 0 rfl) hb141)) rfl rfl rfl ?_
              refine TL.nil ?_
              refine TH.back (fun w hw => Hp.sublist hw (.cons _ (List.Sublist.refl _))) ?_
              refine TH.loud 15 rfl (by kernel_rfl) ?_
              refine TL.storePr 0 (u := ((data2.getD ((j2 - 1).toNat) (0, 0)).1, (data2.getD ((j2 - 1).toNat) (0, 0)).2)) (ev_t rfl) (ev_t rfl) arT_85 rfl hb141 ?_
              refine TL.nil ?_
              refine TH.back (fun w hw => Hp.sublist hw (.cons _ (List.Sublist.refl _))) ?_
              refine TH.loud 16 rfl (by kernel_rfl) ?_
              have hb142 : (j2 - 1).toNat < (data2.set ((j2).toNat) ((data2.getD ((j2 - 1).toNat) (0, 0)).1, (data2.getD ((j2 - 1).toNat) (0, 0)).2)).length := (by first | (simp only [List.length_set, List.length_append, List.length_cons, List.length_nil, List.length_replicate]; omega) | omega | (rw [sortI_length]; simp only [List.length_cons, List.length_nil]; omega))
              refine TL.op (yq (y_idx (k := (j2 - 1).toNat) (ev_t rfl) (ev_t rfl) (by first | omega | simp) slT_37 (rp_row 0 rfl) hb142)) rfl rfl rfl ?_
              refine TL.nil ?_
              refine TH.back (fun w hw => Hp.sublist hw (.cons _ (List.Sublist.refl _))) ?_
              refine TH.loud 17 rfl (by kernel_rfl) ?_
              refine TL.storePr 0 (u := ((data2.getD ((j2).toNat) (0, 0)).1, (data2.getD ((j2).toNat) (0, 0)).2)) (ev_t rfl) (ev_t rfl) arT_85 rfl hb142 ?_
              refine TL.nil ?_
              refine TH.back (fun w hw => Hp.sublist hw (.cons _ (List.Sublist.refl _))) ?_
              refine TH.done (by kernel_rfl) ?_
              exact fun a' w' hs hw => ⟨hs.sub ⟨rfl, rfl, rfl, rfl, rfl, rfl, trivial⟩, hw⟩
            · refine TL.op (yq (y_ldpr (ev_t rfl) arT_85 (rp_row 0 rfl) hb140)) rfl rfl rfl ?_
              refine TL.nil ?_
              refine TH.back (fun w hw => Hp.sublist hw (.cons _ (List.Sublist.refl _))) ?_
              refine TH.loud 9 rfl (by kernel_rfl) ?_
              refine TL.op (yq (y_ldpr (ev_t rfl) arT_85 (rp_row 0 rfl) hb136)) rfl rfl rfl ?_
              refine TL.nil ?_
              refine TH.back (fun w hw => Hp.sublist hw (.cons _ (List.Sublist.refl _))) ?_
              refine TH.loud 14 rfl (by kernel_rfl) ?_
              have hb143 : (j2).toNat < data2.length := (by first | omega | (simp only [List.length_set, List.length_append, List.length_cons, List.length_nil, List.length_replicate]; omega) | (rw [sortI_length]; simp only [List.length_cons, List.length_nil]; omega))
              refine TL.op (yq (y_idx (k := (j2).toNat) (ev_t rfl) (ev_t rfl) (by first | omega | simp) slT_37 (rp_row 0 rfl) hb143)) rfl rfl rfl ?_
              refine TL.nil ?_
              refine TH.back (fun w hw => Hp.sublist hw (.cons _ (List.Sublist.refl _))) ?_
              refine TH.loud 15 rfl (by kernel_rfl) ?_
              refine TL.storePr 0 (u := ((data2.getD ((j2 - 1).toNat) (0, 0)).1, (data2.getD ((j2 - 1).toNat) (0, 0)).2)) (ev_t rfl) (ev_t rfl) arT_85 rfl hb143 ?_
              refine TL.nil ?_
              refine TH.back (fun w hw => Hp.sublist hw (.cons _ (List.Sublist.refl _))) ?_
              refine TH.loud 16 rfl (by kernel_rfl) ?_
              have hb144 : (j2 - 1).toNat < (data2.set ((j2).toNat) ((data2.getD ((j2 - 1).toNat) (0, 0)).1, (data2.getD ((j2 - 1).toNat) (0, 0)).2)).length := (by first | (simp only [List.length_set, List.length_append, List.length_cons, List.length_nil, List.length_replicate]; omega) | omega | (rw [sortI_length]; simp only [List.length_cons, List.length_nil]; omega))
              refine TL.op (yq (y_idx (k := (j2 - 1).toNat) (ev_t rfl) (ev_t rfl) (by first | omega | simp) slT_37 (rp_row 0 rfl) hb144)) rfl rfl rfl ?_
              refine TL.nil ?_
              refine TH.back (fun w hw => Hp.sublist hw (.cons _ (List.Sublist.refl _))) ?_
              refine TH.loud 17 rfl (by kernel_rfl) ?_
              refine TL.storePr 0 (u := ((data2.getD ((j2).toNat) (0, 0)).1, (data2.getD ((j2).toNat) (0, 0)).2)) (ev_t rfl) (ev_t rfl) arT_85 rfl hb144 ?_
              refine TL.nil ?_
              refine TH.back (fun w hw => Hp.sublist hw (.cons _ (List.Sublist.refl _))) ?_
              refine TH.done (by kernel_rfl) ?_
              exact fun a' w' hs hw => ⟨hs.sub ⟨rfl, rfl, rfl, rfl, rfl, rfl, trivial⟩, hw⟩
        · have hb145 : (j2).toNat < data2.length := (by first | omega | (simp only [List.length_set, List.length_append, List.length_cons, List.length_nil, List.length_replicate]; omega) | (rw [sortI_length]; simp only [List.length_cons, List.length_nil]; omega))
          refine TL.op (yq (y_idx (k := (j2).toNat) (ev_t rfl) (ev_t rfl) (by first | omega | simp) slT_37 (rp_row 0 rfl) hb145)) rfl rfl rfl ?_
          refine TL.nil ?_
          refine TH.back (fun w hw => Hp.sublist hw (.cons _ (List.Sublist.refl _))) ?_
          refine TH.loud2 8 13 rfl rfl (by kernel_rfl) ?_ ?_
          · have hb146 : (j2 - 1).toNat < data2.length := (by first | omega | (simp only [List.length_set, List.length_append, List.length_cons, List.length_nil, List.length_replicate]; omega) | (rw [sortI_length]; simp only [List.length_cons, List.length_nil]; omega))
            refine TL.op (yq (y_idx (k := (j2 - 1).toNat) (ev_t rfl) (ev_t rfl) (by first | omega | simp) slT_37 (rp_row 0 rfl) hb146)) rfl rfl rfl ?_
            refine TL.nil ?_
            refine TH.back (fun w hw => Hp.sublist hw (.cons _ (List.Sublist.refl _))) ?_
            refine TH.loud2 9 13 rfl rfl (by kernel_rfl) ?_ ?_
            · refine TL.op (yq (y_ldpr (ev_t rfl) arT_85 (rp_row 0 rfl) hb146)) rfl rfl rfl ?_
              refine TL.nil ?_
              refine TH.back (fun w hw => Hp.sublist hw (.cons _ (List.Sublist.refl _))) ?_
              refine TH.loud 13 rfl (by kernel_rfl) ?_
              refine TL.op (yq (y_ldpr (ev_t rfl) arT_85 (rp_row 0 rfl) hb145)) rfl rfl rfl ?_
              refine TL.nil ?_
              refine TH.back (fun w hw => Hp.sublist hw (.cons _ (List.Sublist.refl _))) ?_
              refine TH.loud 14 rfl (by kernel_rfl) ?_
              have hb147 : (j2).toNat < data2.length := (by first | omega | (simp only [List.length_set, List.length_append, List.length_cons, List.length_nil, List.length_replicate]; omega) | (rw [sortI_length]; simp only [List.length_cons, List.length_nil]; omega))
              refine TL.op (yq (y_idx (k := (j2).toNat) (ev_t rfl) (ev_t rfl) (by first | omega | simp) slT_37 (rp_row 0 rfl) hb147)) rfl rfl rfl ?_
              refine TL.nil ?_
              refine TH.back (fun w hw => Hp.sublist hw (.cons _ (List.Sublist.refl _))) ?_
              refine TH.loud 15 rfl (by kernel_rfl) ?_
              refine TL.storePr 0 (u := ((data2.getD ((j2 - 1).toNat) (0, 0)).1, (data2.getD ((j2 - 1).toNat) (0, 0)).2)) (ev_t rfl) (ev_t rfl) arT_85 rfl hb147 ?_
              refine TL.nil ?_
              refine TH.back (fun w hw => Hp.sublist hw (.cons _ (List.Sublist.refl _))) ?_
              refine TH.loud 16 rfl (by kernel_rfl) ?_
              have hb148 : (j2 - 1).toNat < (data2.set ((j2).toNat) ((data2.getD ((j2 - 1).toNat) (0, 0)).1, (data2.getD ((j2 - 1).toNat) (0, 0)).2)).length := (by first | (simp only [List.length_set, List.length_append, List.length_cons, List.length_nil, List.length_replicate]; omega) | omega | (rw [sortI_length]; simp only [List.length_cons, List.length_nil]; omega))
              refine TL.op (yq (y_idx (k := (j2 - 1).toNat) (ev_t rfl) (ev_t rfl) (by first | omega | simp) slT_37 (rp_row 0 rfl) hb148)) rfl rfl rfl ?_
              refine TL.nil ?_
              refine TH.back (fun w hw => Hp.sublist hw (.cons _ (List.Sublist.refl _))) ?_
              refine TH.loud 17 rfl (by kernel_rfl) ?_
              refine TL.storePr 0 (u := ((data2.getD ((j2).toNat) (0, 0)).1, (data2.getD ((j2).toNat) (0, 0)).2)) (ev_t rfl) (ev_t rfl) arT_85 rfl hb148 ?_
              refine TL.nil ?_
              refine TH.back (fun w hw => Hp.sublist hw (.cons _ (List.Sublist.refl _))) ?_
              refine TH.done (by kernel_rfl) ?_
              exact fun a' w' hs hw => ⟨hs.sub ⟨rfl, rfl, rfl, rfl, rfl, rfl, trivial⟩, hw⟩
            · refine TL.op (yq (y_ldpr (ev_t rfl) arT_85 (rp_row 0 rfl) hb145)) rfl rfl rfl ?_
              refine TL.nil ?_
              refine TH.back (fun w hw => Hp.sublist hw (.cons _ (List.Sublist.refl _))) ?_
              refine TH.loud 9 rfl (by kernel_rfl) ?_
              refine TL.op (yq (y_ldpr (ev_t rfl) arT_85 (rp_row 0 rfl) hb146)) rfl rfl rfl ?_
              refine TL.nil ?_
              refine TH.back (fun w hw => Hp.sublist hw (.cons _ (List.Sublist.refl _))) ?_
              refine TH.loud 14 rfl (by kernel_rfl) ?_
              have hb149 : (j2).toNat < data2.length := (by first | omega | (simp only [List.length_set, List.length_append, List.length_cons, List.length_nil, List.length_replicate]; omega) | (rw [sortI_length]; simp only [List.length_cons, List.length_nil]; omega))
              refine TL.op (yq (y_idx (k := (j2).toNat) (ev_t rfl) (ev_t rfl) (by first | omega | simp) slT_37 (rp_row 0 rfl) hb149)) rfl rfl rfl ?_
              refine TL.nil ?_
              refine TH.back (fun w hw => Hp.sublist hw (.cons _ (List.Sublist.refl _))) ?_
              refine TH.loud 15 rfl (by kernel_rfl) ?_
              refine TL.storePr 0 (u := ((data2.getD ((j2 - 1).toNat) (0, 0)).1, (data2.getD ((j2 - 1).toNat) (0, 0)).2)) (ev_t rfl) (ev_t rfl) arT_85 rfl hb149 ?_
              refine TL.nil ?_
              refine TH.back (fun w hw => Hp.sublist hw (.cons _ (List.Sublist.refl _))) ?_
              refine TH.loud 16 rfl (by kernel_rfl) ?_
              have hb150 : (j2 - 1).toNat < (data2.set ((j2).toNat) ((data2.getD ((j2 - 1).toNat) (0, 0)).1, (data2.getD ((j2 - 1).toNat) (0, 0)).2)).length := (by first | (simp only [List.length_set, List.length_append, List.length_cons, List.length_nil, List.length_replicate]; omega) | omega | (rw [sortI_length]; simp only [List.length_cons, List.length_nil]; omega))
              refine TL.op (yq (y_idx (k := (j2 - 1).toNat) (ev_t rfl) (ev_t rfl) (by first | omega | simp) slT_37 (rp_row 0 rfl) hb150)) rfl rfl rfl ?_
              refine TL.nil ?_
              refine TH.back (fun w hw => Hp.sublist hw (.cons _ (List.Sublist.refl _))) ?_
              refine TH.loud 17 rfl (by kernel_rfl) ?_
              refine TL.storePr 0 (u := ((data2.getD ((j2).toNat) (0, 0)).1, (data2.getD ((j2).toNat) (0, 0)).2)) (ev_t rfl) (ev_t rfl) arT_85 rfl hb150 ?_
              refine TL.nil ?_
              refine TH.back (fun w hw => Hp.sublist hw (.cons _ (List.Sublist.refl _))) ?_
              refine TH.done (by kernel_rfl) ?_
              exact fun a' w' hs hw => ⟨hs.sub ⟨rfl, rfl, rfl, rfl, rfl, rfl, trivial⟩, hw⟩
          · refine TL.op (yq (y_ldpr (ev_t rfl) arT_85 (rp_row 0 rfl) hb145)) rfl rfl rfl ?_
            refine TL.nil ?_
            refine TH.back (fun w hw => Hp.sublist hw (.cons _ (List.Sublist.refl _))) ?_
            refine TH.loud 8 rfl (by kernel_rfl) ?_
            have hb151 : (j2 - 1).toNat < data2.length := (by first | omega | (simp only [List.length_set, List.length_append, List.length_cons, List.length_nil, List.length_replicate]; omega) | (rw [sortI_length]; simp only [List.length_cons, List.length_nil]; omega))
            refine TL.op (yq (y_idx (k := (j2 - 1).toNat) (ev_t rfl) (ev_t rfl) (by first | omega | simp) slT_37 (rp_row 0 rfl) hb151)) rfl rfl rfl ?_
            refine TL.nil ?_
            refine TH.back (fun w hw => Hp.sublist hw (.cons _ (List.Sublist.refl _))) ?_
            refine TH.loud 9 rfl (by kernel_rfl) ?_
            refine TL.op (yq (y_ldpr (ev_t rfl) arT_85 (rp_row 0 rfl) hb151)) rfl rfl rfl ?_
            refine TL.nil ?_
            refine TH.back (fun w hw => Hp.sublist hw (.cons _ (List.Sublist.refl _))) ?_
            refine TH.loud 14 rfl (by kernel_rfl) ?_
            have hb152 : (j2).toNat < data2.length := (by first | omega | (simp only [List.length_set, List.length_append, List.length_cons, List.length_nil, List.length_replicate]; omega) | (rw [sortI_length]; simp only [List.length_cons, List.length_nil]; omega))
            refine TL.op (yq (y_idx (k := (j2).toNat) (ev_t rfl) (ev_t rfl) (by first | omega | simp) slT_37 (rp_row 0 rfl) hb152)) rfl rfl rfl ?_
            refine TL.nil ?_
            refine TH.back (fun w hw => Hp.sublist hw (.cons _ (List.Sublist.refl _))) ?_
            refine TH.loud 15 rfl (by kernel_rfl) ?_
            refine TL.storePr 0 (u := ((data2.getD ((j2 - 1).toNat) (0, 0)).1, (data2.getD ((j2 - 1).toNat) (0, 0)).2)) (ev_t rfl) (ev_t rfl) arT_85 rfl hb152 ?_
            refine TL.nil ?_
            refine TH.back (fun w hw => Hp.sublist hw (.cons _ (List.Sublist.refl _))) ?_
            refine TH.loud 16 rfl (by kernel_rfl) ?_
            have hb153 : (j2 - 1).toNat < (data2.set ((j2).toNat) ((data2.getD ((j2 - 1).toNat) (0, 0)).1, (data2.getD ((j2 - 1).toNat) (0, 0)).2)).length := (by first | (simp only [List.length_set, List.length_append, List.length_cons, List.length_nil, List.length_replicate]; omega) | omega | (rw [sortI_length]; simp only [List.length_cons, List.length_nil]; omega))
            refine TL.op (yq (y_idx (k := (j2 - 1).toNat) (ev_t rfl) (ev_t rfl) (by first | omega | simp) slT_37 (rp_row 0 rfl) hb153)) rfl rfl rfl ?_
            refine TL.nil ?_
            refine TH.back (fun w hw => Hp.sublist hw (.cons _ (List.Sublist.refl _))) ?_
            refine TH.loud 17 rfl (by kernel_rfl) ?_
            refine TL.storePr 0 (u := ((data2.getD ((j2).toNat) (0, 0)).1, (data2.getD ((j2).toNat) (0, 0)).2)) (ev_t rfl) (ev_t rfl) arT_85 rfl hb153 ?_
            refine TL.nil ?_
            refine TH.back (fun w hw => Hp.sublist hw (.cons _ (List.Sublist.refl _))) ?_
            refine TH.done (by kernel_rfl) ?_
            exact fun a' w' hs hw => ⟨hs.sub ⟨rfl, rfl, rfl, rfl, rfl, rfl, trivial⟩, hw⟩
      · rintro a' w' ⟨hs', hw'⟩
        refine (?_ : TN _ .normal 53 (Hp w0 ([rowP 85 vdata ((data2.set ((j2).toNat) ((data2.getD ((j2 - 1).toNat) (0, 0)).1, (data2.getD ((j2 - 1).toNat) (0, 0)).2)).set ((j2 - 1).toNat) ((data2.getD ((j2).toNat) (0, 0)).1, (data2.getD ((j2).toNat) (0, 0)).2))] ++ fr)) [(0, vdata), (1, (.int .i64 a)), (2, (.int .i64 b)), (3, (.func (.func kcmp) #[] ccmp.toArray)), (8, (.int .i64 i1)), (9, (.int .i64 j2))]) a' w' hs' hw'
        clear hs' hw'
        refine TN.blockN ?_
        refine TN.seq ?_
        refine TC.region ?_
        refine TL.op (yq (y_move (ev_t rfl))) rfl rfl rfl ?_
        refine TL.op (yq (y_sub (ev_t rfl) ev_c (by unfold In64; constructor <;> omega))) rfl rfl rfl ?_
        refine TL.op (yq (y_assign (ev_t rfl))) rfl rfl rfl ?_
        refine TL.nil ?_
        exact TN.hand (mf2, j2 - 1, ((data2.set ((j2).toNat) ((data2.getD ((j2 - 1).toNat) (0, 0)).1, (data2.getD ((j2 - 1).toNat) (0, 0)).2)).set ((j2 - 1).toNat) ((data2.getD ((j2).toNat) (0, 0)).1, (data2.getD ((j2).toNat) (0, 0)).2))) ⟨(by first | omega | (simp [-List.getD_eq_getElem?_getD] <;> omega)), (by first | omega | (simp [-List.getD_eq_getElem?_getD] <;> omega)), ((hi2_2.set (hi2_2 _)).set (hi2_2 _)), (by first | omega | (simp [-List.getD_eq_getElem?_getD] <;> omega)), (by omega), hL2⟩ (Nat.lt_succ_self _) ⟨rfl, rfl, rfl, rfl, rfl, rfl, trivial⟩ (fun w hw => hw)
    · rw [bif_neg h131] at hL2
      have q132 := ((and_f h131).imp (fun h => (of_decide_eq_false h)) (fun h => (of_decide_eq_false h)))
      refine TC.exit ?_
      refine TN.thenE ?_
      refine TN.thenE ?_
      rw [← hL2, elim_next] at hL1
      try dsimp only at hL1
      refine TN.blockH ?_
      refine TN.blockN ?_
      refine TN.seq ?_
      refine TC.region ?_
      refine TL.op (yq (y_move (ev_t rfl))) rfl rfl rfl ?_
      refine TL.op (yq (y_add (ev_t rfl) ev_c (by unfold In64; constructor <;> omega))) rfl rfl rfl ?_
      refine TL.op (yq (y_assign (ev_t rfl))) rfl rfl rfl ?_
      refine TL.nil ?_
      exact TN.hand (mf1, i1 + 1, data2) ⟨(by first | omega | (simp [-List.getD_eq_getElem?_getD] <;> omega)), hi2_2, (by first | omega | (simp [-List.getD_eq_getElem?_getD] <;> omega)), (by omega), hL1⟩ (Nat.lt_succ_self _) ⟨rfl, rfl, rfl, rfl, rfl, trivial⟩ (fun w hw => hw)
  · rw [bif_neg h127] at hL1
    have q128 := (of_decide_eq_false h127)
    refine TC.exit ?_
    refine TN.thenE ?_
    refine TN.thenE ?_
    rw [← hL1, elim_next] at hF
    try dsimp only at hF
    refine TN.blockH ?_
    subst hF
    exact TN.ret0 (by first | exact .inl rfl | exact .inr rfl) rfl  (fun w' hw => ⟨(), rfl, hw⟩)

set_option maxRecDepth 4000 in
set_option maxHeartbeats 1000000 in
theorem slices_stableCmpFunc_2_int_ok (w0 w : World) (fr : List Ck) (vdata : Value) (data : List (Int × Int)) (hw : Hp w0 (rowP 85 vdata data :: fr) w) (n : Int) (gn : Int) (kcmp : Nat) (ccmp : List Value) (cmp : Int × Int → Int × Int → Int) (ecmp : En Try.prog kcmp) (hcmp : ∀ (w' : World) (c : Ck) (_ : Hp w0 (c :: fr) w') (x0 : Int × Int) (x1 : Int × Int), Dm gn x0 → Dm gn x1 → Calls Try.prog kcmp ([(.agg #[.int .i64 x0.1, .int .i64 x0.2]), (.agg #[.int .i64 x1.1, .int .i64 x1.2])] ++ ccmp : List Value).toArray w' (Ret (.int .i64 (cmp x0 x1)) (Hp w' []))) (hp0 : n = data.length) (hp1 : data.length < 20) (hp2 : DmA gn data) :
    Calls Try.prog 161 ([vdata, (.int .i64 n), (.func (.func kcmp) #[] ccmp.toArray)] : List Value).toArray w (fun e w' => ∃ _i : Unit, e = .returned (.tuple #[]) ∧ Hp w0 (rowP 85 vdata (F_slices_stableCmpFunc_2_int data n gn cmp) :: fr) w') := by
  obtain ⟨rz, hF⟩ : ∃ rz, (F_slices_stableCmpFunc_2_int data n gn cmp) = rz := ⟨_, rfl⟩
  rw [hF]
  unfold F_slices_stableCmpFunc_2_int at hF
  have hlen_data : data.length ≤ 9223372036854775807 := (hw.get 0 rfl).maxn
  refine calls_tcm Try.func161 rfl rfl rfl hw ?_
  change TC _ _ _ _ (Hp w0 ([rowP 85 vdata data] ++ fr)) [(0, vdata), (1, (.int .i64 n)), (2, (.func (.func kcmp) #[] ccmp.toArray))]
  refine TC.seq ?_
  refine TC.region ?_
  refine TL.op (yq (y_assign ev_c)) rfl rfl rfl ?_
  refine TL.nil ?_
  refine TN.seq ?_
  refine TC.seq ?_
  refine TC.region ?_
  refine TL.op (yq (y_move (ev_t rfl))) rfl rfl rfl ?_
  refine TL.op (yq (y_assign ev_c)) rfl rfl rfl ?_
  refine TL.op (yq (y_assign (ev_t rfl))) rfl rfl rfl ?_
  refine TL.nil ?_
  refine TN.seq ?_
  refine TC.seq ?_
  refine TC.block ?_
  obtain ⟨c9, hc10⟩ : ∃ c, F_slices_stableCmpFunc_2_int_L1  ((0) + 1) (0, 20) = c := ⟨_, rfl⟩
  rw [hc10] at hF
  refine TC.loop (ι := Nat × Nat × Nat) (fun (fu1, a1, b1) => [(0, vdata), (1, (.int .i64 n)), (2, (.func (.func kcmp) #[] ccmp.toArray)), (6, (.int .i64 20)), (7, (.int .i64 (a1 : Int))), (8, (.int .i64 (b1 : Int)))]) (fun (fu1, a1, b1) => Hp w0 ([rowP 85 vdata data] ++ fr)) (fun (fu1, a1, b1) => (a1 = 0 ∧ b1 = 20) ∧ 0 < fu1 ∧ F_slices_stableCmpFunc_2_int_L1  fu1 (a1, b1) = c9) (fun (fu1, a1, b1) => fu1) ((0) + 1, 0, 20) ⟨(by first | omega | (simp [-List.getD_eq_getElem?_getD] <;> omega)), (by omega), hc10⟩ ⟨rfl, rfl, rfl, rfl, rfl, rfl, trivial⟩ (fun w hw => hw) ?_
  rintro ⟨fu1, a1, b1⟩ hJ1
  obtain ⟨hi1_0, hmu1, hL1⟩ : (a1 = 0 ∧ b1 = 20) ∧ 0 < fu1 ∧ F_slices_stableCmpFunc_2_int_L1  fu1 (a1, b1) = c9 := hJ1
  change TC _ _ _ _ (Hp w0 ([rowP 85 vdata data] ++ fr)) [(0, vdata), (1, (.int .i64 n)), (2, (.func (.func kcmp) #[] ccmp.toArray)), (6, (.int .i64 20)), (7, (.int .i64 (a1 : Int))), (8, (.int .i64 (b1 : Int)))]
  obtain ⟨mf1, rfl⟩ : ∃ m, fu1 = m + 1 := ⟨fu1 - 1, by omega⟩
  rw [F_slices_stableCmpFunc_2_int_L1_s] at hL1
  refine TC.seq ?_
  refine TC.seq ?_
  refine TC.region ?_
  refine TL.op (yq (y_move (ev_t rfl))) rfl rfl rfl ?_
  refine TL.op (yq (y_move (ev_t rfl))) rfl rfl rfl ?_
  refine TL.op (yq (y_leq (ev_t rfl) (ev_t rfl))) rfl rfl rfl ?_
  refine TL.nil ?_
  refine TN.seq ?_
  have h11 : (decide ((b1 : Int) ≤ n)) = false := decide_eq_false (by omega)
  have q12 := (of_decide_eq_false h11)
  refine TC.condF (ev_t rfl) h11 ?_
  refine TC.exit ?_
  refine TN.thenE ?_
  refine TN.thenE ?_
  rw [← hL1, elim_next] at hF
  try dsimp only at hF
  refine TN.blockH ?_
  refine TN.seq ?_
  refine TC.seq ?_
  refine TC.region ?_
  refine TL.op (yq (y_move (ev_t rfl))) rfl rfl rfl ?_
  refine TL.op (yq (y_move (ev_t rfl))) rfl rfl rfl ?_
  refine TL.op (yq (y_move (ev_t rfl))) rfl rfl rfl ?_
  refine TL.op (yq (y_move (ev_t rfl))) rfl rfl rfl ?_
  refine TL.callmR (ι := Unit) 0 (vs := [vdata, (.int .i64 (a1 : Int)), (.int .i64 n), (.func (.func kcmp) #[] ccmp.toArray)]) (fun _ => (.tuple #[])) (fun _ => rowP 85 vdata (F_slices_insertionSortCmpFunc_2_int data (a1 : Int) n gn cmp)) en_176 ⟨(ev_t rfl), (ev_t rfl), (ev_t rfl), (ev_t rfl), trivial⟩ rfl rfl (fun w1 _ hw => slices_insertionSortCmpFunc_2_int_ok w0 w1 _ vdata data hw (a1 : Int) n gn kcmp ccmp cmp ecmp hcmp (by first | assumption | omega | grind) (by first | assumption | omega | grind) (by first | assumption | omega | grind)) (fun _ => ?_)
  refine TL.nil ?_
  refine TN.seq ?_
  refine TC.block ?_
  obtain ⟨c13, hc14⟩ : ∃ c, F_slices_stableCmpFunc_2_int_L2  ((0) + 1) 20 = c := ⟨_, rfl⟩
  rw [hc14] at hF
  refine TC.loop (ι := Nat × Nat) (fun (fu2, blockSize2) => [(0, vdata), (1, (.int .i64 n)), (2, (.func (.func kcmp) #[] ccmp.toArray)), (6, (.int .i64 (blockSize2 : Int)))]) (fun (fu2, blockSize2) => Hp w0 ([rowP 85 vdata (F_slices_insertionSortCmpFunc_2_int data (a1 : Int) n gn cmp)] ++ fr)) (fun (fu2, blockSize2) => (blockSize2 = 20) ∧ 0 < fu2 ∧ F_slices_stableCmpFunc_2_int_L2  fu2 blockSize2 = c13) (fun (fu2, blockSize2) => fu2) ((0) + 1, 20) ⟨(by first | omega | (simp [-List.getD_eq_getElem?_getD] <;> omega)), (by omega), hc14⟩ ⟨rfl, rfl, rfl, rfl, trivial⟩ (fun w hw => hw) ?_
  rintro ⟨fu2, blockSize2⟩ hJ2
  obtain ⟨hi2_0, hmu2, hL2⟩ : (blockSize2 = 20) ∧ 0 < fu2 ∧ F_slices_stableCmpFunc_2_int_L2  fu2 blockSize2 = c13 := hJ2
  change TC _ _ _ _ (Hp w0 ([rowP 85 vdata (F_slices_insertionSortCmpFunc_2_int data (a1 : Int) n gn cmp)] ++ fr)) [(0, vdata), (1, (.int .i64 n)), (2, (.func (.func kcmp) #[] ccmp.toArray)), (6, (.int .i64 (blockSize2 : Int)))]
  obtain ⟨mf2, rfl⟩ : ∃ m, fu2 = m + 1 := ⟨fu2 - 1, by omega⟩
  rw [F_slices_stableCmpFunc_2_int_L2_s] at hL2
  refine TC.seq ?_
  refine TC.seq ?_
  refine TC.region ?_
  refine TL.op (yq (y_move (ev_t rfl))) rfl rfl rfl ?_
  refine TL.op (yq (y_move (ev_t rfl))) rfl rfl rfl ?_
  refine TL.op (yq (y_lss (ev_t rfl) (ev_t rfl))) rfl rfl rfl ?_
  refine TL.nil ?_
  refine TN.seq ?_
  have h15 : (decide ((blockSize2 : Int) < n)) = false := decide_eq_false (by omega)
  have q16 := (of_decide_eq_false h15)
  refine TC.condF (ev_t rfl) h15 ?_
  refine TC.exit ?_
  refine TN.thenE ?_
  refine TN.thenE ?_
  rw [← hL2, elim_next] at hF
  try dsimp only at hF
  refine TN.blockH ?_
  subst hF
  exact TN.ret0 (by first | exact .inl rfl | exact .inr rfl) rfl  (fun w' hw => ⟨(), rfl, hw⟩)

set_option maxRecDepth 4000 in
set_option maxHeartbeats 1000000 in
theorem slices_SortStableFunc_S_2_int_2_int_ok (w0 w : World) (fr : List Ck) (vx : Value) (x : List (Int × Int)) (hw : Hp w0 (rowP 85 vx x :: fr) w) (gn : Int) (kcmp : Nat) (ccmp : List Value) (cmp : Int × Int → Int × Int → Int) (ecmp : En Try.prog kcmp) (hcmp : ∀ (w' : World) (c : Ck) (_ : Hp w0 (c :: fr) w') (x0 : Int × Int) (x1 : Int × Int), Dm gn x0 → Dm gn x1 → Calls Try.prog kcmp ([(.agg #[.int .i64 x0.1, .int .i64 x0.2]), (.agg #[.int .i64 x1.1, .int .i64 x1.2])] ++ ccmp : List Value).toArray w' (Ret (.int .i64 (cmp x0 x1)) (Hp w' []))) (hp0 : x.length < 20) (hp1 : DmA gn x) :
    Calls Try.prog 131 ([vx, (.func (.func kcmp) #[] ccmp.toArray)] : List Value).toArray w (fun e w' => ∃ _i : Unit, e = .returned (.tuple #[]) ∧ Hp w0 (rowP 85 vx (F_slices_SortStableFunc_S_2_int_2_int x gn cmp) :: fr) w') := by
  obtain ⟨rz, hF⟩ : ∃ rz, (F_slices_SortStableFunc_S_2_int_2_int x gn cmp) = rz := ⟨_, rfl⟩
  rw [hF]
  unfold F_slices_SortStableFunc_S_2_int_2_int at hF
  have hlen_x : x.length ≤ 9223372036854775807 := (hw.get 0 rfl).maxn
  refine calls_tcm Try.func131 rfl rfl rfl hw ?_
  change TC _ _ _ _ (Hp w0 ([rowP 85 vx x] ++ fr)) [(0, vx), (1, (.func (.func kcmp) #[] ccmp.toArray))]
  refine TC.region ?_
  refine TL.op (yq (y_move (ev_t rfl))) rfl rfl rfl ?_
  refine TL.op (yq (y_move (ev_t rfl))) rfl rfl rfl ?_
  refine TL.op (yq (y_len (ev_t rfl) Try.underlying37 (fun w hw => ((rp_row 0 rfl) w hw).ln))) rfl rfl rfl ?_
  refine TL.op (yq (y_move (ev_t rfl))) rfl rfl rfl ?_
  refine TL.callmR (ι := Unit) 0 (vs := [vx, (.int .i64 (x.length : Int)), (.func (.func kcmp) #[] ccmp.toArray)]) (fun _ => (.tuple #[])) (fun _ => rowP 85 vx (F_slices_stableCmpFunc_2_int x (x.length : Int) gn cmp)) en_161 ⟨(ev_t rfl), (ev_t rfl), (ev_t rfl), trivial⟩ rfl rfl (fun w1 _ hw => slices_stableCmpFunc_2_int_ok w0 w1 _ vx x hw (x.length : Int) gn kcmp ccmp cmp ecmp hcmp (by first | assumption | omega | grind) (by first | assumption | omega | grind) (by first | assumption | omega | grind)) (fun _ => ?_)
  refine TL.nil ?_
  subst hF
  exact TN.ret0 (by first | exact .inl rfl | exact .inr rfl) rfl  (fun w' hw => ⟨(), rfl, hw⟩)

end Go.Proofs.Ytcmhgkcifejgcaa
namespace Go.Proofs.Ytcmhgkcifejgcaa
set_option linter.unusedVariables false
set_option linter.unusedSimpArgs false
open Go Go.RowKit
set_option linter.unusedVariables false

set_option maxRecDepth 4000 in
set_option maxHeartbeats 1000000 in
theorem spec_l1In_ok (w : World) (x : Int) (a : Int) (b : Int)  :
    Calls Try.prog 81 ([(.int .i64 x), (.int .i64 a), (.int .i64 b)] : List Value).toArray w (Ret (.bool (F_spec_l1In x a b)) (Hp w [])) := by
  obtain ⟨rz, hF⟩ : ∃ rz, (F_spec_l1In x a b) = rz := ⟨_, rfl⟩
  rw [hF]
  unfold F_spec_l1In at hF
  refine calls_tc Try.func81 rfl rfl rfl ?_
  change TC _ _ _ _ (Hp w []) [(0, (.int .i64 x)), (1, (.int .i64 a)), (2, (.int .i64 b))]
  refine TC.seq ?_
  refine TC.region ?_
  refine TL.op (yq (y_assign ev_c)) rfl rfl rfl ?_
  refine TL.nil ?_
  refine TN.seq ?_
  refine TC.seq ?_
  refine TC.region ?_
  refine TL.op (yq (y_move (ev_t rfl))) rfl rfl rfl ?_
  refine TL.op (yq (y_move (ev_t rfl))) rfl rfl rfl ?_
  refine TL.op (yq (y_geq (ev_t rfl) (ev_t rfl))) rfl rfl rfl ?_
  refine TL.op (yq (y_move (ev_t rfl))) rfl rfl rfl ?_
  refine TL.opw (w_t rfl rfl rfl) (fun hg => yq (y_move (ev_t rfl))) rfl rfl ?_
  refine TL.opw (w_t rfl rfl rfl) (fun hg => yq (y_move (ev_t rfl))) rfl rfl ?_
  refine TL.opw (w_t rfl rfl rfl) (fun hg => yq (y_leq (ev_g rfl hg) (ev_g rfl hg))) rfl rfl ?_
  refine TL.op (yq (y_and (ev_t rfl) (fun hq => (ev_g rfl hq)))) rfl rfl rfl ?_
  refine TL.op (yq (y_assign (ev_t rfl))) rfl rfl rfl ?_
  refine TL.nil ?_
  refine TN.seq ?_
  refine TC.ret ?_
  subst hF
  exact TN.ret1 rfl (ev_t rfl) (fun w' hw => ⟨rfl, hw⟩)

set_option maxRecDepth 4000 in
set_option maxHeartbeats 1000000 in
theorem impl_within_ok (w : World) (n : Int) (lo : Int) (hi : Int)  :
    Calls Try.prog 78 ([(.int .i64 n), (.int .i64 lo), (.int .i64 hi)] : List Value).toArray w (Ret (.bool (F_impl_within n lo hi)) (Hp w [])) := by
  obtain ⟨rz, hF⟩ : ∃ rz, (F_impl_within n lo hi) = rz := ⟨_, rfl⟩
  rw [hF]
  unfold F_impl_within at hF
  refine calls_tc Try.func78 rfl rfl rfl ?_
  change TC _ _ _ _ (Hp w []) [(0, (.int .i64 n)), (1, (.int .i64 lo)), (2, (.int .i64 hi))]
  refine TC.seq ?_
  refine TC.region ?_
  refine TL.op (yq (y_assign ev_c)) rfl rfl rfl ?_
  refine TL.nil ?_
  refine TN.seq ?_
  refine TC.seq ?_
  refine TC.region ?_
  refine TL.op (yq (y_move (ev_t rfl))) rfl rfl rfl ?_
  refine TL.op (yq (y_move (ev_t rfl))) rfl rfl rfl ?_
  refine TL.op (yq (y_geq (ev_t rfl) (ev_t rfl))) rfl rfl rfl ?_
  refine TL.op (yq (y_move (ev_t rfl))) rfl rfl rfl ?_
  refine TL.opw (w_t rfl rfl rfl) (fun hg => yq (y_move (ev_t rfl))) rfl rfl ?_
  refine TL.opw (w_t rfl rfl rfl) (fun hg => yq (y_move (ev_t rfl))) rfl rfl ?_
  refine TL.opw (w_t rfl rfl rfl) (fun hg => yq (y_leq (ev_g rfl hg) (ev_g rfl hg))) rfl rfl ?_
  refine TL.op (yq (y_and (ev_t rfl) (fun hq => (ev_g rfl hq)))) rfl rfl rfl ?_
  refine TL.op (yq (y_assign (ev_t rfl))) rfl rfl rfl ?_
  refine TL.nil ?_
  refine TN.seq ?_
  refine TC.ret ?_
  subst hF
  exact TN.ret1 rfl (ev_t rfl) (fun w' hw => ⟨rfl, hw⟩)

set_option maxRecDepth 4000 in
set_option maxHeartbeats 1000000 in
theorem spec_l1Has_ok (w : World) (vl : Value) (l : List Int) (hl : RI w vl l) (n : Int)  :
    Calls Try.prog 104 ([vl, (.int .i64 n)] : List Value).toArray w (Ret (.bool (F_spec_l1Has l n)) (Hp w [])) := by
  obtain ⟨rz, hF⟩ : ∃ rz, (F_spec_l1Has l n) = rz := ⟨_, rfl⟩
  rw [hF]
  unfold F_spec_l1Has at hF
  have hlen_l := arg_len hl
  refine calls_tc Try.func104 rfl rfl rfl ?_
  change TC _ _ _ _ (Hp w []) [(0, vl), (1, (.int .i64 n))]
  refine TC.seq ?_
  refine TC.region ?_
  refine TL.op (yq (y_assign ev_c)) rfl rfl rfl ?_
  refine TL.nil ?_
  refine TN.seq ?_
  refine TC.seq ?_
  refine TC.seq ?_
  refine TC.region ?_
  refine TL.op (yq (y_assign ev_c)) rfl rfl rfl ?_
  refine TL.nil ?_
  refine TN.seq ?_
  refine TC.block ?_
  obtain ⟨c11, hc12⟩ : ∃ c, F_spec_l1Has_L1 l n ((l.length - 0) + 1) 0 = c := ⟨_, rfl⟩
  rw [hc12] at hF
  refine TC.loop (ι := Nat × Nat) (fun (fu1, i1) => [(0, vl), (1, (.int .i64 n)), (5, (.int .i64 (i1 : Int)))]) (fun (fu1, i1) => Hp w []) (fun (fu1, i1) => (i1 ≤ l.length) ∧ l.length - i1 < fu1 ∧ F_spec_l1Has_L1 l n fu1 i1 = c11) (fun (fu1, i1) => fu1) ((l.length - 0) + 1, 0) ⟨(by first | omega | (simp [-List.getD_eq_getElem?_getD] <;> omega)), (by omega), hc12⟩ ⟨rfl, rfl, rfl, trivial⟩ (fun w hw => hw) ?_
  rintro ⟨fu1, i1⟩ hJ1
  obtain ⟨hi1_0, hmu1, hL1⟩ : (i1 ≤ l.length) ∧ l.length - i1 < fu1 ∧ F_spec_l1Has_L1 l n fu1 i1 = c11 := hJ1
  change TC _ _ _ _ (Hp w []) [(0, vl), (1, (.int .i64 n)), (5, (.int .i64 (i1 : Int)))]
  obtain ⟨mf1, rfl⟩ : ∃ m, fu1 = m + 1 := ⟨fu1 - 1, by omega⟩
  rw [F_spec_l1Has_L1_s] at hL1
  refine TC.seq ?_
  refine TC.seq ?_
  refine TC.region ?_
  refine TL.op (yq (y_move (ev_t rfl))) rfl rfl rfl ?_
  refine TL.op (yq (y_move (ev_t rfl))) rfl rfl rfl ?_
  refine TL.op (yq (y_len (ev_t rfl) Try.underlying34 (fun w hw => ((ri_arg hl) w hw).ln))) rfl rfl rfl ?_
  refine TL.op (yq (y_lss (ev_t rfl) (ev_t rfl))) rfl rfl rfl ?_
  refine TL.nil ?_
  refine TN.seq ?_
  refine TC.cond (b := decide ((i1 : Int) < (l.length : Int))) (ev_t rfl) (fun h13 => ?_) (fun h13 => ?_)
  · rw [bif_pos h13] at hL1
    have q14 := (of_decide_eq_true h13)
    refine TC.skip ?_
    refine TN.seq ?_
    refine TC.seq ?_
    refine TC.block ?_
    refine TC.seq ?_
    refine TC.region ?_
    refine TL.op (yq (y_move (ev_t rfl))) rfl rfl rfl ?_
    refine TL.op (yq (y_move (ev_t rfl))) rfl rfl rfl ?_
    have hb15 : i1 < l.length := (by first | omega | (simp only [List.length_set, List.length_append, List.length_cons, List.length_nil, List.length_replicate]; omega) | (rw [sortI_length]; simp only [List.length_cons, List.length_nil]; omega))
    refine TL.op (yq (y_idx (k := i1) (ev_t rfl) (ev_t rfl) (by first | omega | simp) slT_34 (ri_arg hl) hb15)) rfl rfl rfl ?_
    refine TL.op (yq (y_ldi (ev_t rfl) one_3 (ri_arg hl) hb15)) rfl rfl rfl ?_
    refine TL.op (yq (y_move (ev_t rfl))) rfl rfl rfl ?_
    refine TL.op (yq (y_eql (ev_t rfl) (ev_t rfl))) rfl rfl rfl ?_
    refine TL.nil ?_
    refine TN.seq ?_
    refine TC.cond (b := decide ((l.getD i1 0) = n)) (ev_t rfl) (fun h16 => ?_) (fun h16 => ?_)
    · rw [bif_pos h16] at hL1
      have q17 := (of_decide_eq_true h16)
      refine TC.seq ?_
      refine TC.region ?_
      refine TL.op (yq (y_assign ev_c)) rfl rfl rfl ?_
      refine TL.nil ?_
      refine TN.seq ?_
      refine TC.ret ?_
      refine TN.blockR ?_
      refine TN.thenR ?_
      refine TN.thenR ?_
      rw [← hL1, elim_ret] at hF
      refine TN.blockR ?_
      refine TN.thenR ?_
      subst hF
      exact TN.ret1 rfl (ev_t rfl) (fun w' hw => ⟨rfl, hw⟩)
    · rw [bif_neg h16] at hL1
      have q17 := (of_decide_eq_false h16)
      refine TC.skip ?_
      refine TN.blockN ?_
      refine TN.seq ?_
      refine TC.region ?_
      refine TL.op (yq (y_move (ev_t rfl))) rfl rfl rfl ?_
      refine TL.op (yq (y_add (ev_t rfl) ev_c (by unfold In64; constructor <;> omega))) rfl rfl rfl ?_
      refine TL.op (yq (y_assign (ev_t rfl))) rfl rfl rfl ?_
      refine TL.nil ?_
      exact TN.hand (mf1, (i1 + 1)) ⟨(by first | omega | (simp [-List.getD_eq_getElem?_getD] <;> omega)), (by omega), hL1⟩ (Nat.lt_succ_self _) ⟨rfl, rfl, rfl, trivial⟩ (fun w hw => hw)
  · rw [bif_neg h13] at hL1
    have q14 := (of_decide_eq_false h13)
    refine TC.exit ?_
    refine TN.thenE ?_
    refine TN.thenE ?_
    rw [← hL1, elim_next] at hF
    try dsimp only at hF
    refine TN.blockH ?_
    refine TN.seq ?_
    refine TC.seq ?_
    refine TC.region ?_
    refine TL.op (yq (y_assign ev_c)) rfl rfl rfl ?_
    refine TL.nil ?_
    refine TN.seq ?_
    refine TC.ret ?_
    subst hF
    exact TN.ret1 rfl (ev_t rfl) (fun w' hw => ⟨rfl, hw⟩)

set_option maxRecDepth 4000 in
set_option maxHeartbeats 1000000 in
theorem impl_Metric_isTable_1_ok (w : World) (vrow : Value) (row : List Int) (hrow : RI w vrow row) (gn : Nat) (n : Int) (hn : CellAt w gn (.int .i64 n))  :
    Calls Try.prog 160 ([vrow, (.pointer (some ⟨gn, 0, none⟩))] : List Value).toArray w (Ret (.bool (F_impl_Metric_isTable_1 row n)) (Hp w [])) := by
  obtain ⟨rz, hF⟩ : ∃ rz, (F_impl_Metric_isTable_1 row n) = rz := ⟨_, rfl⟩
  rw [hF]
  unfold F_impl_Metric_isTable_1 at hF
  have hlen_row := arg_len hrow
  refine calls_tc Try.func160 rfl rfl rfl ?_
  change TC _ _ _ _ (Hp w []) [(0, vrow), (1, (.pointer (some ⟨gn, 0, none⟩)))]
  refine TC.seq ?_
  refine TC.region ?_
  refine TL.op (yq (y_assign ev_c)) rfl rfl rfl ?_
  refine TL.nil ?_
  refine TN.seq ?_
  refine TC.seq ?_
  refine TC.region ?_
  refine TL.op (yq (y_move (ev_t rfl))) rfl rfl rfl ?_
  refine TL.op (yq (y_len (ev_t rfl) Try.underlying34 (fun w hw => ((ri_arg hrow) w hw).ln))) rfl rfl rfl ?_
  refine TL.op (yq (y_ldc (ev_t rfl) one_3 hn)) rfl rfl rfl ?_
  refine TL.op (yq (y_neq (ev_t rfl) (ev_t rfl))) rfl rfl rfl ?_
  refine TL.op (yq (y_assign (ev_t rfl))) rfl rfl rfl ?_
  refine TL.nil ?_
  refine TN.seq ?_
  refine TC.ret ?_
  subst hF
  exact TN.ret1 rfl (ev_t rfl) (fun w' hw => ⟨rfl, hw⟩)

set_option maxRecDepth 4000 in
set_option maxHeartbeats 1000000 in
theorem impl_Metric_isTable_ok (w : World) (vm : Value) (um : List Value) (m : List (List Int)) (hm : RII w vm um m) (opn : Bool)  :
    Calls Try.prog 129 ([(.agg #[vm]), (.bool opn)] : List Value).toArray w (Ret (.bool (F_impl_Metric_isTable m opn)) (Hp w [])) := by
  obtain ⟨rz, hF⟩ : ∃ rz, (F_impl_Metric_isTable m opn) = rz := ⟨_, rfl⟩
  rw [hF]
  unfold F_impl_Metric_isTable at hF
  have hlen_m := argT_len hm
  refine calls_tc Try.func129 rfl rfl rfl ?_
  change TC _ _ _ _ (Hp w []) [(0, (.agg #[vm])), (1, (.bool opn))]
  refine TC.seq ?_
  refine TC.region ?_
  refine TL.box (ev_t rfl) rfl (fun g0_0 => ?_)
  refine TL.op (yq (y_assign ev_c)) rfl rfl rfl ?_
  refine TL.nil ?_
  refine TN.seq ?_
  refine TC.seq ?_
  refine TC.region ?_
  refine TL.op (yq (y_fa (fa_55_0 g0_0) (ev_t rfl))) rfl rfl rfl ?_
  refine TL.op (yq (y_ldb 0 (ev_t rfl) one_49 rfl rfl)) rfl rfl rfl ?_
  refine TL.op (yq (y_len (ev_t rfl) Try.underlying49 (fun w hw => ((fun w hw => ((rii_arg hm) w hw).1) w hw).ln))) rfl rfl rfl ?_
  refine TL.alloc (u := (.int .i64 0)) (by kernel_rfl) rfl (fun g1_3 => ?_)
  refine TL.storeB 0 (ev_t rfl) (ev_t rfl) one_3 rfl (by first | decide | simp) (fun w hw => rfl) ?_
  refine TL.nil ?_
  refine TN.seq ?_
  refine TC.seq ?_
  refine TC.seq ?_
  refine TC.region ?_
  refine TL.op (yq (y_ldb 0 (ev_t rfl) one_3 rfl rfl)) rfl rfl rfl ?_
  refine TL.op (y_call (vs := [(.int .i64 (m.length : Int)), (.int .i64 1), (.int .i64 6)]) (v := (.bool ((decide (1 ≤ (m.length : Int))) && (decide ((m.length : Int) ≤ 6))))) en_78 ⟨(ev_t rfl), ev_c, ev_c, trivial⟩ (fun w hw => impl_within_ok w (m.length : Int) 1 6)) rfl rfl rfl ?_
  refine TL.op (yq (y_not (ev_t rfl))) rfl rfl rfl ?_
  refine TL.op (yq (y_move (ev_t rfl))) rfl rfl rfl ?_
  refine TL.opw (w_f rfl rfl rfl) (fun hg => yq (y_fa (fa_55_0 g0_0) (ev_t rfl))) rfl rfl ?_
  refine TL.opw (w_f rfl rfl rfl) (fun hg => yq (y_ldb 1 (ev_g rfl hg) one_49 rfl rfl)) rfl rfl ?_
  refine TL.opw (w_f rfl rfl rfl) (fun hg => yq (y_mkf (us := [(.pointer (some ⟨g1_3, 0, none⟩))]) ⟨(ev_t rfl), trivial⟩)) rfl rfl ?_
  refine TL.opw (w_f rfl rfl rfl) (fun hg => y_call (vs := [vm, (.func (.func 160) #[] ([(.pointer (some ⟨g1_3, 0, none⟩))] : List Value).toArray)]) (v := (.bool (F_slices_ContainsFunc_SSint_Sint m (fun row => F_impl_Metric_isTable_1 row (m.length : Int))))) en_159 ⟨(ev_g rfl hg), (ev_g rfl hg), trivial⟩ (fun w hw => slices_ContainsFunc_SSint_Sint_ok w vm um m ((rii_arg hm) w hw) 160 [(.pointer (some ⟨g1_3, 0, none⟩))] (fun row => F_impl_Metric_isTable_1 row (m.length : Int)) en_160 (fun w2 hb vrow row hrow => impl_Metric_isTable_1_ok w2 vrow row hrow g1_3 (m.length : Int) (cell_blk 0 rfl rfl hw hb)))) rfl rfl ?_
  refine TL.op (yq (y_or (ev_t rfl) (fun hq => (ev_g rfl hq)))) rfl rfl rfl ?_
  refine TL.nil ?_
  refine TN.seq ?_
  refine TC.cond (b := ((!((decide (1 ≤ (m.length : Int))) && (decide ((m.length : Int) ≤ 6)))) || (F_slices_ContainsFunc_SSint_Sint m (fun row => F_impl_Metric_isTable_1 row (m.length : Int))))) (ev_t rfl) (fun h65 => ?_) (fun h65 => ?_)
  · rw [bif_pos h65] at hF
    have q66 := ((or_t h65).imp (fun h => ((and_f (not_t h)).imp (fun h => (of_decide_eq_false h)) (fun h => (of_decide_eq_false h)))) (fun h => h))
    refine TC.seq ?_
    refine TC.region ?_
    refine TL.op (yq (y_assign ev_c)) rfl rfl rfl ?_
    refine TL.nil ?_
    refine TN.seq ?_
    refine TC.ret ?_
    refine TN.thenR ?_
    subst hF
    exact TN.ret1 rfl (ev_t rfl) (fun w' hw => ⟨rfl, Hp.sublist hw (List.nil_sublist _)⟩)
  · rw [bif_neg h65] at hF
    have q66 := (and_imp (or_f h65) (fun h => (and_imp (and_t (not_f h)) (fun h => (of_decide_eq_true h)) (fun h => (of_decide_eq_true h)))) (fun h => h))
    refine TC.skip ?_
    refine TN.seq ?_
    refine TC.seq ?_
    refine TC.seq ?_
    refine TC.region ?_
    refine TL.op (yq (y_ldb 0 (ev_t rfl) one_3 rfl rfl)) rfl rfl rfl ?_
    refine TL.op (yq (y_move ev_c)) rfl rfl rfl ?_
    refine TL.nil ?_
    refine TN.seq ?_
    refine TC.block ?_
    have hrows := rows_of (m := m) (And.right (by assumption))
    obtain ⟨c67, hc68⟩ : ∃ c, F_impl_Metric_isTable_L1 m opn ((m.length - 0) + 1) 0 = c := ⟨_, rfl⟩
    rw [hc68] at hF
    refine TC.loop (ι := Nat × Nat) (fun (fu1, k22_1) => [(1, (.bool opn)), (2, (.pointer (some ⟨g0_0, 0, none⟩))), (21, (.int .i64 (m.length : Int))), (22, (.int .i64 (k22_1 : Int)))]) (fun (fu1, k22_1) => Hp w [.blk g0_0 55 [vm]]) (fun (fu1, k22_1) => (k22_1 ≤ m.length) ∧ m.length - k22_1 < fu1 ∧ F_impl_Metric_isTable_L1 m opn fu1 k22_1 = c67) (fun (fu1, k22_1) => fu1) ((m.length - 0) + 1, 0) ⟨(by first | omega | (simp [-List.getD_eq_getElem?_getD] <;> omega)), (by omega), hc68⟩ ⟨rfl, rfl, rfl, rfl, trivial⟩ (fun w hw => Hp.sublist hw (.cons _ (.cons_cons _ .slnil))) ?_
    rintro ⟨fu1, k22_1⟩ hJ1
    obtain ⟨hi1_0, hmu1, hL1⟩ : (k22_1 ≤ m.length) ∧ m.length - k22_1 < fu1 ∧ F_impl_Metric_isTable_L1 m opn fu1 k22_1 = c67 := hJ1
    change TC _ _ _ _ (Hp w [.blk g0_0 55 [vm]]) [(1, (.bool opn)), (2, (.pointer (some ⟨g0_0, 0, none⟩))), (21, (.int .i64 (m.length : Int))), (22, (.int .i64 (k22_1 : Int)))]
    obtain ⟨mf1, rfl⟩ : ∃ m, fu1 = m + 1 := ⟨fu1 - 1, by omega⟩
    rw [F_impl_Metric_isTable_L1_s] at hL1
    have hrw := hrows k22_1
    refine TC.seq ?_
    refine TC.region ?_
    refine TL.op (yq (y_lss (ev_t rfl) (ev_t rfl))) rfl rfl rfl ?_
    refine TL.nil ?_
    refine TN.seq ?_
    refine TC.seq ?_
    refine TC.cond (b := decide ((k22_1 : Int) < (m.length : Int))) (ev_t rfl) (fun h69 => ?_) (fun h69 => ?_)
    · rw [bif_pos h69] at hL1
      have q70 := (of_decide_eq_true h69)
      refine TC.skip ?_
      refine TN.seq ?_
      refine TC.seq ?_
      refine TC.block ?_
      refine TC.seq ?_
      refine TC.region ?_
      refine TL.op (yq (y_move (ev_t rfl))) rfl rfl rfl ?_
      refine TL.op (yq (y_assign (ev_t rfl))) rfl rfl rfl ?_
      refine TL.nil ?_
      refine TN.seq ?_
      refine TC.seq ?_
      refine TC.region ?_
      refine TL.op (yq (y_fa (fa_55_0 g0_0) (ev_t rfl))) rfl rfl rfl ?_
      refine TL.op (yq (y_ldb 0 (ev_t rfl) one_49 rfl rfl)) rfl rfl rfl ?_
      refine TL.op (yq (y_move (ev_t rfl))) rfl rfl rfl ?_
      have hb71 : k22_1 < m.length := (by first | omega | (simp only [List.length_set, List.length_append, List.length_cons, List.length_nil, List.length_replicate]; omega) | (rw [sortI_length]; simp only [List.length_cons, List.length_nil]; omega))
      refine TL.op (yq (y_idx (k := k22_1) (ev_t rfl) (ev_t rfl) (by first | omega | simp) slT_49 (fun w hw => ((rii_arg hm) w hw).1) hb71)) rfl rfl rfl ?_
      have ha72 := hm.row (i := k22_1) hb71
      refine TL.op (yq (y_ldA (ev_t rfl) one_34 (rii_arg hm) hb71)) rfl rfl rfl ?_
      refine TL.op (yq (y_len (ev_t rfl) Try.underlying34 (fun w hw => ((ri_arg ha72) w hw).ln))) rfl rfl rfl ?_
      refine TL.op (yq (y_move ev_c)) rfl rfl rfl ?_
      refine TL.nil ?_
      refine TN.seq ?_
      refine TC.block ?_
      obtain ⟨c73, hc74⟩ : ∃ c, F_impl_Metric_isTable_L2 m opn k22_1 ((((m.getD k22_1 []).length) - 0) + 1) 0 = c := ⟨_, rfl⟩
      rw [hc74] at hL1
      refine TC.loop (ι := Nat × Nat) (fun (fu2, k31_2) => [(1, (.bool opn)), (2, (.pointer (some ⟨g0_0, 0, none⟩))), (6, (.int .i64 (k22_1 : Int))), (21, (.int .i64 (m.length : Int))), (22, (.int .i64 (k22_1 : Int))), (29, (um.getD k22_1 undef)), (30, (.int .i64 ((m.getD k22_1 []).length : Int))), (31, (.int .i64 (k31_2 : Int)))]) (fun (fu2, k31_2) => Hp w [.blk g0_0 55 [vm]]) (fun (fu2, k31_2) => (k31_2 ≤ ((m.getD k22_1 []).length)) ∧ ((m.getD k22_1 []).length) - k31_2 < fu2 ∧ F_impl_Metric_isTable_L2 m opn k22_1 fu2 k31_2 = c73) (fun (fu2, k31_2) => fu2) ((((m.getD k22_1 []).length) - 0) + 1, 0) ⟨(by first | omega | (simp [-List.getD_eq_getElem?_getD] <;> omega)), (by omega), hc74⟩ ⟨rfl, rfl, rfl, rfl, rfl, rfl, rfl, rfl, trivial⟩ (fun w hw => hw) ?_
      rintro ⟨fu2, k31_2⟩ hJ2
      obtain ⟨hi2_0, hmu2, hL2⟩ : (k31_2 ≤ ((m.getD k22_1 []).length)) ∧ ((m.getD k22_1 []).length) - k31_2 < fu2 ∧ F_impl_Metric_isTable_L2 m opn k22_1 fu2 k31_2 = c73 := hJ2
      change TC _ _ _ _ (Hp w [.blk g0_0 55 [vm]]) [(1, (.bool opn)), (2, (.pointer (some ⟨g0_0, 0, none⟩))), (6, (.int .i64 (k22_1 : Int))), (21, (.int .i64 (m.length : Int))), (22, (.int .i64 (k22_1 : Int))), (29, (um.getD k22_1 undef)), (30, (.int .i64 ((m.getD k22_1 []).length : Int))), (31, (.int .i64 (k31_2 : Int)))]
      obtain ⟨mf2, rfl⟩ : ∃ m, fu2 = m + 1 := ⟨fu2 - 1, by omega⟩
      rw [F_impl_Metric_isTable_L2_s] at hL2
      have hrw2 := hrows k31_2
      refine TC.seq ?_
      refine TC.region ?_
      refine TL.op (yq (y_lss (ev_t rfl) (ev_t rfl))) rfl rfl rfl ?_
      refine TL.nil ?_
      refine TN.seq ?_
      refine TC.seq ?_
      refine TC.cond (b := decide ((k31_2 : Int) < ((m.getD k22_1 []).length : Int))) (ev_t rfl) (fun h75 => ?_) (fun h75 => ?_)
      · rw [bif_pos h75] at hL2
        have q76 := (of_decide_eq_true h75)
        refine TC.skip ?_
        refine TN.seq ?_
        refine TC.seq ?_
        refine TC.block ?_
        refine TC.seq ?_
        refine TC.region ?_
        refine TL.op (yq (y_move (ev_t rfl))) rfl rfl rfl ?_
        have hb77 : k31_2 < (m.getD k22_1 []).length := (by first | omega | (simp only [List.length_set, List.length_append, List.length_cons, List.length_nil, List.length_replicate]; omega) | (rw [sortI_length]; simp only [List.length_cons, List.length_nil]; omega))
        refine TL.op (yq (y_idx (k := k31_2) (ev_t rfl) (ev_t rfl) (by first | omega | simp) slT_34 (ri_arg ha72) hb77)) rfl rfl rfl ?_
        refine TL.op (yq (y_ldi (ev_t rfl) one_3 (ri_arg ha72) hb77)) rfl rfl rfl ?_
        refine TL.op (yq (y_assign (ev_t rfl))) rfl rfl rfl ?_
        refine TL.op (yq (y_assign (ev_t rfl))) rfl rfl rfl ?_
        refine TL.nil ?_
        refine TN.seq ?_
        refine TC.block ?_
        refine TC.seq ?_
        refine TC.seq ?_
        refine TC.region ?_
        refine TL.op (yq (y_move (ev_t rfl))) rfl rfl rfl ?_
        refine TL.op (yq (y_move (ev_t rfl))) rfl rfl rfl ?_
        refine TL.op (yq (y_eql (ev_t rfl) (ev_t rfl))) rfl rfl rfl ?_
        refine TL.op (yq (y_move (ev_t rfl))) rfl rfl rfl ?_
        refine TL.opw (w_t rfl rfl rfl) (fun hg => yq (y_move (ev_t rfl))) rfl rfl ?_
        refine TL.opw (w_t rfl rfl rfl) (fun hg => yq (y_neq (ev_g rfl hg) ev_c)) rfl rfl ?_
        refine TL.op (yq (y_and (ev_t rfl) (fun hq => (ev_g rfl hq)))) rfl rfl rfl ?_
        refine TL.op (yq (y_assign (ev_t rfl))) rfl rfl rfl ?_
        refine TL.nil ?_
        refine TN.seq ?_
        refine TC.cond (b := ((decide ((k22_1 : Int) = (k31_2 : Int))) && (!decide (((m.getD k22_1 []).getD k31_2 0) = 0)))) (ev_t rfl) (fun h78 => ?_) (fun h78 => ?_)
        · rw [bif_pos h78] at hL2
          have q79 := (and_imp (and_t h78) (fun h => (of_decide_eq_true h)) (fun h => (of_decide_eq_false (not_t h))))
          refine TC.skip ?_
          refine TN.seq ?_
          refine TC.condT (ev_t rfl) h78 ?_
          refine TC.seq ?_
          refine TC.region ?_
          refine TL.op (yq (y_assign ev_c)) rfl rfl rfl ?_
          refine TL.nil ?_
          refine TN.seq ?_
          refine TC.ret ?_
          refine TN.blockR ?_
          refine TN.blockR ?_
          refine TN.thenR ?_
          refine TN.thenR ?_
          rw [← hL2, elim_ret] at hL1
          refine TN.blockR ?_
          refine TN.blockR ?_
          refine TN.thenR ?_
          refine TN.thenR ?_
          rw [← hL1, elim_ret] at hF
          refine TN.blockR ?_
          refine TN.thenR ?_
          subst hF
          exact TN.ret1 rfl (ev_t rfl) (fun w' hw => ⟨rfl, Hp.sublist hw (List.nil_sublist _)⟩)
        · rw [bif_neg h78] at hL2
          have q79 := ((and_f h78).imp (fun h => (of_decide_eq_false h)) (fun h => (of_decide_eq_true (not_f h))))
          refine TC.seq ?_
          refine TC.region ?_
          refine TL.op (yq (y_move (ev_t rfl))) rfl rfl rfl ?_
          refine TL.op (yq (y_fa (fa_55_0 g0_0) (ev_t rfl))) rfl rfl rfl ?_
          refine TL.op (yq (y_ldb 0 (ev_t rfl) one_49 rfl rfl)) rfl rfl rfl ?_
          refine TL.op (yq (y_move (ev_t rfl))) rfl rfl rfl ?_
          have hb82 : k31_2 < m.length := (by first | omega | (simp only [List.length_set, List.length_append, List.length_cons, List.length_nil, List.length_replicate]; omega) | (rw [sortI_length]; simp only [List.length_cons, List.length_nil]; omega))
          refine TL.op (yq (y_idx (k := k31_2) (ev_t rfl) (ev_t rfl) (by first | omega | simp) slT_49 (fun w hw => ((rii_arg hm) w hw).1) hb82)) rfl rfl rfl ?_
          have ha83 := hm.row (i := k31_2) hb82
          refine TL.op (yq (y_ldA (ev_t rfl) one_34 (rii_arg hm) hb82)) rfl rfl rfl ?_
          refine TL.op (yq (y_move (ev_t rfl))) rfl rfl rfl ?_
          have hb84 : k22_1 < (m.getD k31_2 []).length := (by first | omega | (simp only [List.length_set, List.length_append, List.length_cons, List.length_nil, List.length_replicate]; omega) | (rw [sortI_length]; simp only [List.length_cons, List.length_nil]; omega))
          refine TL.op (yq (y_idx (k := k22_1) (ev_t rfl) (ev_t rfl) (by first | omega | simp) slT_34 (ri_arg ha83) hb84)) rfl rfl rfl ?_
          refine TL.op (yq (y_ldi (ev_t rfl) one_3 (ri_arg ha83) hb84)) rfl rfl rfl ?_
          refine TL.op (yq (y_neq (ev_t rfl) (ev_t rfl))) rfl rfl rfl ?_
          refine TL.op (yq (y_assign (ev_t rfl))) rfl rfl rfl ?_
          refine TL.nil ?_
          refine TN.seq ?_
          refine TC.cond (b := !decide (((m.getD k22_1 []).getD k31_2 0) = ((m.getD k31_2 []).getD k22_1 0))) (ev_t rfl) (fun h85 => ?_) (fun h85 => ?_)
          · rw [bif_pos h85] at hL2
            have q86 := (of_decide_eq_false (not_t h85))
            refine TC.skip ?_
            refine TN.seq ?_
            refine TC.condT (ev_t rfl) h85 ?_
            refine TC.seq ?_
            refine TC.region ?_
            refine TL.op (yq (y_assign ev_c)) rfl rfl rfl ?_
            refine TL.nil ?_
            refine TN.seq ?_
            refine TC.ret ?_
            refine TN.blockR ?_
            refine TN.blockR ?_
            refine TN.thenR ?_
            refine TN.thenR ?_
            rw [← hL2, elim_ret] at hL1
            refine TN.blockR ?_
            refine TN.blockR ?_
            refine TN.thenR ?_
            refine TN.thenR ?_
            rw [← hL1, elim_ret] at hF
            refine TN.blockR ?_
            refine TN.thenR ?_
            subst hF
            exact TN.ret1 rfl (ev_t rfl) (fun w' hw => ⟨rfl, Hp.sublist hw (List.nil_sublist _)⟩)
          · rw [bif_neg h85] at hL2
            have q86 := (of_decide_eq_true (not_f h85))
            refine TC.region ?_
            refine TL.op (yq (y_move (ev_t rfl))) rfl rfl rfl ?_
            refine TL.op (yq (y_gtr (ev_t rfl) ev_c)) rfl rfl rfl ?_
            refine TL.op (yq (y_assign (ev_t rfl))) rfl rfl rfl ?_
            refine TL.nil ?_
            refine TN.seq ?_
            refine TC.cond (b := decide (99 < ((m.getD k22_1 []).getD k31_2 0))) (ev_t rfl) (fun h89 => ?_) (fun h89 => ?_)
            · rw [bif_pos h89] at hL2
              have q90 := (of_decide_eq_true h89)
              refine TC.seq ?_
              refine TC.region ?_
              refine TL.op (yq (y_assign ev_c)) rfl rfl rfl ?_
              refine TL.nil ?_
              refine TN.seq ?_
              refine TC.ret ?_
              refine TN.blockR ?_
              refine TN.blockR ?_
              refine TN.thenR ?_
              refine TN.thenR ?_
              rw [← hL2, elim_ret] at hL1
              refine TN.blockR ?_
              refine TN.blockR ?_
              refine TN.thenR ?_
              refine TN.thenR ?_
              rw [← hL1, elim_ret] at hF
              refine TN.blockR ?_
              refine TN.thenR ?_
              subst hF
              exact TN.ret1 rfl (ev_t rfl) (fun w' hw => ⟨rfl, Hp.sublist hw (List.nil_sublist _)⟩)
            · rw [bif_neg h89] at hL2
              have q90 := (of_decide_eq_false h89)
              refine TC.seq ?_
              refine TC.region ?_
              refine TL.op (yq (y_move (ev_t rfl))) rfl rfl rfl ?_
              refine TL.op (yq (y_move (ev_t rfl))) rfl rfl rfl ?_
              refine TL.op (yq (y_neq (ev_t rfl) (ev_t rfl))) rfl rfl rfl ?_
              refine TL.op (yq (y_move (ev_t rfl))) rfl rfl rfl ?_
              refine TL.opw (w_t rfl rfl rfl) (fun hg => yq (y_move (ev_t rfl))) rfl rfl ?_
              refine TL.opw (w_t rfl rfl rfl) (fun hg => yq (y_lss (ev_g rfl hg) ev_c)) rfl rfl ?_
              refine TL.op (yq (y_and (ev_t rfl) (fun hq => (ev_g rfl hq)))) rfl rfl rfl ?_
              refine TL.op (yq (y_move (ev_t rfl))) rfl rfl rfl ?_
              refine TL.opw (w_t rfl rfl rfl) (fun hg => yq (y_move (ev_t rfl))) rfl rfl ?_
              refine TL.opw (w_t rfl rfl rfl) (fun hg => yq (y_move (ev_g rfl hg))) rfl rfl ?_
              refine TL.opw (w_gt rfl rfl rfl) (fun hg => yq (y_move (ev_t rfl))) rfl rfl ?_
              refine TL.opw (w_gt rfl rfl rfl) (fun hg => yq (y_eql (ev_g rfl hg) ev_c)) rfl rfl ?_
              refine TL.opw (w_t rfl rfl rfl) (fun hg => yq (y_and (ev_g rfl hg) (fun hq => (ev_g rfl (gand hg hq))))) rfl rfl ?_
              refine TL.opw (w_t rfl rfl rfl) (fun hg => yq (y_not (ev_g rfl hg))) rfl rfl ?_
              refine TL.op (yq (y_and (ev_t rfl) (fun hq => (ev_g rfl hq)))) rfl rfl rfl ?_
              refine TL.op (yq (y_assign (ev_t rfl))) rfl rfl rfl ?_
              refine TL.nil ?_
              refine TN.seq ?_
              refine TC.cond (b := (((!decide ((k22_1 : Int) = (k31_2 : Int))) && (decide (((m.getD k22_1 []).getD k31_2 0) < 1))) && (!(opn && (decide (((m.getD k22_1 []).getD k31_2 0) = -1)))))) (ev_t rfl) (fun h91 => ?_) (fun h91 => ?_)
              · rw [bif_pos h91] at hL2
                have q92 := (and_imp (and_t h91) (fun h => (and_imp (and_t h) (fun h => (of_decide_eq_false (not_t h))) (fun h => (of_decide_eq_true h)))) (fun h => ((and_f (not_t h)).imp (fun h => h) (fun h => (of_decide_eq_false h)))))
                refine TC.seq ?_
                refine TC.region ?_
                refine TL.op (yq (y_assign ev_c)) rfl rfl rfl ?_
                refine TL.nil ?_
                refine TN.seq ?_
                refine TC.ret ?_
                refine TN.blockR ?_
                refine TN.blockR ?_
                refine TN.thenR ?_
                refine TN.thenR ?_
                rw [← hL2, elim_ret] at hL1
                refine TN.blockR ?_
                refine TN.blockR ?_
                refine TN.thenR ?_
                refine TN.thenR ?_
                rw [← hL1, elim_ret] at hF
                refine TN.blockR ?_
                refine TN.thenR ?_
                subst hF
                exact TN.ret1 rfl (ev_t rfl) (fun w' hw => ⟨rfl, Hp.sublist hw (List.nil_sublist _)⟩)
              · rw [bif_neg h91] at hL2
                have q92 := ((and_f h91).imp (fun h => ((and_f h).imp (fun h => (of_decide_eq_true (not_f h))) (fun h => (of_decide_eq_false h)))) (fun h => (and_imp (and_t (not_f h)) (fun h => h) (fun h => (of_decide_eq_true h)))))
                refine TC.skip ?_
                refine TN.blockN ?_
                refine TN.blockN ?_
                refine TN.seq ?_
                refine TC.region ?_
                refine TL.op (yq (y_add (ev_t rfl) ev_c (by unfold In64; constructor <;> omega))) rfl rfl rfl ?_
                refine TL.op (yq (y_move (ev_t rfl))) rfl rfl rfl ?_
                refine TL.nil ?_
                exact TN.hand (mf2, (k31_2 + 1)) ⟨(by first | omega | (simp [-List.getD_eq_getElem?_getD] <;> omega)), (by omega), hL2⟩ (Nat.lt_succ_self _) ⟨rfl, rfl, rfl, rfl, rfl, rfl, rfl, rfl, trivial⟩ (fun w hw => hw)
      · rw [bif_neg h75] at hL2
        have q76 := (of_decide_eq_false h75)
        refine TC.exit ?_
        refine TN.thenE ?_
        refine TN.thenE ?_
        rw [← hL2, elim_next] at hL1
        try dsimp only at hL1
        refine TN.blockH ?_
        refine TN.blockN ?_
        refine TN.seq ?_
        refine TC.region ?_
        refine TL.op (yq (y_add (ev_t rfl) ev_c (by unfold In64; constructor <;> omega))) rfl rfl rfl ?_
        refine TL.op (yq (y_move (ev_t rfl))) rfl rfl rfl ?_
        refine TL.nil ?_
        exact TN.hand (mf1, (k22_1 + 1)) ⟨(by first | omega | (simp [-List.getD_eq_getElem?_getD] <;> omega)), (by omega), hL1⟩ (Nat.lt_succ_self _) ⟨rfl, rfl, rfl, rfl, trivial⟩ (fun w hw => hw)
    · rw [bif_neg h69] at hL1
      have q70 := (of_decide_eq_false h69)
      refine TC.exit ?_
      refine TN.thenE ?_
      refine TN.thenE ?_
      rw [← hL1, elim_next] at hF
      try dsimp only at hF
      refine TN.blockH ?_
      refine TN.seq ?_
      refine TC.seq ?_
      refine TC.region ?_
      refine TL.op (yq (y_assign ev_c)) rfl rfl rfl ?_
      refine TL.nil ?_
      refine TN.seq ?_
      refine TC.ret ?_
      subst hF
      exact TN.ret1 rfl (ev_t rfl) (fun w' hw => ⟨rfl, Hp.sublist hw (List.nil_sublist _)⟩)

set_option maxRecDepth 4000 in
set_option maxHeartbeats 1000000 in
theorem impl_Metric_detour_ok (w : World) (vm : Value) (um : List Value) (m : List (List Int)) (hm : RII w vm um m) (hp0 : Tab m) :
    Calls Try.prog 130 ([(.agg #[vm])] : List Value).toArray w (fun e w' => ∃ i : Value, e = .returned (.tuple #[i, (.bool ((F_impl_Metric_detour m).2))]) ∧ Hp w [rowI 3 i ((F_impl_Metric_detour m).1)] w') := by
  obtain ⟨rz, hF⟩ : ∃ rz, (F_impl_Metric_detour m) = rz := ⟨_, rfl⟩
  rw [hF]
  unfold F_impl_Metric_detour at hF
  have hlen_m := argT_len hm
  refine calls_tc Try.func130 rfl rfl rfl ?_
  change TC _ _ _ _ (Hp w []) [(0, (.agg #[vm]))]
  refine TC.seq ?_
  refine TC.region ?_
  refine TL.box (ev_t rfl) rfl (fun g0_0 => ?_)
  refine TL.op (yq (y_assign ev_c)) rfl rfl rfl ?_
  refine TL.op (yq (y_assign ev_c)) rfl rfl rfl ?_
  refine TL.nil ?_
  refine TN.seq ?_
  refine TC.seq ?_
  refine TC.seq ?_
  refine TC.region ?_
  refine TL.op (yq (y_fa (fa_55_0 g0_0) (ev_t rfl))) rfl rfl rfl ?_
  refine TL.op (yq (y_ldb 0 (ev_t rfl) one_49 rfl rfl)) rfl rfl rfl ?_
  refine TL.op (yq (y_len (ev_t rfl) Try.underlying49 (fun w hw => ((fun w hw => ((rii_arg hm) w hw).1) w hw).ln))) rfl rfl rfl ?_
  refine TL.op (yq (y_move ev_c)) rfl rfl rfl ?_
  refine TL.nil ?_
  refine TN.seq ?_
  refine TC.block ?_
  obtain ⟨c50, hc51⟩ : ∃ c, F_impl_Metric_detour_L1 m ((m.length - 0) + 1) 0 = c := ⟨_, rfl⟩
  rw [hc51] at hF
  refine TC.loop (ι := Nat × Nat) (fun (fu1, k12_1) => [(1, (.pointer (some ⟨g0_0, 0, none⟩))), (10, vm), (11, (.int .i64 (m.length : Int))), (12, (.int .i64 (k12_1 : Int)))]) (fun (fu1, k12_1) => Hp w [.blk g0_0 55 [vm]]) (fun (fu1, k12_1) => (k12_1 ≤ m.length) ∧ m.length - k12_1 < fu1 ∧ F_impl_Metric_detour_L1 m fu1 k12_1 = c50) (fun (fu1, k12_1) => fu1) ((m.length - 0) + 1, 0) ⟨(by first | omega | (simp [-List.getD_eq_getElem?_getD] <;> omega)), (by omega), hc51⟩ ⟨rfl, rfl, rfl, rfl, trivial⟩ (fun w hw => hw) ?_
  rintro ⟨fu1, k12_1⟩ hJ1
  obtain ⟨hi1_0, hmu1, hL1⟩ : (k12_1 ≤ m.length) ∧ m.length - k12_1 < fu1 ∧ F_impl_Metric_detour_L1 m fu1 k12_1 = c50 := hJ1
  change TC _ _ _ _ (Hp w [.blk g0_0 55 [vm]]) [(1, (.pointer (some ⟨g0_0, 0, none⟩))), (10, vm), (11, (.int .i64 (m.length : Int))), (12, (.int .i64 (k12_1 : Int)))]
  obtain ⟨mf1, rfl⟩ : ∃ m, fu1 = m + 1 := ⟨fu1 - 1, by omega⟩
  rw [F_impl_Metric_detour_L1_s] at hL1
  have hrw := hp0.rows k12_1
  refine TC.seq ?_
  refine TC.region ?_
  refine TL.op (yq (y_lss (ev_t rfl) (ev_t rfl))) rfl rfl rfl ?_
  refine TL.nil ?_
  refine TN.seq ?_
  refine TC.seq ?_
  refine TC.cond (b := decide ((k12_1 : Int) < (m.length : Int))) (ev_t rfl) (fun h52 => ?_) (fun h52 => ?_)
  · rw [bif_pos h52] at hL1
    have q53 := (of_decide_eq_true h52)
    refine TC.skip ?_
    refine TN.seq ?_
    refine TC.seq ?_
    refine TC.block ?_
    refine TC.seq ?_
    refine TC.region ?_
    refine TL.op (yq (y_move (ev_t rfl))) rfl rfl rfl ?_
    have hb54 : k12_1 < m.length := (by first | omega | (simp only [List.length_set, List.length_append, List.length_cons, List.length_nil, List.length_replicate]; omega) | (rw [sortI_length]; simp only [List.length_cons, List.length_nil]; omega))
    refine TL.op (yq (y_idx (k := k12_1) (ev_t rfl) (ev_t rfl) (by first | omega | simp) slT_49 (fun w hw => ((rii_arg hm) w hw).1) hb54)) rfl rfl rfl ?_
    have ha55 := hm.row (i := k12_1) hb54
    refine TL.op (yq (y_ldA (ev_t rfl) one_34 (rii_arg hm) hb54)) rfl rfl rfl ?_
    refine TL.op (yq (y_assign (ev_t rfl))) rfl rfl rfl ?_
    refine TL.op (yq (y_assign (ev_t rfl))) rfl rfl rfl ?_
    refine TL.nil ?_
    refine TN.seq ?_
    refine TC.seq ?_
    refine TC.region ?_
    refine TL.op (yq (y_move (ev_t rfl))) rfl rfl rfl ?_
    refine TL.op (yq (y_len (ev_t rfl) Try.underlying34 (fun w hw => ((ri_arg ha55) w hw).ln))) rfl rfl rfl ?_
    refine TL.op (yq (y_move ev_c)) rfl rfl rfl ?_
    refine TL.nil ?_
    refine TN.seq ?_
    refine TC.block ?_
    obtain ⟨c56, hc57⟩ : ∃ c, F_impl_Metric_detour_L2 m k12_1 ((((m.getD k12_1 []).length) - 0) + 1) 0 = c := ⟨_, rfl⟩
    rw [hc57] at hL1
    refine TC.loop (ι := Nat × Nat) (fun (fu2, k19_2) => [(1, (.pointer (some ⟨g0_0, 0, none⟩))), (4, (.int .i64 (k12_1 : Int))), (5, (um.getD k12_1 undef)), (10, vm), (11, (.int .i64 (m.length : Int))), (12, (.int .i64 (k12_1 : Int))), (17, (um.getD k12_1 undef)), (18, (.int .i64 ((m.getD k12_1 []).length : Int))), (19, (.int .i64 (k19_2 : Int)))]) (fun (fu2, k19_2) => Hp w [.blk g0_0 55 [vm]]) (fun (fu2, k19_2) => (k19_2 ≤ ((m.getD k12_1 []).length)) ∧ ((m.getD k12_1 []).length) - k19_2 < fu2 ∧ F_impl_Metric_detour_L2 m k12_1 fu2 k19_2 = c56) (fun (fu2, k19_2) => fu2) ((((m.getD k12_1 []).length) - 0) + 1, 0) ⟨(by first | omega | (simp [-List.getD_eq_getElem?_getD] <;> omega)), (by omega), hc57⟩ ⟨rfl, rfl, rfl, rfl, rfl, rfl, rfl, rfl, rfl, trivial⟩ (fun w hw => hw) ?_
    rintro ⟨fu2, k19_2⟩ hJ2
    obtain ⟨hi2_0, hmu2, hL2⟩ : (k19_2 ≤ ((m.getD k12_1 []).length)) ∧ ((m.getD k12_1 []).length) - k19_2 < fu2 ∧ F_impl_Metric_detour_L2 m k12_1 fu2 k19_2 = c56 := hJ2
    change TC _ _ _ _ (Hp w [.blk g0_0 55 [vm]]) [(1, (.pointer (some ⟨g0_0, 0, none⟩))), (4, (.int .i64 (k12_1 : Int))), (5, (um.getD k12_1 undef)), (10, vm), (11, (.int .i64 (m.length : Int))), (12, (.int .i64 (k12_1 : Int))), (17, (um.getD k12_1 undef)), (18, (.int .i64 ((m.getD k12_1 []).length : Int))), (19, (.int .i64 (k19_2 : Int)))]
    obtain ⟨mf2, rfl⟩ : ∃ m, fu2 = m + 1 := ⟨fu2 - 1, by omega⟩
    rw [F_impl_Metric_detour_L2_s] at hL2
    have hrw2 := hp0.rows k19_2
    refine TC.seq ?_
    refine TC.region ?_
    refine TL.op (yq (y_lss (ev_t rfl) (ev_t rfl))) rfl rfl rfl ?_
    refine TL.nil ?_
    refine TN.seq ?_
    refine TC.seq ?_
    refine TC.cond (b := decide ((k19_2 : Int) < ((m.getD k12_1 []).length : Int))) (ev_t rfl) (fun h58 => ?_) (fun h58 => ?_)
    · rw [bif_pos h58] at hL2
      have q59 := (of_decide_eq_true h58)
      refine TC.skip ?_
      refine TN.seq ?_
      refine TC.seq ?_
      refine TC.block ?_
      refine TC.seq ?_
      refine TC.region ?_
      refine TL.op (yq (y_move (ev_t rfl))) rfl rfl rfl ?_
      have hb60 : k19_2 < (m.getD k12_1 []).length := (by first | omega | (simp only [List.length_set, List.length_append, List.length_cons, List.length_nil, List.length_replicate]; omega) | (rw [sortI_length]; simp only [List.length_cons, List.length_nil]; omega))
      refine TL.op (yq (y_idx (k := k19_2) (ev_t rfl) (ev_t rfl) (by first | omega | simp) slT_34 (ri_arg ha55) hb60)) rfl rfl rfl ?_
      refine TL.op (yq (y_ldi (ev_t rfl) one_3 (ri_arg ha55) hb60)) rfl rfl rfl ?_
      refine TL.op (yq (y_assign (ev_t rfl))) rfl rfl rfl ?_
      refine TL.op (yq (y_assign (ev_t rfl))) rfl rfl rfl ?_
      refine TL.nil ?_
      refine TN.seq ?_
      refine TC.seq ?_
      refine TC.region ?_
      refine TL.op (yq (y_fa (fa_55_0 g0_0) (ev_t rfl))) rfl rfl rfl ?_
      refine TL.op (yq (y_ldb 0 (ev_t rfl) one_49 rfl rfl)) rfl rfl rfl ?_
      refine TL.op (yq (y_len (ev_t rfl) Try.underlying49 (fun w hw => ((fun w hw => ((rii_arg hm) w hw).1) w hw).ln))) rfl rfl rfl ?_
      refine TL.op (yq (y_move ev_c)) rfl rfl rfl ?_
      refine TL.nil ?_
      refine TN.seq ?_
      refine TC.block ?_
      obtain ⟨c61, hc62⟩ : ∃ c, F_impl_Metric_detour_L3 m k12_1 k19_2 ((m.length - 0) + 1) 0 = c := ⟨_, rfl⟩
      rw [hc62] at hL2
      refine TC.loop (ι := Nat × Nat) (fun (fu3, k27_3) => [(1, (.pointer (some ⟨g0_0, 0, none⟩))), (4, (.int .i64 (k12_1 : Int))), (5, (um.getD k12_1 undef)), (6, (.int .i64 (k19_2 : Int))), (7, (.int .i64 ((m.getD k12_1 []).getD k19_2 0))), (10, vm), (11, (.int .i64 (m.length : Int))), (12, (.int .i64 (k12_1 : Int))), (17, (um.getD k12_1 undef)), (18, (.int .i64 ((m.getD k12_1 []).length : Int))), (19, (.int .i64 (k19_2 : Int))), (26, (.int .i64 (m.length : Int))), (27, (.int .i64 (k27_3 : Int)))]) (fun (fu3, k27_3) => Hp w [.blk g0_0 55 [vm]]) (fun (fu3, k27_3) => (k27_3 ≤ m.length) ∧ m.length - k27_3 < fu3 ∧ F_impl_Metric_detour_L3 m k12_1 k19_2 fu3 k27_3 = c61) (fun (fu3, k27_3) => fu3) ((m.length - 0) + 1, 0) ⟨(by first | omega | (simp [-List.getD_eq_getElem?_getD] <;> omega)), (by omega), hc62⟩ ⟨rfl, rfl, rfl, rfl, rfl, rfl, rfl, rfl, rfl, rfl, rfl, rfl, rfl, trivial⟩ (fun w hw => hw) ?_
      rintro ⟨fu3, k27_3⟩ hJ3
      obtain ⟨hi3_0, hmu3, hL3⟩ : (k27_3 ≤ m.length) ∧ m.length - k27_3 < fu3 ∧ F_impl_Metric_detour_L3 m k12_1 k19_2 fu3 k27_3 = c61 := hJ3
      change TC _ _ _ _ (Hp w [.blk g0_0 55 [vm]]) [(1, (.pointer (some ⟨g0_0, 0, none⟩))), (4, (.int .i64 (k12_1 : Int))), (5, (um.getD k12_1 undef)), (6, (.int .i64 (k19_2 : Int))), (7, (.int .i64 ((m.getD k12_1 []).getD k19_2 0))), (10, vm), (11, (.int .i64 (m.length : Int))), (12, (.int .i64 (k12_1 : Int))), (17, (um.getD k12_1 undef)), (18, (.int .i64 ((m.getD k12_1 []).length : Int))), (19, (.int .i64 (k19_2 : Int))), (26, (.int .i64 (m.length : Int))), (27, (.int .i64 (k27_3 : Int)))]
      obtain ⟨mf3, rfl⟩ : ∃ m, fu3 = m + 1 := ⟨fu3 - 1, by omega⟩
      rw [F_impl_Metric_detour_L3_s] at hL3
      have he1 := hp0.el k12_1 k19_2
      have he2 := hp0.el k19_2 k27_3
      refine TC.seq ?_
      refine TC.region ?_
      refine TL.op (yq (y_lss (ev_t rfl) (ev_t rfl))) rfl rfl rfl ?_
      refine TL.nil ?_
      refine TN.seq ?_
      refine TC.seq ?_
      refine TC.cond (b := decide ((k27_3 : Int) < (m.length : Int))) (ev_t rfl) (fun h63 => ?_) (fun h63 => ?_)
      · rw [bif_pos h63] at hL3
        have q64 := (of_decide_eq_true h63)
        refine TC.skip ?_
        refine TN.seq ?_
        refine TC.seq ?_
        refine TC.block ?_
        refine TC.seq ?_
        refine TC.region ?_
        refine TL.op (yq (y_move (ev_t rfl))) rfl rfl rfl ?_
        refine TL.op (yq (y_assign (ev_t rfl))) rfl rfl rfl ?_
        refine TL.nil ?_
        refine TN.seq ?_
        refine TC.seq ?_
        refine TC.regionQ (by kernel_rfl) (by kernel_rfl) dr_hp ?_
        refine TQ.op (yq (y_move (ev_t rfl))) rfl rfl rfl ?_
        refine TQ.op (yq (y_move (ev_t rfl))) rfl rfl rfl ?_
        have hb65 : k27_3 < (m.getD k12_1 []).length := (by first | omega | (simp only [List.length_set, List.length_append, List.length_cons, List.length_nil, List.length_replicate]; omega) | (rw [sortI_length]; simp only [List.length_cons, List.length_nil]; omega))
        refine TQ.op (yq (y_idx (k := k27_3) (ev_t rfl) (ev_t rfl) (by first | omega | simp) slT_34 (ri_arg ha55) hb65)) rfl rfl rfl ?_
        refine TQ.op (yq (y_ldi (ev_t rfl) one_3 (ri_arg ha55) hb65)) rfl rfl rfl ?_
        refine TQ.op (yq (y_move (ev_t rfl))) rfl rfl rfl ?_
        refine TQ.op (yq (y_fa (fa_55_0 g0_0) (ev_t rfl))) rfl rfl rfl ?_
        refine TQ.op (yq (y_ldb 0 (ev_t rfl) one_49 rfl rfl)) rfl rfl rfl ?_
        refine TQ.op (yq (y_move (ev_t rfl))) rfl rfl rfl ?_
        have hb66 : k19_2 < m.length := (by first | omega | (simp only [List.length_set, List.length_append, List.length_cons, List.length_nil, List.length_replicate]; omega) | (rw [sortI_length]; simp only [List.length_cons, List.length_nil]; omega))
        refine TQ.op (yq (y_idx (k := k19_2) (ev_t rfl) (ev_t rfl) (by first | omega | simp) slT_49 (fun w hw => ((rii_arg hm) w hw).1) hb66)) rfl rfl rfl ?_
        have ha67 := hm.row (i := k19_2) hb66
        refine TQ.op (yq (y_ldA (ev_t rfl) one_34 (rii_arg hm) hb66)) rfl rfl rfl ?_
        refine TQ.op (yq (y_move (ev_t rfl))) rfl rfl rfl ?_
        have hb68 : k27_3 < (m.getD k19_2 []).length := (by first | omega | (simp only [List.length_set, List.length_append, List.length_cons, List.length_nil, List.length_replicate]; omega) | (rw [sortI_length]; simp only [List.length_cons, List.length_nil]; omega))
        refine TQ.op (yq (y_idx (k := k27_3) (ev_t rfl) (ev_t rfl) (by first | omega | simp) slT_34 (ri_arg ha67) hb68)) rfl rfl rfl ?_
        refine TQ.op (yq (y_ldi (ev_t rfl) one_3 (ri_arg ha67) hb68)) rfl rfl rfl ?_
        refine TQ.op (yq (y_add (ev_t rfl) (ev_t rfl) (by unfold In64; constructor <;> omega))) rfl rfl rfl ?_
        refine TQ.op (yq (y_gtr (ev_t rfl) (ev_t rfl))) rfl rfl rfl ?_
        refine TQ.nil ?_
        refine TN.seq ?_
        refine TC.cond (b := decide (((m.getD k12_1 []).getD k19_2 0) + ((m.getD k19_2 []).getD k27_3 0) < ((m.getD k12_1 []).getD k27_3 0))) (ev_t rfl) (fun h69 => ?_) (fun h69 => ?_)
        · rw [bif_pos h69] at hL3
          have q70 := (of_decide_eq_true h69)
          refine TC.seq ?_
          refine TC.region ?_
          refine TL.op (yq (y_move (ev_t rfl))) rfl rfl rfl ?_
          refine TL.op (yq (y_move (ev_t rfl))) rfl rfl rfl ?_
          refine TL.op (yq (y_move (ev_t rfl))) rfl rfl rfl ?_
          refine TL.buildI (zs := [.tmp 45, .tmp 46, .tmp 47]) (qs := [(k12_1 : Int), (k19_2 : Int), (k27_3 : Int)]) slT_34 rfl ⟨(ev_t rfl), (ev_t rfl), (ev_t rfl), trivial⟩ rfl (by decide) rfl (fun v11_3 => ?_)
          refine TL.op (yq (y_assign (ev_t rfl))) rfl rfl rfl ?_
          refine TL.op (yq (y_assign ev_c)) rfl rfl rfl ?_
          refine TL.nil ?_
          refine TN.seq ?_
          refine TC.ret ?_
          refine TN.blockR ?_
          refine TN.thenR ?_
          refine TN.thenR ?_
          rw [← hL3, elim_ret] at hL2
          refine TN.blockR ?_
          refine TN.blockR ?_
          refine TN.thenR ?_
          refine TN.thenR ?_
          rw [← hL2, elim_ret] at hL1
          refine TN.blockR ?_
          refine TN.blockR ?_
          refine TN.thenR ?_
          refine TN.thenR ?_
          rw [← hL1, elim_ret] at hF
          refine TN.blockR ?_
          refine TN.thenR ?_
          subst hF
          exact TN.ret2 rfl (ev_t rfl) (ev_t rfl) (fun w' hw => ⟨v11_3, rfl, Hp.sublist hw (.cons_cons _ (.cons _ .slnil))⟩)
        · rw [bif_neg h69] at hL3
          have q70 := (of_decide_eq_false h69)
          refine TC.skip ?_
          refine TN.blockN ?_
          refine TN.seq ?_
          refine TC.region ?_
          refine TL.op (yq (y_add (ev_t rfl) ev_c (by unfold In64; constructor <;> omega))) rfl rfl rfl ?_
          refine TL.op (yq (y_move (ev_t rfl))) rfl rfl rfl ?_
          refine TL.nil ?_
          exact TN.hand (mf3, (k27_3 + 1)) ⟨(by first | omega | (simp [-List.getD_eq_getElem?_getD] <;> omega)), (by omega), hL3⟩ (Nat.lt_succ_self _) ⟨rfl, rfl, rfl, rfl, rfl, rfl, rfl, rfl, rfl, rfl, rfl, rfl, rfl, trivial⟩ (fun w hw => hw)
      · rw [bif_neg h63] at hL3
        have q64 := (of_decide_eq_false h63)
        refine TC.exit ?_
        refine TN.thenE ?_
        refine TN.thenE ?_
        rw [← hL3, elim_next] at hL2
        try dsimp only at hL2
        refine TN.blockH ?_
        refine TN.blockN ?_
        refine TN.seq ?_
        refine TC.region ?_
        refine TL.op (yq (y_add (ev_t rfl) ev_c (by unfold In64; constructor <;> omega))) rfl rfl rfl ?_
        refine TL.op (yq (y_move (ev_t rfl))) rfl rfl rfl ?_
        refine TL.nil ?_
        exact TN.hand (mf2, (k19_2 + 1)) ⟨(by first | omega | (simp [-List.getD_eq_getElem?_getD] <;> omega)), (by omega), hL2⟩ (Nat.lt_succ_self _) ⟨rfl, rfl, rfl, rfl, rfl, rfl, rfl, rfl, rfl, trivial⟩ (fun w hw => hw)
    · rw [bif_neg h58] at hL2
      have q59 := (of_decide_eq_false h58)
      refine TC.exit ?_
      refine TN.thenE ?_
      refine TN.thenE ?_
      rw [← hL2, elim_next] at hL1
      try dsimp only at hL1
      refine TN.blockH ?_
      refine TN.blockN ?_
      refine TN.seq ?_
      refine TC.region ?_
      refine TL.op (yq (y_add (ev_t rfl) ev_c (by unfold In64; constructor <;> omega))) rfl rfl rfl ?_
      refine TL.op (yq (y_move (ev_t rfl))) rfl rfl rfl ?_
      refine TL.nil ?_
      exact TN.hand (mf1, (k12_1 + 1)) ⟨(by first | omega | (simp [-List.getD_eq_getElem?_getD] <;> omega)), (by omega), hL1⟩ (Nat.lt_succ_self _) ⟨rfl, rfl, rfl, rfl, trivial⟩ (fun w hw => hw)
  · rw [bif_neg h52] at hL1
    have q53 := (of_decide_eq_false h52)
    refine TC.exit ?_
    refine TN.thenE ?_
    refine TN.thenE ?_
    rw [← hL1, elim_next] at hF
    try dsimp only at hF
    refine TN.blockH ?_
    refine TN.seq ?_
    refine TC.seq ?_
    refine TC.region ?_
    refine TL.op (yq (y_assign ev_c)) rfl rfl rfl ?_
    refine TL.op (yq (y_assign ev_c)) rfl rfl rfl ?_
    refine TL.nil ?_
    refine TN.seq ?_
    refine TC.ret ?_
    subst hF
    refine TN.cls (fun w hw => hw.nil 3 1) ?_
    exact TN.ret2 rfl (ev_t rfl) (ev_t rfl) (fun w' hw => ⟨(.slice none 0 0), rfl, Hp.sublist hw (.cons_cons _ (.cons _ .slnil))⟩)

set_option maxRecDepth 4000 in
set_option maxHeartbeats 1000000 in
theorem impl_IsMetric_ok (w : World) (vm : Value) (um : List Value) (m : List (List Int)) (hm : RII w vm um m)  :
    Calls Try.prog 91 ([(.agg #[vm])] : List Value).toArray w (Ret (.bool (F_impl_IsMetric m)) (Hp w [])) := by
  obtain ⟨rz, hF⟩ : ∃ rz, (F_impl_IsMetric m) = rz := ⟨_, rfl⟩
  rw [hF]
  unfold F_impl_IsMetric at hF
  have hlen_m := argT_len hm
  refine calls_tc Try.func91 rfl rfl rfl ?_
  change TC _ _ _ _ (Hp w []) [(0, (.agg #[vm]))]
  refine TC.seq ?_
  refine TC.region ?_
  refine TL.box (ev_t rfl) rfl (fun g0_0 => ?_)
  refine TL.op (yq (y_assign ev_c)) rfl rfl rfl ?_
  refine TL.nil ?_
  refine TN.seq ?_
  refine TC.seq ?_
  refine TC.seq ?_
  refine TC.region ?_
  refine TL.op (yq (y_ldagg (cs := [vm]) 0 (ev_t rfl) agg_55 rfl)) rfl rfl rfl ?_
  refine TL.op (y_call (vs := [(.agg #[vm]), (.bool false)]) (v := (.bool (F_impl_Metric_isTable m false))) en_129 ⟨(ev_t rfl), ev_c, trivial⟩ (fun w hw => impl_Metric_isTable_ok w vm um m ((rii_arg hm) w hw) false)) rfl rfl rfl ?_
  refine TL.op (yq (y_not (ev_t rfl))) rfl rfl rfl ?_
  refine TL.nil ?_
  refine TN.seq ?_
  refine TC.cond (b := !(F_impl_Metric_isTable m false)) (ev_t rfl) (fun h3 => ?_) (fun h3 => ?_)
  · rw [bif_pos h3] at hF
    have q4 := (not_t h3)
    refine TC.seq ?_
    refine TC.region ?_
    refine TL.op (yq (y_assign ev_c)) rfl rfl rfl ?_
    refine TL.nil ?_
    refine TN.seq ?_
    refine TC.ret ?_
    refine TN.thenR ?_
    subst hF
    exact TN.ret1 rfl (ev_t rfl) (fun w' hw => ⟨rfl, Hp.sublist hw (List.nil_sublist _)⟩)
  · rw [bif_neg h3] at hF
    have q4 := (isTable_t (not_f h3))
    refine TC.skip ?_
    refine TN.seq ?_
    refine TC.seq ?_
    refine TC.region ?_
    refine TL.op (yq (y_ldagg (cs := [vm]) 0 (ev_t rfl) agg_55 rfl)) rfl rfl rfl ?_
    refine TL.callr (ι := Value) (vs := [(.agg #[vm])]) (fun i => (.tuple #[i, (.bool ((F_impl_Metric_detour m).2))])) (fun i => [rowI 3 i ((F_impl_Metric_detour m).1)]) en_130 ⟨(ev_t rfl), trivial⟩ rfl (fun w hw => impl_Metric_detour_ok w vm um m ((rii_arg hm) w hw) (by first | assumption | omega | grind)) (fun r3_1 => ?_)
    refine TL.op (yq (y_move (ev_t rfl))) rfl rfl rfl ?_
    refine TL.op (yq (y_extract (ev_t rfl) rfl)) rfl rfl rfl ?_
    refine TL.op (yq (y_extract (ev_t rfl) rfl)) rfl rfl rfl ?_
    refine TL.op (yq (y_assign (ev_t rfl))) rfl rfl rfl ?_
    refine TL.op (yq (y_assign (ev_t rfl))) rfl rfl rfl ?_
    refine TL.nil ?_
    refine TN.seq ?_
    refine TC.seq ?_
    refine TC.region ?_
    refine TL.op (yq (y_move (ev_t rfl))) rfl rfl rfl ?_
    refine TL.op (yq (y_not (ev_t rfl))) rfl rfl rfl ?_
    refine TL.op (yq (y_assign (ev_t rfl))) rfl rfl rfl ?_
    refine TL.nil ?_
    refine TN.seq ?_
    refine TC.ret ?_
    subst hF
    exact TN.ret1 rfl (ev_t rfl) (fun w' hw => ⟨rfl, Hp.sublist hw (List.nil_sublist _)⟩)

end Go.Proofs.Ytcmhgkcifejgcaa
