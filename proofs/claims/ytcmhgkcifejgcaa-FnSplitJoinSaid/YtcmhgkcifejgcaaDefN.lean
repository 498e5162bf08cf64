/-
  What functions of the program compute, as plain functions. No condition.
-/
import Derived.Test.YtcmhgkcifejgcaaMore
import Derived.Test.YtcmhgkcifejgcaaCur
namespace Go.Proofs.Ytcmhgkcifejgcaa
open Go Go.RowKit
set_option linter.unusedVariables false

def F_spec_l1Cur_next (code : List Int) (at_ : Int) (seed : Int) : Int × (Int × Int) := (bif decide (at_ < (code.length : Int)) then (bif decide (at_ + 1 ≤ (code.length : Int)) then ((code.getD ((at_).toNat) 0), (at_ + 1, (((((seed * 6364136223846793005) % 18446744073709551616) + (code.getD ((at_).toNat) 0)) % 18446744073709551616) + 462197) % 18446744073709551616)) else ((((((((seed * 6364136223846793005) % 18446744073709551616) + (code.getD ((at_).toNat) 0)) % 18446744073709551616) + 462197) % 18446744073709551616) / 1099511627776) % 256, (at_ + 1, (((((seed * 6364136223846793005) % 18446744073709551616) + (code.getD ((at_).toNat) 0)) % 18446744073709551616) + 462197) % 18446744073709551616))) else (bif decide (at_ + 1 ≤ (code.length : Int)) then (0, (at_ + 1, (((((seed * 6364136223846793005) % 18446744073709551616) + 0) % 18446744073709551616) + 462197) % 18446744073709551616)) else ((((((((seed * 6364136223846793005) % 18446744073709551616) + 0) % 18446744073709551616) + 462197) % 18446744073709551616) / 1099511627776) % 256, (at_ + 1, (((((seed * 6364136223846793005) % 18446744073709551616) + 0) % 18446744073709551616) + 462197) % 18446744073709551616))))

def F_spec_l1Cur_pick (code : List Int) (at_ : Int) (seed : Int) (n : Int) : Int × (Int × Int) := (bif decide (n ≤ 1) then (0, (at_, seed)) else ((fun q3_1 => (bif decide (200 < n) then ((fun q5_3 => (((q3_1.1 * 256) + q5_3.1) % n, ((q5_3.2).1, (q5_3.2).2))) (F_spec_l1Cur_next code ((q3_1.2).1) ((q3_1.2).2))) else (q3_1.1 % n, ((q3_1.2).1, (q3_1.2).2)))) (F_spec_l1Cur_next code at_ seed)))

def F_spec_l1Cur_one (code : List Int) (at_ : Int) (seed : Int) (n : Int) : Bool × (Int × Int) := ((fun q1_2 => (decide (q1_2.1 = 0), ((q1_2.2).1, (q1_2.2).2))) (F_spec_l1Cur_pick code at_ seed n))


end Go.Proofs.Ytcmhgkcifejgcaa
