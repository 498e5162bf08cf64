/-
  Functions of Go's library, met by the kit's proved summaries. No condition.
-/
import Derived.Test.YtlhmmhlfledleaaSort
import Derived.Test.YtlhmmhlfledleaaLays
namespace Go.Proofs.Ytlhmmhlfledleaa
open Go Go.RowKit

theorem slices_Sort_ok (w0 w : World) (fr : List Ck) (vx : Value) (x : List Int) (hw : Hp w0 (rowI 3 vx x :: fr) w) (hp0 : x.length ≤ 1000000000) :
    Calls Try.prog 125 ([vx] : List Value).toArray w (fun e w' => ∃ _i : Unit, e = .returned (.tuple #[]) ∧ Hp w0 (rowI 3 vx (sortI x) :: fr) w') := sort_ok lays189 w0 w fr 3 vx x hw hp0
theorem slices_Compact_ok (w0 w : World) (fr : List Ck) (vs : Value) (s : List Int) (hw : Hp w0 (rowI 3 vs s :: fr) w) :
    Calls Try.prog 127 ([vs] : List Value).toArray w (fun e w' => ∃ i : Value, e = .returned i ∧ Hp w0 ([rowI 3 i (Lib.compact s)] ++ fr) w') := compact_ok lays220 w0 w fr 3 vs s hw
end Go.Proofs.Ytlhmmhlfledleaa
