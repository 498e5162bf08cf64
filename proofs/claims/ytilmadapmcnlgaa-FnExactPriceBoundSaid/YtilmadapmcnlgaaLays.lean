/-
  What the kit's proved summaries of library functions ask of this program. No condition.
-/
import Derived.Shelf.Bits.Mul64
import Derived.Test.YtilmadapmcnlgaaProg
namespace Go.Proofs.Ytilmadapmcnlgaa
open Go Go.Shelf
def lays212_ren : Go.Shelf.Ren := ⟨fun | 212 => 117 | 263 => 133 | 264 => 134 | n => n, fun | 46 => 106 | 51 => 115 | 146 => 116 | 53 => 118 | 148 => 119 | n => n, fun | n => n⟩
theorem lays212 : Go.Proofs.Lays.n212 Try.prog lays212_ren := {
  mixed := by kernel_rfl
  f212 := Try.func117.trans (congrArg some (by kernel_rfl))
  f263 := Try.func133.trans (congrArg some (by kernel_rfl))
  f264 := Try.func134.trans (congrArg some (by kernel_rfl))
  t46 := Try.underlying106
  a46 := Try.isAgg106
  z46 := Try.sizeOf106
  v46 := Try.zeroValue106
  t51 := Try.underlying115
  a51 := Try.isAgg115
  z51 := Try.sizeOf115
  v51 := Try.zeroValue115
  t53 := Try.underlying118
  a53 := Try.isAgg118
  z53 := Try.sizeOf118
  v53 := Try.zeroValue118
  t146 := Try.underlying116
  a146 := Try.isAgg116
  z146 := Try.sizeOf116
  v146 := Try.zeroValue116
  t148 := Try.underlying119
  a148 := Try.isAgg119
  z148 := Try.sizeOf119
  v148 := Try.zeroValue119 }
end Go.Proofs.Ytilmadapmcnlgaa
