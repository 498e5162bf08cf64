/-
  What the drawing cursor picks among numbers that are written down. No condition.
-/
import Derived.Test.YtfhhfhiooehlcaaLawCur
import Derived.Test.YtfhhfhiooehlcaaLawMet
namespace Go.Proofs.Ytfhhfhiooehlcaa
open Go Go.RowKit
theorem among_rng {c : List Int} (hc : ∀ i, 0 ≤ c.getD i 0 ∧ c.getD i 0 ≤ 255) (code : List Int) (at_ seed : Int) (list : List Int) (lo hi : Int) (hl : 1 ≤ list.length) (hr : ∀ x ∈ list, lo ≤ x ∧ x ≤ hi) (hs : 0 ≤ seed ∧ seed < 18446744073709551616) (he : c = code := by rfl) :
    lo ≤ (F_spec_l1Cur_among code at_ seed list).1 ∧ (F_spec_l1Cur_among code at_ seed list).1 ≤ hi := by
  have p := pick_post hc code at_ seed list.length hs he
  unfold F_spec_l1Cur_among
  dsimp only
  have hi : (F_spec_l1Cur_pick code at_ seed list.length).1.toNat < list.length := by omega
  refine hr _ ?_
  rw [List.getD_eq_getElem?_getD, List.getElem?_eq_getElem hi]
  exact List.getElem_mem _
theorem sq_uni {n : Int} (d : Int) (h : 0 ≤ n) : Sq n.toNat (F_spec_l6Uniform n d) := by
  have := uniform_sq n.toNat d
  rwa [Int.toNat_of_nonneg h] at this
end Go.Proofs.Ytfhhfhiooehlcaa
