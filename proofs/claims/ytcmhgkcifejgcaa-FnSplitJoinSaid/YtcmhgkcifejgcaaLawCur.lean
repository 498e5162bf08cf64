/-
  What the drawing cursor yields. No condition.
-/
import Derived.Test.YtcmhgkcifejgcaaDefN
namespace Go.Proofs.Ytcmhgkcifejgcaa
open Go Go.RowKit

theorem next_post {c : List Int} (hc : ∀ i, 0 ≤ c.getD i 0 ∧ c.getD i 0 ≤ 255) (code : List Int) (at_ seed : Int) (he : c = code := by rfl) :
    0 ≤ (F_spec_l1Cur_next code at_ seed).1 ∧ (F_spec_l1Cur_next code at_ seed).1 ≤ 255 ∧ (F_spec_l1Cur_next code at_ seed).2.1 = at_ + 1 ∧ 0 ≤ (F_spec_l1Cur_next code at_ seed).2.2 ∧ (F_spec_l1Cur_next code at_ seed).2.2 < 18446744073709551616 := by
  subst he
  have h := hc at_.toNat
  unfold F_spec_l1Cur_next
  cases decide (at_ < (c.length : Int)) <;> cases decide (at_ + 1 ≤ (c.length : Int)) <;> (dsimp only [cond_true, cond_false]; refine ⟨?_, ?_, ?_, ?_, ?_⟩ <;> omega)
theorem pick_post {c : List Int} (hc : ∀ i, 0 ≤ c.getD i 0 ∧ c.getD i 0 ≤ 255) (code : List Int) (at_ seed n : Int) (hs : 0 ≤ seed ∧ seed < 18446744073709551616) (he : c = code := by rfl) :
    0 ≤ (F_spec_l1Cur_pick code at_ seed n).1 ∧ ((F_spec_l1Cur_pick code at_ seed n).1 < n ∨ (F_spec_l1Cur_pick code at_ seed n).1 = 0) ∧ at_ ≤ (F_spec_l1Cur_pick code at_ seed n).2.1 ∧ (F_spec_l1Cur_pick code at_ seed n).2.1 ≤ at_ + 2 ∧
      0 ≤ (F_spec_l1Cur_pick code at_ seed n).2.2 ∧ (F_spec_l1Cur_pick code at_ seed n).2.2 < 18446744073709551616 := by
  subst he
  unfold F_spec_l1Cur_pick
  by_cases h1 : n ≤ 1
  · rw [decide_eq_true h1]; dsimp only [cond_true]; omega
  · rw [decide_eq_false h1]
    have p1 := next_post hc c at_ seed
    generalize F_spec_l1Cur_next c at_ seed = q at p1 ⊢
    dsimp only
    have p2 := next_post hc c q.2.1 q.2.2
    generalize F_spec_l1Cur_next c q.2.1 q.2.2 = r at p2 ⊢
    have m1 := Int.emod_nonneg q.1 (b := n) (by omega)
    have m2 := Int.emod_lt_of_pos q.1 (b := n) (by omega)
    have m3 := Int.emod_nonneg (q.1 * 256 + r.1) (b := n) (by omega)
    have m4 := Int.emod_lt_of_pos (q.1 * 256 + r.1) (b := n) (by omega)
    cases decide (200 < n) <;> dsimp only [cond_true, cond_false] <;> (refine ⟨?_, ?_, ?_, ?_, ?_, ?_⟩ <;> omega)
theorem one_post {c : List Int} (hc : ∀ i, 0 ≤ c.getD i 0 ∧ c.getD i 0 ≤ 255) (code : List Int) (at_ seed n : Int) (hs : 0 ≤ seed ∧ seed < 18446744073709551616) (he : c = code := by rfl) :
    at_ ≤ (F_spec_l1Cur_one code at_ seed n).2.1 ∧ (F_spec_l1Cur_one code at_ seed n).2.1 ≤ at_ + 2 ∧ 0 ≤ (F_spec_l1Cur_one code at_ seed n).2.2 ∧ (F_spec_l1Cur_one code at_ seed n).2.2 < 18446744073709551616 := by
  have p := pick_post hc code at_ seed n hs he
  unfold F_spec_l1Cur_one
  dsimp only
  omega
end Go.Proofs.Ytcmhgkcifejgcaa
