/-
  The program's ConfigsOf returns what the reference's returns: the law answers true for all numbers. No condition.
-/
import Derived.Test.YtpfpbgkjgpgceaaLawConf
import Derived.Test.YtpfpbgkjgpgceaaLawMark
namespace Go.Proofs.Ytpfpbgkjgpgceaa

theorem configs_eq (n k : Int) : F_impl_ConfigsOf n k = F_spec_ConfigsOf n k := by
  unfold F_impl_ConfigsOf F_spec_ConfigsOf
  by_cases h : ((!(decide (1 ≤ n) && decide (n ≤ 6))) || (!(decide (1 ≤ k) && decide (k ≤ 3)))) = true
  · rw [h]; rfl
  · rw [Bool.eq_false_iff.2 h, cond_false, cond_false]
    simp only [Bool.or_eq_true, Bool.not_eq_true', Bool.and_eq_false_iff, decide_eq_false_iff_not, not_or] at h
    have hn : n = 1 ∨ n = 2 ∨ n = 3 ∨ n = 4 ∨ n = 5 ∨ n = 6 := by omega
    have hk : k = 1 ∨ k = 2 ∨ k = 3 := by omega
    rcases hn with rfl | rfl | rfl | rfl | rfl | rfl <;> rcases hk with rfl | rfl | rfl <;> decide +kernel
theorem law_ConfigsOf (n k : Int) : F_laws_FnExactConfigsOf n k = true := by
  unfold F_laws_FnExactConfigsOf
  rw [← configs_eq, eqIntSS_refl, heldIntSS_marked _ 1 (by omega), markIntSS_eq]
  have h1 : ¬ ((1 : Int) + (total (F_impl_ConfigsOf n k).1 : Int) < 0) := by omega
  simp [h1]
end Go.Proofs.Ytpfpbgkjgpgceaa
