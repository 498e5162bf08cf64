/-
  Plain laws on configurations of a metric, and on tables that are like a line. No condition.
-/
import Derived.Test.YtfhhfhiooehlcaaDefF
import Derived.Test.YtfhhfhiooehlcaaLawMet
namespace Go.Proofs.Ytfhhfhiooehlcaa

/-- A configuration of a metric of n points. -/
structure Cf (n : Nat) (a : List Int) : Prop where
  n1 : 1 ≤ a.length
  n3 : a.length ≤ 3
  el : ∀ i, i < a.length → 0 ≤ a.getD i 0 ∧ a.getD i 0 < n
  up : ∀ i, i + 1 < a.length → a.getD i 0 ≤ a.getD (i + 1) 0
theorem areBelow_iff (n : Int) (l : List Int) : F_impl_areBelow n l = true ↔ ∀ i, i < l.length → 0 ≤ l.getD i 0 ∧ l.getD i 0 < n := by
  unfold F_impl_areBelow
  rw [Bool.not_eq_true']
  refine ⟨fun h i hi => ?_, fun h => ?_⟩
  · have h2 : ¬ (∃ i, i < l.length ∧ F_impl_areBelow_1 (l.getD i 0) n = true) := fun hh => by rw [(contains_f _ _).2 hh] at h; cases h
    have h3 : ¬ F_impl_areBelow_1 (l.getD i 0) n = true := fun hh => h2 ⟨i, hi, hh⟩
    unfold F_impl_areBelow_1 at h3
    simp only [Bool.not_eq_true', Bool.and_eq_false_iff, decide_eq_false_iff_not] at h3
    omega
  · rw [Bool.eq_false_iff]
    intro hh
    obtain ⟨i, hi, hf⟩ := (contains_f _ _).1 hh
    have := h i hi
    unfold F_impl_areBelow_1 at hf
    simp only [Bool.not_eq_true', Bool.and_eq_false_iff, decide_eq_false_iff_not] at hf
    omega
theorem areBelow_t {n : Int} {l : List Int} (h : F_impl_areBelow n l = true) : ∀ i, i < l.length → 0 ≤ l.getD i 0 ∧ l.getD i 0 < n := (areBelow_iff n l).1 h
theorem isConfig_iff (m : List (List Int)) (a : List Int) : F_impl_Metric_isConfig m a = true ↔ Cf m.length a := by
  unfold F_impl_Metric_isConfig
  rw [Bool.and_eq_true, Bool.and_eq_true, Bool.and_eq_true, areBelow_iff, isSorted_iff, decide_eq_true_eq, decide_eq_true_eq]
  constructor
  · rintro ⟨⟨⟨h0, h1⟩, h2⟩, h3⟩; exact ⟨by omega, by omega, h2, h3⟩
  · rintro ⟨h0, h1, h2, h3⟩; exact ⟨⟨⟨by omega, by omega⟩, h2⟩, h3⟩
theorem isConfig_t {m : List (List Int)} {a : List Int} (h : F_impl_Metric_isConfig m a = true) : Cf m.length a := (isConfig_iff m a).1 h
/-! tables like a line -/
theorem foldMax_ge (g : Nat → Int) : ∀ k i s, s ≤ foldFrom (fun i s => max s (g i)) i k s
  | 0, i, s => Int.le_refl _
  | k + 1, i, s => by rw [foldFrom]; have := foldMax_ge g k (i + 1) (max s (g i)); omega
end Go.Proofs.Ytfhhfhiooehlcaa
