/-
  Closing a table of distances by ways through one point after another: plain laws. No condition.
-/
import Derived.Test.YtfhhfhiooehlcaaPlain
namespace Go.Proofs.Ytfhhfhiooehlcaa

/-- One round of the closing: ways through k. -/
def stage (k : Nat) (D : Nat → Nat → Int) : Nat → Nat → Int := fun x z => min (D x z) (D x k + D k z)
def stages (D : Nat → Nat → Int) : Nat → Nat → Nat → Int
  | 0 => D
  | k + 1 => stage k (stages D k)
theorem stages_pos {D : Nat → Nat → Int} (h : ∀ x z, 0 ≤ D x z) : ∀ k x z, 0 ≤ stages D k x z
  | 0, x, z => h x z
  | k + 1, x, z => by
    have h1 := stages_pos h k x z; have h2 := stages_pos h k x k; have h3 := stages_pos h k k z
    simp only [stages, stage]; omega
theorem stages_step {D : Nat → Nat → Int} (k x z : Nat) : stages D (k + 1) x z ≤ stages D k x z := by
  simp only [stages, stage]; omega
theorem stages_le {D : Nat → Nat → Int} : ∀ k x z, stages D k x z ≤ D x z
  | 0, _, _ => Int.le_refl _
  | k + 1, x, z => Int.le_trans (stages_step k x z) (stages_le k x z)
theorem stages_diag {D : Nat → Nat → Int} (h : ∀ x z, 0 ≤ D x z) (h0 : ∀ x, D x x = 0) (k x : Nat) : stages D k x x = 0 := by
  have h1 := stages_pos h k x x; have h2 := stages_le (D := D) k x x; rw [h0] at h2; omega
/-- What stands in row k and column k stays. -/
theorem stage_row {D : Nat → Nat → Int} (h : ∀ x z, 0 ≤ D x z) (h0 : ∀ x, D x x = 0) (k z : Nat) : stages D (k + 1) k z = stages D k k z := by
  have h1 := stages_diag h h0 k k; simp only [stages, stage, h1]; omega
theorem stage_col {D : Nat → Nat → Int} (h : ∀ x z, 0 ≤ D x z) (h0 : ∀ x, D x x = 0) (k x : Nat) : stages D (k + 1) x k = stages D k x k := by
  have h1 := stages_diag h h0 k k; simp only [stages, stage, h1]; omega
theorem stages_tri {D : Nat → Nat → Int} (h : ∀ x z, 0 ≤ D x z) (h0 : ∀ x, D x x = 0) : ∀ k y x z, y < k → stages D k x z ≤ stages D k x y + stages D k y z
  | 0, _, _, _, hy => by omega
  | k + 1, y, x, z, hy => by
    have p := stages_pos h k
    have ih := stages_tri h h0 k
    rcases Nat.lt_or_eq_of_le (Nat.le_of_lt_succ hy) with hy | rfl
    · have a1 := ih y x z hy; have a2 := ih y k z hy; have a3 := ih y x k hy
      have b1 := p k y; have b2 := p y k
      simp only [stages, stage]; omega
    · rw [stage_row h h0 y z, stage_col h h0 y x]
      simp only [stages, stage]; omega
theorem stages_bound {D : Nat → Nat → Int} {F : Int} (h : ∀ x z, 0 ≤ D x z) (hb : ∀ x z, D x z = F ∨ D x z ≤ 99) : ∀ k x z, 99 * 2 ^ k < F → stages D k x z = F ∨ stages D k x z ≤ 99 * 2 ^ k
  | 0, x, z, _ => by have := hb x z; simp only [stages, Int.pow_zero]; omega
  | k + 1, x, z, hF => by
    have e : (2 : Int) ^ (k + 1) = 2 * 2 ^ k := by rw [Int.pow_succ]; omega
    have hF' : 99 * 2 ^ k < F := by rw [e] at hF; have : (0 : Int) < 2 ^ k := Int.pow_pos (by omega); omega
    have p := stages_pos h k
    have h1 := stages_bound h hb k x z hF'; have h2 := stages_bound h hb k x k hF'; have h3 := stages_bound h hb k k z hF'
    have p1 := p x z; have p2 := p x k; have p3 := p k z
    rw [e]
    simp only [stages, stage]
    have : (0 : Int) < 2 ^ k := Int.pow_pos (by omega)
    omega
/-- Each finite sum begins with a step. -/
theorem stages_first {D : Nat → Nat → Int} {F : Int} (n : Nat) (h : ∀ x z, 0 ≤ D x z) (h0 : ∀ x, D x x = 0) : ∀ k, k ≤ n → ∀ x z, x < n → z < n → x ≠ z → stages D k x z < F → ∃ y, y < n ∧ y ≠ x ∧ D x y < F ∧ D x y + stages D k y z ≤ stages D k x z
  | 0, _, x, z, hx, hz, hne, hf => ⟨z, hz, Ne.symm hne, hf, by show D x z + D z z ≤ D x z; rw [h0]; omega⟩
  | k + 1, hk, x, z, hx, hz, hne, hf => by
    have p := stages_pos h k
    have ih := stages_first (F := F) n h h0 k (by omega)
    by_cases hu : stages D k x z ≤ stages D k x k + stages D k k z
    · have e : stages D (k + 1) x z = stages D k x z := by simp only [stages, stage]; omega
      rw [e] at hf
      obtain ⟨y, h1, h2, h3, h4⟩ := ih x z hx hz hne hf
      refine ⟨y, h1, h2, h3, ?_⟩
      have := stages_step (D := D) k y z
      omega
    · have e : stages D (k + 1) x z = stages D k x k + stages D k k z := by simp only [stages, stage]; omega
      have hxk : x ≠ k := by
        intro hh; subst hh
        rw [stages_diag h h0] at hu; omega
      have p3 := p k z
      obtain ⟨y, h1, h2, h3, h4⟩ := ih x k hx (by omega) hxk (by omega)
      refine ⟨y, h1, h2, h3, ?_⟩
      have : stages D (k + 1) y z ≤ stages D k y k + stages D k k z := by simp only [stages, stage]; omega
      omega
end Go.Proofs.Ytfhhfhiooehlcaa
