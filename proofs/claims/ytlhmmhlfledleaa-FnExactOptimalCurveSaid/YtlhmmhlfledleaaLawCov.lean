/-
  Plain laws on double coverage: the program's step is the reference's, the potentials are the same. No condition.
-/
import Derived.Test.YtlhmmhlfledleaaDefD
import Derived.Test.YtlhmmhlfledleaaLawTab
namespace Go.Proofs.Ytlhmmhlfledleaa

theorem l1Has_iff (l : List Int) (n : Int) : F_spec_l1Has l n = true ↔ ∃ i, i < l.length ∧ l.getD i 0 = n := by
  unfold F_spec_l1Has
  rcases scan (F_spec_l1Has_L1 l n) l.length (fun i => decide (l.getD i 0 = n)) (fun _ => true) (fun m i => F_spec_l1Has_L1_s l n i m) (l.length - 0 + 1) 0 (by omega) with ⟨h1, h2⟩ | ⟨j, _, h2, h3, h4, _⟩
  · rw [h1]
    simp only [Ctl.elim]
    constructor
    · intro h; simp at h
    · rintro ⟨i, hi, hf⟩; have := h2 i (by omega) hi; rw [decide_eq_false_iff_not] at this; exact absurd hf this
  · rw [h3]
    simp only [Ctl.elim, true_iff]
    exact ⟨j, h2, by simpa using h4⟩
theorem l1Has_f {l : List Int} {n : Int} (h : F_spec_l1Has l n = false) : ∀ i, i < l.length → l.getD i 0 ≠ n := fun i hi he => by
  rw [(l1Has_iff l n).2 ⟨i, hi, he⟩] at h; cases h
theorem sorted_le {x : List Int} (hs : ∀ i, i + 1 < x.length → x.getD i 0 ≤ x.getD (i + 1) 0) : ∀ d i, i + d < x.length → x.getD i 0 ≤ x.getD (i + d) 0
  | 0, i, _ => Int.le_refl _
  | d + 1, i, h => Int.le_trans (sorted_le hs d i (by omega)) (hs (i + d) h)
theorem getD_set (l : List Int) (i j : Nat) (x : Int) (h : i < l.length) : (l.set i x).getD j 0 = if i = j then x else l.getD j 0 := by
  by_cases e : i = j
  · subst e; rw [if_pos rfl, getD_set_eq _ _ _ _ h]
  · rw [if_neg e, getD_set_ne _ _ _ _ _ e]
/-! the potential -/
theorem foldFrom_add (f : Nat → Int → Int) (g : Nat → Int) (hf : ∀ i s, f i s = s + g i) : ∀ k i s, foldFrom f i k s = s + foldFrom f i k 0
  | 0, _, s => by simp [foldFrom]
  | k + 1, i, s => by
    rw [foldFrom, foldFrom, foldFrom_add f g hf k (i + 1) (f i s), foldFrom_add f g hf k (i + 1) (f i 0), hf, hf]; omega
def addsUp (row : List Int) (i : Nat) (s : Int) : Int := foldFrom (fun k s => s + row.getD i 0 - row.getD k 0) 0 i s
theorem addsUp_add (row : List Int) (i : Nat) (s : Int) : addsUp row i s = s + addsUp row i 0 :=
  foldFrom_add _ (fun k => row.getD i 0 - row.getD k 0) (fun _ _ => by omega) i 0 s
theorem addsUp_le {a : List Int} (ha : Row a) (i : Nat) (s : Int) : s - 99 * i ≤ addsUp a i s ∧ addsUp a i s ≤ s + 99 * i := by
  have h := foldFrom_inv (fun k t => t + a.getD i 0 - a.getD k 0) (fun k t => s - 99 * k ≤ t ∧ t ≤ s + 99 * k) i 0 s (by omega) (fun j t _ _ h => by
    have h1 := ha.el j; have h2 := ha.el i; omega)
  simp only [Nat.zero_add] at h
  exact h
theorem take_el {a : List Int} (ha : Row a) (i k : Nat) : 0 ≤ ((a.take i).drop 0).getD k 0 ∧ ((a.take i).drop 0).getD k 0 ≤ 99 := by
  by_cases h : k < ((a.take i).drop 0).length
  · have hk : k < i := by simp at h; omega
    have : ((a.take i).drop 0).getD k 0 = a.getD k 0 := by simp [hk]
    rw [this]; exact ha.el k
  · rw [getD_ge _ k 0 (by omega)]; omega
theorem take_len (a : List Int) (i : Nat) : ((a.take i).drop 0).length ≤ i := by simp; omega
end Go.Proofs.Ytlhmmhlfledleaa
