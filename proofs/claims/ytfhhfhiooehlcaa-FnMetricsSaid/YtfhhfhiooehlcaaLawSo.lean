/-
  Plain laws on the reference's sorting, for seats that do not call the library's sort. No condition.
-/
import Derived.Test.YtfhhfhiooehlcaaDefN
import Derived.Test.YtfhhfhiooehlcaaLawMatch
namespace Go.Proofs.Ytfhhfhiooehlcaa
open Go Go.RowKit

/-- Numbers in ascending order. -/
abbrev sortI (xs : List Int) : List Int := xs.mergeSort fun x y => decide (x ≤ y)
/-! sorting -/
def Up (l : List Int) : Prop := l.Pairwise (· ≤ ·)
theorem sortI_perm (l : List Int) : (sortI l).Perm l := List.mergeSort_perm l _
theorem sortI_up (l : List Int) : Up (sortI l) := by
  have := List.pairwise_mergeSort (le := fun (x y : Int) => decide (x ≤ y)) (fun a b c h1 h2 => by simp at *; omega) (fun a b => by simp; omega) l
  exact this.imp (fun h => by simpa using h)
theorem up_unique {a b : List Int} (ha : Up a) (hb : Up b) (h : a.Perm b) : a = b := List.Perm.eq_of_pairwise (fun x y _ _ h1 h2 => by omega) ha hb h
theorem sortI_of {l s : List Int} (hs : Up s) (h : s.Perm l) : sortI l = s := up_unique (sortI_up l) hs ((sortI_perm l).trans h.symm)
theorem sortI_congr {a b : List Int} (h : a.Perm b) : sortI a = sortI b := up_unique (sortI_up a) (sortI_up b) ((sortI_perm a).trans (h.trans (sortI_perm b).symm))
theorem sortI_length (l : List Int) : (sortI l).length = l.length := (sortI_perm l).length_eq
theorem up_getD {l : List Int} : Up l ↔ ∀ i, i + 1 < l.length → l.getD i 0 ≤ l.getD (i + 1) 0 := by
  constructor
  · intro h i hi
    have := List.pairwise_iff_getElem.1 h i (i + 1) (by omega) hi (by omega)
    rw [getD_lt l i 0 (by omega), getD_lt l (i + 1) 0 hi]; exact this
  · intro h
    refine List.pairwise_iff_getElem.2 fun i j hi hj hij => ?_
    have := sorted_le h (j - i) i (by omega)
    rw [show i + (j - i) = j by omega, getD_lt l i 0 hi, getD_lt l j 0 hj] at this
    exact this
theorem mem_getD {l : List Int} {v : Int} : v ∈ l ↔ ∃ i, i < l.length ∧ l.getD i 0 = v := by
  constructor
  · intro h
    obtain ⟨i, hi, rfl⟩ := List.getElem_of_mem h
    exact ⟨i, hi, getD_lt l i 0 hi⟩
  · rintro ⟨i, hi, rfl⟩; exact getD_mem l i 0 hi
theorem sort_L2 (list out : List Int) (i : Nat) (hu : Up out) : ∀ fuel k, out.length - k < fuel → k ≤ out.length → (∀ j, j < k → out.getD j 0 ≤ list.getD i 0) →
    ∃ k', F_spec_l6Sort_L2 list out i fuel k = .next k' ∧ k' ≤ out.length ∧ (∀ j, j < k' → out.getD j 0 ≤ list.getD i 0) ∧ (∀ j, k' ≤ j → j < out.length → list.getD i 0 ≤ out.getD j 0) := by
  intro fuel
  induction fuel with
  | zero => intro k h; omega
  | succ mf ih =>
    intro k h hk hl
    rw [F_spec_l6Sort_L2_s]
    by_cases hc : k < out.length ∧ out.getD k 0 ≤ list.getD i 0
    · rw [decide_eq_true (show (k : Int) < (out.length : Int) by omega), decide_eq_true hc.2, Bool.and_self, cond_true]
      exact ih (k + 1) (by omega) hc.1 (upto_succ hl hc.2)
    · have : ((decide ((k : Int) < (out.length : Int))) && (decide ((out.getD k 0) ≤ (list.getD i 0)))) = false := by
        rw [Bool.eq_false_iff]; intro hh
        simp only [Bool.and_eq_true, decide_eq_true_eq] at hh
        exact hc ⟨by omega, hh.2⟩
      rw [this, cond_false]
      refine ⟨k, rfl, hk, hl, fun j h1 h2 => ?_⟩
      have h3 : ¬ out.getD k 0 ≤ list.getD i 0 := fun hh => hc ⟨by omega, hh⟩
      have h4 := sorted_le (up_getD.1 hu) (j - k) k (by omega)
      rw [show k + (j - k) = j by omega] at h4
      omega
theorem insert_up {out : List Int} {x : Int} {k : Nat} (hu : Up out) (hk : k ≤ out.length) (h1 : ∀ j, j < k → out.getD j 0 ≤ x) (h2 : ∀ j, k ≤ j → j < out.length → x ≤ out.getD j 0) : Up ((out.take k ++ [x]) ++ out.drop k) := by
  have ht : ∀ v ∈ out.take k, v ≤ x := fun v hv => by
    obtain ⟨i, hi, rfl⟩ := List.getElem_of_mem hv
    have hi' : i < k := by simp at hi; omega
    have := h1 i hi'
    rw [getD_lt out i 0 (by omega)] at this
    simpa using this
  have hd : ∀ v ∈ out.drop k, x ≤ v := fun v hv => by
    obtain ⟨i, hi, rfl⟩ := List.getElem_of_mem hv
    have hi' : k + i < out.length := by simp at hi; omega
    have := h2 (k + i) (by omega) hi'
    rw [getD_lt out (k + i) 0 hi'] at this
    simpa using this
  unfold Up
  rw [List.pairwise_append, List.pairwise_append]
  refine ⟨⟨List.Pairwise.sublist (List.take_sublist _ _) hu, by simp, fun a ha b hb => ?_⟩, List.Pairwise.sublist (List.drop_sublist _ _) hu, fun a ha b hb => ?_⟩
  · rw [List.mem_singleton.1 hb]; exact ht a ha
  · rcases List.mem_append.1 ha with ha | ha
    · have := ht a ha; have := hd b hb; omega
    · rw [List.mem_singleton.1 ha]; exact hd b hb
theorem sort_L1 (list : List Int) : ∀ fuel i out, list.length - i < fuel → i ≤ list.length → Up out → out.Perm (list.take i) → ∃ s, F_spec_l6Sort_L1 list fuel (out, i) = .next s ∧ Up s.1 ∧ s.1.Perm list := by
  intro fuel
  induction fuel with
  | zero => intro i out h; omega
  | succ mf ih =>
    intro i out h hi hu hp
    rw [F_spec_l6Sort_L1_s]
    by_cases hlt : (i : Int) < (list.length : Int)
    · obtain ⟨k, h1, h2, h3, h4⟩ := sort_L2 list out i hu (out.length - 0 + 1) 0 (by omega) (by omega) (fun j hj => by omega)
      rw [decide_eq_true hlt, cond_true, h1]
      simp only [elim_next, List.drop_zero, List.nil_append, List.take_length]
      refine ih (i + 1) _ (by omega) (by omega) (insert_up hu h2 h3 h4) ?_
      rw [List.take_succ_eq_append_getElem (by omega), ← getD_lt list i 0 (by omega)]
      have e1 : (out.take k ++ [list.getD i 0] ++ out.drop k).Perm (list.getD i 0 :: out) := by
        rw [List.append_assoc]
        refine (List.perm_middle).trans ?_
        show (list.getD i 0 :: (out.take k ++ out.drop k)).Perm _
        rw [List.take_append_drop]
      exact e1.trans ((List.Perm.cons _ hp).trans (List.perm_append_singleton _ _).symm)
    · rw [decide_eq_false hlt, cond_false]
      refine ⟨_, rfl, hu, ?_⟩
      rwa [List.take_of_length_le (by omega)] at hp
theorem l6Sort_eq (l : List Int) : F_spec_l6Sort l = sortI l := by
  unfold F_spec_l6Sort
  obtain ⟨⟨s, k⟩, h1, h2, h3⟩ := sort_L1 l (l.length - 0 + 1) 0 [] (by omega) (by omega) (by unfold Up; simp) (by simp)
  rw [h1]
  exact (sortI_of h2 h3).symm
theorem l6Sort_len (l : List Int) : (F_spec_l6Sort l).length = l.length := by rw [l6Sort_eq]; exact sortI_length l
end Go.Proofs.Ytfhhfhiooehlcaa
