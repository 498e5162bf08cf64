/-
  Plain laws on rows of places on a line: what the program asks and reckons is what the reference asks and reckons. No condition.
-/
import Derived.Test.YtfhhfhiooehlcaaDefB
import Derived.Test.YtfhhfhiooehlcaaPlain
namespace Go.Proofs.Ytfhhfhiooehlcaa

theorem less_eq (x y : Int) : F_cmp_Less_int x y = decide (x < y) := by
  unfold F_cmp_Less_int; simp
theorem l1Most_eq (a b : Int) : F_spec_l1Most a b = max a b := by
  unfold F_spec_l1Most
  by_cases h : b < a
  · rw [decide_eq_true h, cond_true]; omega
  · rw [decide_eq_false h, cond_false]; omega
theorem size_eq (n : Int) : F_impl_size n = max n (-n) := rfl

/-- ContainsFunc says whether some element answers true. -/
theorem contains_f (s : List Int) (f : Int → Bool) : F_slices_ContainsFunc_Sint_int s f = true ↔ ∃ i, i < s.length ∧ f (s.getD i 0) = true := by
  unfold F_slices_ContainsFunc_Sint_int F_slices_IndexFunc_Sint_int
  rcases scan (F_slices_IndexFunc_Sint_int_L1 s f) s.length (fun i => f (s.getD i 0)) (fun i => (i : Int)) (fun m i => F_slices_IndexFunc_Sint_int_L1_s s f i m) (s.length - 0 + 1) 0 (by omega) with ⟨h1, h2⟩ | ⟨j, _, h2, h3, h4, _⟩
  · rw [h1]
    simp only [Ctl.elim]
    constructor
    · intro h; simp at h
    · rintro ⟨i, hi, hf⟩; rw [h2 i (by omega) hi] at hf; cases hf
  · rw [h3]
    simp only [Ctl.elim]
    exact ⟨fun _ => ⟨j, h2, h4⟩, fun _ => by simp⟩
theorem contains_ff (s : List (List Int)) (f : List Int → Bool) : F_slices_ContainsFunc_SSint_Sint s f = true ↔ ∃ i, i < s.length ∧ f (s.getD i []) = true := by
  unfold F_slices_ContainsFunc_SSint_Sint F_slices_IndexFunc_SSint_Sint
  rcases scan (F_slices_IndexFunc_SSint_Sint_L1 s f) s.length (fun i => f (s.getD i [])) (fun i => (i : Int)) (fun m i => F_slices_IndexFunc_SSint_Sint_L1_s s f i m) (s.length - 0 + 1) 0 (by omega) with ⟨h1, h2⟩ | ⟨j, _, h2, h3, h4, _⟩
  · rw [h1]
    simp only [Ctl.elim]
    constructor
    · intro h; simp at h
    · rintro ⟨i, hi, hf⟩; rw [h2 i (by omega) hi] at hf; cases hf
  · rw [h3]
    simp only [Ctl.elim]
    exact ⟨fun _ => ⟨j, h2, h4⟩, fun _ => by simp⟩
theorem areIn_iff (l : List Int) (many low high : Int) : F_impl_areIn l many low high = true ↔ (1 ≤ (l.length : Int) ∧ (l.length : Int) ≤ many) ∧ ∀ i, i < l.length → low ≤ l.getD i 0 ∧ l.getD i 0 ≤ high := by
  unfold F_impl_areIn
  simp only [Bool.and_eq_true, decide_eq_true_eq, Bool.not_eq_true']
  refine and_congr Iff.rfl ⟨fun h i hi => ?_, fun h => ?_⟩
  · have h2 : ¬ (∃ i, i < l.length ∧ F_impl_areIn_1 (l.getD i 0) low high = true) := fun hh => by rw [(contains_f _ _).2 hh] at h; cases h
    have h3 : ¬ F_impl_areIn_1 (l.getD i 0) low high = true := fun hh => h2 ⟨i, hi, hh⟩
    unfold F_impl_areIn_1 at h3
    simp only [Bool.not_eq_true', Bool.and_eq_false_iff, decide_eq_false_iff_not] at h3
    omega
  · rw [Bool.eq_false_iff]
    intro hh
    obtain ⟨i, hi, hf⟩ := (contains_f _ _).1 hh
    have := h i hi
    unfold F_impl_areIn_1 at hf
    simp only [Bool.not_eq_true', Bool.and_eq_false_iff, decide_eq_false_iff_not] at hf
    omega
theorem areIn_t {l : List Int} {many low high : Int} (h : F_impl_areIn l many low high = true) : (1 ≤ (l.length : Int) ∧ (l.length : Int) ≤ many) ∧ ∀ i, i < l.length → low ≤ l.getD i 0 ∧ l.getD i 0 ≤ high := (areIn_iff l many low high).1 h

theorem sorted_L1 (x : List Int) : ∀ (fuel : Nat) (i : Int), -1 ≤ i → (i + 1).toNat < fuel → i < x.length →
    ((∃ i', F_slices_IsSorted_Sint_int_L1 x fuel i = .next i') ∧ ∀ j : Nat, 0 < j → (j : Int) ≤ i → x.getD (j - 1) 0 ≤ x.getD j 0) ∨ (F_slices_IsSorted_Sint_int_L1 x fuel i = .ret false ∧ ∃ j : Nat, 0 < j ∧ (j : Int) ≤ i ∧ x.getD j 0 < x.getD (j - 1) 0) := by
  intro fuel
  induction fuel with
  | zero => intro i _ h; omega
  | succ m ih =>
    intro i h0 h hl
    rw [F_slices_IsSorted_Sint_int_L1_s, less_eq]
    by_cases hi : 0 < i
    · rw [decide_eq_true hi, cond_true]
      have e1 : (i - 1).toNat = i.toNat - 1 := by omega
      rw [e1]
      by_cases hx : x.getD i.toNat 0 < x.getD (i.toNat - 1) 0
      · rw [decide_eq_true hx, cond_true]
        exact .inr ⟨rfl, i.toNat, by omega, by omega, hx⟩
      · rw [decide_eq_false hx, cond_false]
        rcases ih (i - 1) (by omega) (by omega) (by omega) with ⟨h1, h2⟩ | ⟨h1, j, h2, h3, h4⟩
        · refine .inl ⟨h1, fun j hj hji => ?_⟩
          by_cases e : j = i.toNat
          · subst e; omega
          · exact h2 j hj (by omega)
        · exact .inr ⟨h1, j, h2, by omega, h4⟩
    · rw [decide_eq_false hi, cond_false]
      exact .inl ⟨⟨i, rfl⟩, fun j h1 h2 => by omega⟩
theorem isSorted_iff (x : List Int) : F_slices_IsSorted_Sint_int x = true ↔ ∀ i, i + 1 < x.length → x.getD i 0 ≤ x.getD (i + 1) 0 := by
  unfold F_slices_IsSorted_Sint_int
  rcases sorted_L1 x (((x.length : Int) - 1 + 1).toNat + 1) ((x.length : Int) - 1) (by omega) (by omega) (by omega) with ⟨⟨i', h1⟩, h2⟩ | ⟨h1, j, h2, h3, h4⟩
  · rw [h1]
    simp only [Ctl.elim, true_iff]
    intro i hi
    have := h2 (i + 1) (by omega) (by omega)
    simpa using this
  · rw [h1]
    simp only [Ctl.elim, Bool.false_eq_true, false_iff]
    intro h
    have := h (j - 1) (by omega)
    rw [show j - 1 + 1 = j by omega] at this
    omega
theorem isRow_iff (a : List Int) : F_impl_isRow a = true ↔ Row a := by
  unfold F_impl_isRow Row
  rw [Bool.and_eq_true, areIn_iff, isSorted_iff]
  constructor
  · rintro ⟨⟨h1, h2⟩, h3⟩; exact ⟨by omega, h2, h3⟩
  · rintro ⟨h1, h2, h3⟩; exact ⟨⟨by omega, h2⟩, h3⟩
theorem isRow_t {a : List Int} (h : F_impl_isRow a = true) : Row a := (isRow_iff a).1 h
theorem areRows_iff (a b : List Int) : F_impl_areRows a b = true ↔ Row a ∧ Row b ∧ a.length = b.length := by
  unfold F_impl_areRows
  rw [Bool.and_eq_true, Bool.and_eq_true, isRow_iff, isRow_iff, decide_eq_true_eq]
  constructor
  · rintro ⟨⟨h1, h2⟩, h3⟩; exact ⟨h1, h2, by omega⟩
  · rintro ⟨h1, h2, h3⟩; exact ⟨⟨h1, h2⟩, by omega⟩
theorem areRows_t {a b : List Int} (h : F_impl_areRows a b = true) : Row a ∧ Row b ∧ a.length = b.length := (areRows_iff a b).1 h
theorem places_iff (l : List Int) : F_spec_l6Places l = true ↔ ∀ i, i < l.length → 0 ≤ l.getD i 0 ∧ l.getD i 0 ≤ 99 := by
  unfold F_spec_l6Places
  rcases scan (F_spec_l6Places_L1 l) l.length (fun i => !(decide (0 ≤ l.getD i 0) && decide (l.getD i 0 ≤ 99))) (fun _ => false) (fun m i => F_spec_l6Places_L1_s l i m) (l.length - 0 + 1) 0 (by omega) with ⟨h1, h2⟩ | ⟨j, _, h2, h3, h4, _⟩
  · rw [h1]
    simp only [Ctl.elim, true_iff]
    intro i hi
    have := h2 i (by omega) hi
    simp only [Bool.not_eq_false', Bool.and_eq_true, decide_eq_true_eq] at this
    exact this
  · rw [h3]
    simp only [Ctl.elim, Bool.false_eq_true, false_iff]
    intro h
    have := h j h2
    simp only [Bool.not_eq_true', Bool.and_eq_false_iff, decide_eq_false_iff_not] at h4
    omega
theorem ascending_iff (x : List Int) : F_spec_l6Ascending x = true ↔ ∀ i, i + 1 < x.length → x.getD i 0 ≤ x.getD (i + 1) 0 := by
  unfold F_spec_l6Ascending
  rcases scan (F_spec_l6Ascending_L1 x) x.length (fun i => decide (x.getD i 0 < x.getD (((i : Int) - 1).toNat) 0)) (fun _ => false) (fun m i => F_spec_l6Ascending_L1_s x i m) (x.length - 1 + 1) 1 (by omega) with ⟨h1, h2⟩ | ⟨j, hj, h2, h3, h4, _⟩
  · rw [h1]
    simp only [Ctl.elim, true_iff]
    intro i hi
    have := h2 (i + 1) (by omega) hi
    rw [decide_eq_false_iff_not, show (((i + 1 : Nat) : Int) - 1).toNat = i by omega] at this
    omega
  · rw [h3]
    simp only [Ctl.elim, Bool.false_eq_true, false_iff]
    intro h
    have := h (j - 1) (by omega)
    rw [decide_eq_true_eq, show ((j : Int) - 1).toNat = j - 1 by omega] at h4
    rw [show j - 1 + 1 = j by omega] at this
    omega
theorem l6Row_iff (a : List Int) : F_spec_l6Row a = true ↔ Row a := by
  unfold F_spec_l6Row Row
  rw [Bool.and_eq_true, Bool.and_eq_true, Bool.and_eq_true, places_iff, ascending_iff, decide_eq_true_eq, decide_eq_true_eq]
  constructor
  · rintro ⟨⟨⟨h0, h1⟩, h2⟩, h3⟩; exact ⟨by omega, h2, h3⟩
  · rintro ⟨h1, h2, h3⟩; exact ⟨⟨⟨by omega, by omega⟩, h2⟩, h3⟩
theorem l6Row_t {a : List Int} (h : F_spec_l6Row a = true) : Row a := (l6Row_iff a).1 h
theorem l6Row_eq (a : List Int) : F_spec_l6Row a = F_impl_isRow a := by
  rw [Bool.eq_iff_iff, l6Row_iff, isRow_iff]
theorem apart_eq (a b : List Int) : F_impl_rowDistance a b = F_spec_l6Apart a b := by
  unfold F_impl_rowDistance F_spec_l6Apart
  rw [fold_last (F_impl_rowDistance_L1 a b) a.length (fun i s => s + max (a.getD i 0 - b.getD i 0) (-(a.getD i 0 - b.getD i 0))) (fun m s i => F_impl_rowDistance_L1_s a b s i m) _ _ _ (by omega),
    fold_last (F_spec_l6Apart_L1 a b) a.length (fun i s => s + F_spec_l1Most (a.getD i 0 - b.getD i 0) (b.getD i 0 - a.getD i 0)) (fun m s i => F_spec_l6Apart_L1_s a b s i m) _ _ _ (by omega)]
  simp only [Ctl.elim]
  refine foldFrom_congr _ _ _ _ _ fun j s _ _ => ?_
  rw [l1Most_eq, show -(a.getD j 0 - b.getD j 0) = b.getD j 0 - a.getD j 0 by omega]
theorem rowDistance_eq (a b : List Int) : F_impl_RowDistance a b = F_spec_RowDistance a b := by
  unfold F_impl_RowDistance F_spec_RowDistance
  rw [apart_eq, l6Row_eq, l6Row_eq]
  unfold F_impl_areRows
  cases F_impl_isRow a <;> cases F_impl_isRow b <;> simp
end Go.Proofs.Ytfhhfhiooehlcaa
