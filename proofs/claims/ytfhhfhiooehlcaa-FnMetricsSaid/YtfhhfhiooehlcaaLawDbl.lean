/-
  Plain laws: what double coverage moves is what the potential loses. No condition.
-/
import Derived.Test.YtfhhfhiooehlcaaLawCov
namespace Go.Proofs.Ytfhhfhiooehlcaa

/-- What both steps come to; nobody moves only where one stands already. -/
theorem cover_four {row : List Int} {r : Int} (h : Row row) (_h0 : 0 ≤ r) (_h9 : r ≤ 99) : F_impl_covered row r = (F_spec_l6Cover row r).1 ∧
    (((∃ i, i < row.length ∧ row.getD i 0 = r) ∧ F_spec_l6Cover row r = (row, 0)) ∨ (r < row.getD 0 0 ∧ F_spec_l6Cover row r = (row.set 0 r, row.getD 0 0 - r)) ∨ (row.getD (row.length - 1) 0 < r ∧ F_spec_l6Cover row r = (row.set (row.length - 1) r, r - row.getD (row.length - 1) 0)) ∨
     ∃ k, k + 1 < row.length ∧ row.getD k 0 < r ∧ r < row.getD (k + 1) 0 ∧ F_spec_l6Cover row r = ((row.set k (row.getD k 0 + min (r - row.getD k 0) (row.getD (k + 1) 0 - r))).set (k + 1) (row.getD (k + 1) 0 - min (r - row.getD k 0) (row.getD (k + 1) 0 - r)), 2 * min (r - row.getD k 0) (row.getD (k + 1) 0 - r))) := by
  obtain ⟨k, hb, hk, hlo, hhi⟩ := bs_spec r h.2.2
  have hlen := h.1
  have elast : ((row.length : Int) - 1).toNat = row.length - 1 := by omega
  unfold F_impl_covered F_spec_l6Cover
  rw [hb, elast]
  dsimp only
  by_cases hf : k < row.length ∧ row.getD k 0 = r
  · rw [decide_eq_true hf, (l1Has_iff row r).2 ⟨k, hf⟩]
    exact ⟨rfl, .inl ⟨⟨k, hf⟩, rfl⟩⟩
  · have hnot : F_spec_l1Has row r = false := by
      rw [Bool.eq_false_iff]
      intro hh
      obtain ⟨i, hi, he⟩ := (l1Has_iff row r).1 hh
      rcases Nat.lt_or_ge i k with hik | hik
      · have := hlo i hik; omega
      · have h1 := hhi k (Nat.le_refl _) (by omega)
        have h2 := sorted_le h.2.2 (i - k) k (by omega)
        rw [show k + (i - k) = i by omega] at h2
        exact hf ⟨by omega, by omega⟩
    rw [decide_eq_false hf, hnot, cond_false, cond_false]
    have hgt : k < row.length → r < row.getD k 0 := fun hkl => by
      have := hhi k (Nat.le_refl _) hkl
      have : row.getD k 0 ≠ r := fun he => hf ⟨hkl, he⟩
      omega
    by_cases hk0 : k = 0
    · subst hk0
      have := hgt (by omega)
      rw [decide_eq_true (show ((0 : Nat) : Int) = 0 from rfl), decide_eq_true this]
      exact ⟨rfl, .inr (.inl ⟨this, rfl⟩)⟩
    · have h1 : ¬ ((k : Int) = 0) := by omega
      have h2 := hlo 0 (by omega)
      rw [decide_eq_false h1, decide_eq_false (show ¬ r < row.getD 0 0 by omega), cond_false, cond_false]
      by_cases hkl : k = row.length
      · have h3 := hlo (row.length - 1) (by omega)
        rw [decide_eq_true (show (k : Int) = (row.length : Int) by omega), decide_eq_true h3]
        have e1 : ((k : Int) - 1).toNat = row.length - 1 := by omega
        rw [e1]
        exact ⟨rfl, .inr (.inr (.inl ⟨h3, rfl⟩))⟩
      · have h3 := sorted_le h.2.2 (row.length - 1 - k) k (by omega)
        rw [show k + (row.length - 1 - k) = row.length - 1 by omega] at h3
        have h4 := hgt (by omega)
        rw [decide_eq_false (show ¬ (k : Int) = (row.length : Int) by omega), decide_eq_false (show ¬ row.getD (row.length - 1) 0 < r by omega), cond_false, cond_false]
        rw [cover_L1 row r k (fun i hi => hlo (i + 1) hi) (by omega) (row.length - 0 + 1) 0 (by omega) (by omega)]
        have e1 : ((k : Int) - 1).toNat = k - 1 := by omega
        have e2 : (k : Int).toNat = k := by omega
        have e3 : k - 1 + 1 = k := by omega
        simp only [elim_next, l1Least_eq, e1, e2, e3]
        have e4 : ∀ X : Int, (row.set (k - 1) X).getD k 0 = row.getD k 0 := fun X => getD_set_ne _ _ _ _ _ (by omega)
        rw [e4]
        refine ⟨rfl, .inr (.inr (.inr ⟨k - 1, by omega, hlo (k - 1) (by omega), by rw [e3]; exact h4, by rw [e3]⟩))⟩
theorem spread_val (a : List Int) : F_spec_l6Spread a = foldFrom (addsUp a) 0 a.length 0 := by
  unfold F_spec_l6Spread
  rw [fold_last (F_spec_l6Spread_L1 a) a.length (addsUp a) (fun m s i => by rw [F_spec_l6Spread_L1_s, spread_L2]; rfl) _ _ _ (by omega)]
  rfl
theorem dist_val1 {a : List Int} (b : List Int) (e : a.length = 1) : F_impl_rowDistance a b = max (a.getD 0 0 - b.getD 0 0) (-(a.getD 0 0 - b.getD 0 0)) := by
  rw [dist_fold, e]; simp only [foldFrom]; omega
theorem dist_val2 {a : List Int} (b : List Int) (e : a.length = 2) : F_impl_rowDistance a b = max (a.getD 0 0 - b.getD 0 0) (-(a.getD 0 0 - b.getD 0 0)) + max (a.getD 1 0 - b.getD 1 0) (-(a.getD 1 0 - b.getD 1 0)) := by
  rw [dist_fold, e]; simp only [foldFrom, Nat.zero_add]; omega
theorem dist_val3 {a : List Int} (b : List Int) (e : a.length = 3) : F_impl_rowDistance a b = max (a.getD 0 0 - b.getD 0 0) (-(a.getD 0 0 - b.getD 0 0)) + max (a.getD 1 0 - b.getD 1 0) (-(a.getD 1 0 - b.getD 1 0)) + max (a.getD 2 0 - b.getD 2 0) (-(a.getD 2 0 - b.getD 2 0)) := by
  rw [dist_fold, e]; simp only [foldFrom, Nat.zero_add, Nat.reduceAdd]; omega
theorem spread_val1 {a : List Int} (e : a.length = 1) : F_spec_l6Spread a = 0 := by
  rw [spread_val, e]; simp only [foldFrom, addsUp]
theorem spread_val2 {a : List Int} (e : a.length = 2) : F_spec_l6Spread a = a.getD 1 0 - a.getD 0 0 := by
  rw [spread_val, e]; simp only [foldFrom, addsUp, Nat.zero_add]; omega
theorem spread_val3 {a : List Int} (e : a.length = 3) : F_spec_l6Spread a = (a.getD 1 0 - a.getD 0 0) + (a.getD 2 0 - a.getD 0 0) + (a.getD 2 0 - a.getD 1 0) := by
  rw [spread_val, e]; simp only [foldFrom, addsUp, Nat.zero_add, Nat.reduceAdd]; omega
/-- The potential. -/
def pot (a b : List Int) : Int := (a.length : Int) * F_impl_rowDistance a b + F_spec_l6Spread a
theorem len_cases {a : List Int} (h : Row a) : a.length = 1 ∨ a.length = 2 ∨ a.length = 3 := by have := h.1; omega
theorem dc_pot {row o : List Int} (h : Row row) (ho : Row o) (hl : row.length = o.length) {r : Int} (hr : ∃ j, j < o.length ∧ o.getD j 0 = r) :
    (F_spec_l6Cover row r).2 + pot (F_spec_l6Cover row r).1 o ≤ pot row o ∧ ∃ j, j < (F_spec_l6Cover row r).1.length ∧ (F_spec_l6Cover row r).1.getD j 0 = r := by
  obtain ⟨j, hj, rfl⟩ := hr
  have hrb := ho.2.1 j hj
  obtain ⟨_, hc⟩ := cover_four h hrb.1 hrb.2
  have s1 := h.2.2 0
  have s2 := h.2.2 1
  have o1 := ho.2.2 0
  have o2 := ho.2.2 1
  have hlen := len_cases h
  obtain ⟨r, hr⟩ : ∃ r, o.getD j 0 = r := ⟨_, rfl⟩
  have hrr : (o.length = 1 → r = o.getD 0 0) ∧ (o.length = 2 → r = o.getD 0 0 ∨ r = o.getD 1 0) ∧ (o.length = 3 → r = o.getD 0 0 ∨ r = o.getD 1 0 ∨ r = o.getD 2 0) := by
    have hj3 : j = 0 ∨ j = 1 ∨ j = 2 := by have := ho.1; omega
    rcases hj3 with rfl | rfl | rfl
    · exact ⟨fun _ => hr.symm, fun _ => .inl hr.symm, fun _ => .inl hr.symm⟩
    · exact ⟨fun _ => by omega, fun _ => .inr hr.symm, fun _ => .inr (.inl hr.symm)⟩
    · exact ⟨fun _ => by omega, fun _ => by omega, fun _ => .inr (.inr hr.symm)⟩
  rw [hr] at hc hrb ⊢
  unfold pot
  have g1 : ∀ (p : Nat) (X : Int), p < row.length → ∀ j, (row.set p X).getD j 0 = if p = j then X else row.getD j 0 := fun p X hp j => getD_set _ _ _ _ hp
  have g2 : ∀ (p : Nat) (X Y : Int), p + 1 < row.length → ∀ j, ((row.set p X).set (p + 1) Y).getD j 0 = if p + 1 = j then Y else if p = j then X else row.getD j 0 := fun p X Y hp j => by
    rw [getD_set _ _ _ _ (by simp; omega), getD_set _ _ _ _ (by omega)]
  rcases hc with ⟨hm, h2⟩ | ⟨h3, h2⟩ | ⟨h3, h2⟩ | ⟨k, h3, h4, h5, h2⟩ <;> rw [h2] <;> dsimp only
  · exact ⟨by omega, hm⟩
  · refine ⟨?_, 0, by simp; omega, by rw [g1 0 r (by omega)]; simp⟩
    rcases hlen with e | e | e
    · rw [dist_val1 o (by simpa using e), dist_val1 o e, spread_val1 (by simpa using e), spread_val1 e, List.length_set, e, g1 0 r (by omega)]
      have := hrr.1 (by omega)
      simp only [if_true]
      omega
    · rw [dist_val2 o (by simpa using e), dist_val2 o e, spread_val2 (by simpa using e), spread_val2 e, List.length_set, e, g1 0 r (by omega), g1 0 r (by omega)]
      have := hrr.2.1 (by omega)
      simp only [if_true, Nat.zero_ne_one, if_false]
      have := s1 (by omega); have := o1 (by omega)
      simp only [Nat.zero_add] at *
      omega
    · rw [dist_val3 o (by simpa using e), dist_val3 o e, spread_val3 (by simpa using e), spread_val3 e, List.length_set, e, g1 0 r (by omega), g1 0 r (by omega), g1 0 r (by omega)]
      have := hrr.2.2 (by omega)
      rw [if_pos rfl, if_neg (show ¬ 0 = 1 by omega), if_neg (show ¬ 0 = 2 by omega)]
      have := s1 (by omega); have := o1 (by omega); have := s2 (by omega); have := o2 (by omega)
      simp only [Nat.zero_add, Nat.reduceAdd] at *
      omega
  · refine ⟨?_, row.length - 1, by simp; omega, by rw [g1 (row.length - 1) r (by omega)]; simp⟩
    rcases hlen with e | e | e
    · rw [dist_val1 o (by simpa using e), dist_val1 o e, spread_val1 (by simpa using e), spread_val1 e, List.length_set, g1 (row.length - 1) r (by omega)]
      rw [e] at h3 ⊢
      simp only [Nat.sub_self, if_true] at h3 ⊢
      have := hrr.1 (by omega)
      omega
    · rw [dist_val2 o (by simpa using e), dist_val2 o e, spread_val2 (by simpa using e), spread_val2 e, List.length_set, g1 (row.length - 1) r (by omega), g1 (row.length - 1) r (by omega)]
      rw [e] at h3 ⊢
      rw [if_neg (show ¬ 2 - 1 = 0 by omega), if_pos (show 2 - 1 = 1 by omega)]
      rw [show 2 - 1 = 1 by omega] at h3 ⊢
      have := hrr.2.1 (by omega)
      have := s1 (by omega); have := o1 (by omega)
      simp only [Nat.zero_add] at *
      omega
    · rw [dist_val3 o (by simpa using e), dist_val3 o e, spread_val3 (by simpa using e), spread_val3 e, List.length_set, g1 (row.length - 1) r (by omega), g1 (row.length - 1) r (by omega), g1 (row.length - 1) r (by omega)]
      rw [e] at h3 ⊢
      rw [if_neg (show ¬ 3 - 1 = 0 by omega), if_neg (show ¬ 3 - 1 = 1 by omega), if_pos (show 3 - 1 = 2 by omega)]
      rw [show 3 - 1 = 2 by omega] at h3 ⊢
      have := hrr.2.2 (by omega)
      have := s1 (by omega); have := o1 (by omega); have := s2 (by omega); have := o2 (by omega)
      simp only [Nat.zero_add, Nat.reduceAdd] at *
      omega
  · have hab := h.2.2 k h3
    refine ⟨?_, ?_⟩
    · rcases hlen with e | e | e
      · omega
      · obtain rfl : k = 0 := by omega
        rw [dist_val2 o (by simpa using e), dist_val2 o e, spread_val2 (by simpa using e), spread_val2 e, List.length_set, List.length_set, e, g2 0 _ _ (by omega), g2 0 _ _ (by omega)]
        rw [if_neg (show ¬ 0 + 1 = 0 by omega), if_pos rfl, if_pos (show 0 + 1 = 1 by omega)]
        have := hrr.2.1 (by omega)
        have := o1 (by omega)
        simp only [Nat.zero_add] at *
        omega
      · have hk : k = 0 ∨ k = 1 := by omega
        have := hrr.2.2 (by omega)
        have := s1 (by omega); have := o1 (by omega); have := s2 (by omega); have := o2 (by omega)
        rcases hk with rfl | rfl
        · rw [dist_val3 o (by simpa using e), dist_val3 o e, spread_val3 (by simpa using e), spread_val3 e, List.length_set, List.length_set, e, g2 0 _ _ (by omega), g2 0 _ _ (by omega), g2 0 _ _ (by omega)]
          rw [if_neg (show ¬ 0 + 1 = 0 by omega), if_pos rfl, if_pos (show 0 + 1 = 1 by omega), if_neg (show ¬ 0 + 1 = 2 by omega), if_neg (show ¬ 0 = 2 by omega)]
          simp only [Nat.zero_add, Nat.reduceAdd] at *
          omega
        · rw [dist_val3 o (by simpa using e), dist_val3 o e, spread_val3 (by simpa using e), spread_val3 e, List.length_set, List.length_set, e, g2 1 _ _ (by omega), g2 1 _ _ (by omega), g2 1 _ _ (by omega)]
          rw [if_neg (show ¬ 1 + 1 = 0 by omega), if_neg (show ¬ 1 = 0 by omega), if_neg (show ¬ 1 + 1 = 1 by omega), if_pos rfl, if_pos (show 1 + 1 = 2 by omega)]
          simp only [Nat.zero_add, Nat.reduceAdd] at *
          omega
    · by_cases hle : r - row.getD k 0 ≤ row.getD (k + 1) 0 - r
      · exact ⟨k, by simp; omega, by rw [g2 k _ _ h3, if_neg (by omega), if_pos rfl]; omega⟩
      · exact ⟨k + 1, by simp; omega, by rw [g2 k _ _ h3, if_pos rfl]; omega⟩
theorem dist_tri {a b c : List Int} (ha : Row a) (h1 : a.length = b.length) (h2 : a.length = c.length) : F_impl_rowDistance a c ≤ F_impl_rowDistance a b + F_impl_rowDistance b c := by
  rcases len_cases ha with e | e | e
  · rw [dist_val1 c e, dist_val1 b e, dist_val1 c (by omega)]; omega
  · rw [dist_val2 c e, dist_val2 b e, dist_val2 c (by omega)]; omega
  · rw [dist_val3 c e, dist_val3 b e, dist_val3 c (by omega)]; omega
theorem pot_tri {a b c : List Int} (ha : Row a) (h1 : a.length = b.length) (h2 : a.length = c.length) : pot a c ≤ pot a b + (a.length : Int) * F_impl_rowDistance b c := by
  have h := dist_tri ha h1 h2
  unfold pot
  rcases len_cases ha with e | e | e <;> rw [e] <;> omega
end Go.Proofs.Ytfhhfhiooehlcaa
